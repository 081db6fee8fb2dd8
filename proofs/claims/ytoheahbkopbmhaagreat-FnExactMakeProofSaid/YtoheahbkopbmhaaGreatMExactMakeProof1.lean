/- Texts 1 of 4 that the claim leans on: plain laws and the walks' contracts, in order. -/
import Derived.WalkKit
import Derived.ProofKit
import Derived.OpenShut
import Derived.Handy
import Derived.Lib.Hide
import Derived.Deep.LoopGhost
import Derived.Deep.OwnRows
import Derived.Laws.OwnMore
import Derived.Deep.Draws
import Derived.Deep.QuietTactic
import Derived.BigQuiet
import Derived.Deep.RegionWith
import Derived.WalkSpells
import Derived.WalkLawsBesides
import Derived.Deep.Slices
import Derived.Deep.Fields
import Derived.ChangeSame
import Derived.Test.YtoheahbkopbmhaaGreatRows
import Derived.Lib.SmallJoins
import Derived.SliceStrings
import Derived.JoinedCond
import Derived.SizedLaws
import Derived.Deep.RegionHeld3
import Derived.StillTailTactics
import Derived.Laws.BytesArg
import Derived.PlainAid
import Derived.Deep.AppendLies
import Derived.Maps.AppendAt
import Derived.Deep.DeepCutAuto
/- Plain words for slices that read as lists, kept over worlds that only grow. -/
namespace Go.Proofs.YtoheahbkopbmhaaGreat
set_option linter.unusedVariables false
set_option linter.unusedSimpArgs false
open Go.ChangeShapes Go.WideShapes Go.ChangeAt Go.RowKit Go.Deep

def I64 (x : Int) : Prop := -9223372036854775808 ≤ x ∧ x ≤ 9223372036854775807

/-! ### Worlds -/
theorem bcell {W w1 : World} (hb : Below W.heap.size W w1) : (∀ b o, b < W.heap.size → w1.cell? ⟨b, o, none⟩ = W.cell? ⟨b, o, none⟩) ∧ (∀ b o, b < W.heap.size → w1.frozen? ⟨b, o, none⟩ = W.frozen? ⟨b, o, none⟩) :=
  ⟨fun b o h => hb.cell (p := ⟨b, o, none⟩) h, fun b o h => hb.frozen (p := ⟨b, o, none⟩) h⟩
theorem below_drewN {B : Nat} {a w : World} (h : Below B a w) (n : Nat) : Below B a (w.drewN n) := ⟨h.os, h.tape, h.output, h.size, h.block⟩
theorem below_then {B : Nat} {a W w1 : World} (h1 : Below W.heap.size W w1) (h0 : Below B a W) (hB : B ≤ W.heap.size) : Below B a w1 := h0.trans (h1.mono hB)

theorem below_alloc {a W : World} (h0 : Below a.heap.size a W) (o : Obj) : Below a.heap.size a (W.alloc o) := h0.alloc h0.size o
theorem below_go {a W w1 : World} (h0 : Below a.heap.size a W) (h1 : Below W.heap.size W w1) : Below a.heap.size a w1 := h0.trans (h1.mono h0.size)

/-- A block of the call's own that is known from its head on (a boxed struct, a local). -/
def Box (w : World) (b : Nat) (cs : List Value) : Prop := ∀ i v, cs[i]? = some v → w.cell? ⟨b, i, none⟩ = some v
theorem Box.new (w : World) (cs : List Value) (t : TypeId) : Box (w.alloc (.cells ⟨cs⟩ t)) w.heap.size cs := fun i v h => by
  have := cell_of_row (w.alloc (.cells ⟨cs⟩ t)) w.heap.size i ⟨cs⟩ t (0, 0) (heap_alloc_new w _)
  rw [this]
  simpa using h
theorem Box.at_ (w : World) (cs : List Value) (t : TypeId) {b : Nat} (h : b = w.heap.size) : Box (w.alloc (.cells ⟨cs⟩ t)) b cs := by subst h; exact Box.new w cs t
theorem Box.up {w w1 : World} {b : Nat} {cs : List Value} (h : Box w b cs) (hb : Below w.heap.size w w1) : Box w1 b cs := fun i v hv => by
  have h1 := h i v hv
  exact (hb.cell (World.block_lt_of_cell? w _ h1)).trans h1
theorem Box.alloc {w : World} {b : Nat} {cs : List Value} (h : Box w b cs) (o : Obj) : Box (w.alloc o) b cs := h.up ((Below.refl _ _).alloc (Nat.le_refl _) _)
theorem Box.below {B : Nat} {w w1 : World} {b : Nat} {cs : List Value} (h : Box w b cs) (hb : Below B w w1) (hB : b < B) : Box w1 b cs := fun i v hv => (hb.cell (p := ⟨b, i, none⟩) hB).trans (h i v hv)
theorem Box.drewN {w : World} {b : Nat} {cs : List Value} (h : Box w b cs) (n : Nat) : Box (w.drewN n) b cs := h

/-- A block of the call's own that is known whole, none of its cells frozen. -/
def Blk (w : World) (g : Nat) (t : TypeId) (cs : List Value) : Prop := w.heap[g]? = some (.cells ⟨cs⟩ t (0, 0))
section
variable {w w' : World} {g : Nat} {t : TypeId} {cs : List Value}
theorem Blk.lt (h : Blk w g t cs) : g < w.heap.size := (Array.getElem?_eq_some_iff.1 h).1
theorem Blk.cell (h : Blk w g t cs) (i : Nat) : w.cell? ⟨g, i, none⟩ = cs[i]? := by
  have := cell_of_row w g i ⟨cs⟩ t (0, 0) h
  rw [this]; simp
theorem Blk.frozen (h : Blk w g t cs) (i : Nat) : w.frozen? ⟨g, i, none⟩ = false := by
  unfold Blk at h
  simp [World.frozen?, h]
theorem Blk.at_ (w : World) (t : TypeId) (cs : List Value) {b : Nat} (h : b = w.heap.size) : Blk (w.alloc (.cells ⟨cs⟩ t)) b t cs := by subst h; exact heap_alloc_new w _
theorem Blk.up (h : Blk w g t cs) (hb : Below w.heap.size w w') : Blk w' g t cs := (hb.block g h.lt).trans h
theorem Blk.below {B : Nat} (h : Blk w g t cs) (hb : Below B w w') (hg : g < B) : Blk w' g t cs := (hb.block g hg).trans h
theorem Blk.alloc (h : Blk w g t cs) (o : Obj) : Blk (w.alloc o) g t cs := h.up ((Below.refl _ _).alloc (Nat.le_refl _) o)
theorem Blk.drewN (h : Blk w g t cs) (n : Nat) : Blk (w.drewN n) g t cs := h
theorem Blk.set_ (h : Blk w g t cs) (i : Nat) (u : Value) : Blk (w.setCell ⟨g, i, none⟩ u) g t (cs.set i u) := by
  unfold Blk at h ⊢
  simp [World.setCell, Array.getElem?_modify, h]
theorem Blk.far (h : Blk w g t cs) {p : Addr} (hp : g ≠ p.block) (u : Value) : Blk (w.setCell p u) g t cs := (Below.heap_setCell w p u g hp).trans h
theorem Blk.grown {row : Option Nat} (h : Blk w g t cs) (hb : w.grownBy w' row) (hg : some g ≠ row) : Blk w' g t cs := (hb.block g h.lt hg).trans h
end

theorem quiet_add_left {P : Program} {f : FuncId} {args : Array Value} {w : World} {a n : Nat} {v : Value}
    (h : Calls P f args (w.drewN (a + n)) fun e w' => e = .returned v ∧ w.drewN (a + n) = w') :
    Calls P f args (w.drewN (a + n)) fun e w'' => e = .returned v ∧ ∃ m, w'' = w.drewN (a + m) :=
  h.mono fun _ _ ⟨he, hm⟩ => ⟨he, n, hm.symm⟩
theorem quiet_left {P : Program} {f : FuncId} {args : Array Value} {w : World} {n : Nat} {v : Value}
    (h : Calls P f args (w.drewN n) fun e w' => e = .returned v ∧ w.drewN n = w') : Calls P f args (w.drewN n) fun e w'' => e = .returned v ∧ ∃ m, w'' = w.drewN m :=
  h.mono fun _ _ ⟨he, hm⟩ => ⟨he, n, hm.symm⟩

/-! ### Slices that read as lists -/
/-- The slice with address A and n elements of 'size' cells reads as the cells xs. -/
def Rd (w : World) (A : Option Addr) (size n : Nat) (xs : List Value) : Prop :=
  xs.length = n * size ∧ (0 < n → ∃ b off, A = some ⟨b, off, none⟩ ∧ b < w.heap.size ∧ ∀ j u, xs[j]? = some u → w.cell? ⟨b, off + j, none⟩ = some u)

section
variable {w w' : World} {size n : Nat} {A : Option Addr} {xs : List Value}
theorem Rd.none_ (w : World) (A : Option Addr) (size : Nat) : Rd w A size 0 [] := ⟨by simp, fun h => absurd h (by omega)⟩
theorem Rd.below {B : Nat} (h : Rd w A size n xs) (hb : Below B w w') (hB : w.heap.size ≤ B) : Rd w' A size n xs :=
  ⟨h.1, fun hn => by
    obtain ⟨b, off, e, hlt, hc⟩ := h.2 hn
    exact ⟨b, off, e, Nat.lt_of_lt_of_le hlt hb.size, fun j u hu => (hb.cell (p := ⟨b, off + j, none⟩) (by show b < B; omega)).trans (hc j u hu)⟩⟩
theorem Rd.up (h : Rd w A size n xs) (hb : Below w.heap.size w w') : Rd w' A size n xs := h.below hb (Nat.le_refl _)
theorem Rd.at1 {k : Nat} (h : Rd w A 1 n xs) (hk : k < n) : ∃ b off u, A = some ⟨b, off, none⟩ ∧ b < w.heap.size ∧ xs[k]? = some u ∧ w.cell? ⟨b, off + k, none⟩ = some u := by
  obtain ⟨b, off, e, hb, hc⟩ := h.2 (by omega)
  have hl : k < xs.length := by have := h.1; omega
  exact ⟨b, off, xs[k], e, hb, List.getElem?_eq_getElem hl, hc k _ (List.getElem?_eq_getElem hl)⟩
/-- A row of the call's own, known cell by cell. -/
theorem Rd.of_row {b : Nat} {t : TypeId} {f : Nat → Value} (h : w.rowIs b t (n * size) f) (hl : xs.length = n * size) (hf : ∀ j, j < n * size → f j = xs.getD j undef) : Rd w (some ⟨b, 0, none⟩) size n xs := by
  refine ⟨hl, fun _ => ⟨b, 0, rfl, h.lt, fun j u hu => ?_⟩⟩
  have hj : j < n * size := by
    have := (List.getElem?_eq_some_iff.1 hu).1
    omega
  have := h.cell hj
  rw [hf j hj] at this
  rw [Nat.zero_add, this]
  simp [List.getD, hu]
theorem Rd.of_own {base : Nat} {e : TypeId} {c : Nat} (h : w.ownsRow base e size (.slice A n c) n xs) : Rd w A size n xs := by
  refine ⟨h.1, fun hn => ?_⟩
  rcases h.2 with ⟨_, h0⟩ | ⟨g, cap, cur, hv, hg, hh, hnc, hcap, hsz, htake⟩
  · omega
  · have hA : A = some ⟨g, 0, none⟩ := by injection hv
    subst hA
    refine ⟨g, 0, rfl, ?_, fun j u hu => ?_⟩
    · exact (Array.getElem?_eq_some_iff.1 hh).1
    · have := h.cells (g := g) rfl j u hu
      rwa [Go.WideShapes.add_plain] at this
end

/-! ### Slices of records: every element is laid as 'e' lays it -/
theorem flatMap_at {α : Type} {e : α → List Value} {s : Nat} (he : ∀ x, (e x).length = s) : ∀ (l : List α) (k : Nat) (x : α) (j : Nat), l[k]? = some x → j < s → (l.flatMap e)[k * s + j]? = (e x)[j]?
  | [], k, x, j, h, _ => by simp at h
  | y :: l, 0, x, j, h, hj => by
    simp at h
    subst h
    rw [List.flatMap_cons, Nat.zero_mul, Nat.zero_add, List.getElem?_append_left (by rw [he]; exact hj)]
  | y :: l, k + 1, x, j, h, hj => by
    rw [List.flatMap_cons, List.getElem?_append_right (by rw [he, Nat.succ_mul]; omega), he]
    rw [show (k + 1) * s + j - s = k * s + j by rw [Nat.succ_mul]; omega]
    exact flatMap_at he l k x j (by simpa using h) hj
theorem flatMap_len {α : Type} {e : α → List Value} {s : Nat} (he : ∀ x, (e x).length = s) (l : List α) : (l.flatMap e).length = l.length * s := by
  induction l with
  | nil => simp
  | cons y l ih => rw [List.flatMap_cons, List.length_append, he, ih, List.length_cons, Nat.succ_mul]; omega

def Recs {α : Type} (e : α → List Value) (s : Nat) (w : World) (A : Option Addr) (l : List α) : Prop := (∀ x, (e x).length = s) ∧ Rd w A s l.length (l.flatMap e)
section
variable {α : Type} {e : α → List Value} {s : Nat} {w w' : World} {A : Option Addr} {l : List α}
theorem Recs.up (h : Recs e s w A l) (hb : Below w.heap.size w w') : Recs e s w' A l := ⟨h.1, h.2.up hb⟩
theorem Recs.below {B : Nat} (h : Recs e s w A l) (hb : Below B w w') (hB : w.heap.size ≤ B) : Recs e s w' A l := ⟨h.1, h.2.below hb hB⟩
theorem Recs.cells (h : Recs e s w A l) (hn : 0 < l.length) : ∃ b off, A = some ⟨b, off, none⟩ ∧ b < w.heap.size ∧ ∀ (k : Nat) (x : α) (j : Nat) (u : Value), l[k]? = some x → (e x)[j]? = some u → w.cell? ⟨b, off + k * s + j, none⟩ = some u := by
  obtain ⟨b, off, hA, hb, hc⟩ := h.2.2 hn
  refine ⟨b, off, hA, hb, fun k x j u hk hu => ?_⟩
  have hj : j < s := by rw [← h.1 x]; exact (List.getElem?_eq_some_iff.1 hu).1
  rw [Nat.add_assoc]
  exact hc _ _ ((flatMap_at h.1 l k x j hk hj).trans hu)
theorem some_of_lt {k : Nat} (hk : k < l.length) : ∃ x, l[k]? = some x := ⟨l[k], List.getElem?_eq_getElem hk⟩
end

/-! ### Numbers, texts, bools: one cell each -/
def intE (z : Int) : List Value := [.int .i64 z]
def strE (s : ByteArray) : List Value := [.string s]
def boolE (b : Bool) : List Value := [.bool b]
theorem intE_len (z : Int) : (intE z).length = 1 := rfl
theorem strE_len (s : ByteArray) : (strE s).length = 1 := rfl
theorem boolE_len (b : Bool) : (boolE b).length = 1 := rfl
theorem intE_one (z : Int) : ∀ u ∈ intE z, u.oneCell' = true := fun u hu => by simp [intE] at hu; subst hu; rfl
theorem strE_one (z : ByteArray) : ∀ u ∈ strE z, u.oneCell' = true := fun u hu => by simp [strE] at hu; subst hu; rfl
theorem boolE_one (z : Bool) : ∀ u ∈ boolE z, u.oneCell' = true := fun u hu => by simp [boolE] at hu; subst hu; rfl
theorem flatMap_one {α : Type} (f : α → Value) (l : List α) : l.flatMap (fun x => [f x]) = l.map f := by
  induction l with
  | nil => rfl
  | cons y l ih => simp [ih]
abbrev Ints := Recs intE 1
abbrev Strs := Recs strE 1
abbrev Bools := Recs boolE 1
section
variable {w : World} {A : Option Addr}
theorem Recs.at_int {l : List Int} {k : Nat} (h : Ints w A l) (hk : k < l.length) : ∃ b off x, A = some ⟨b, off, none⟩ ∧ b < w.heap.size ∧ l[k]? = some x ∧ w.cell? ⟨b, off + k, none⟩ = some (.int .i64 x) := by
  obtain ⟨b, off, hA, hb, hc⟩ := h.cells (by omega)
  obtain ⟨x, hx⟩ := some_of_lt hk
  exact ⟨b, off, x, hA, hb, hx, by simpa using hc k x 0 _ hx rfl⟩
theorem Recs.at_str {l : List ByteArray} {k : Nat} (h : Strs w A l) (hk : k < l.length) : ∃ b off x, A = some ⟨b, off, none⟩ ∧ b < w.heap.size ∧ l[k]? = some x ∧ w.cell? ⟨b, off + k, none⟩ = some (.string x) := by
  obtain ⟨b, off, hA, hb, hc⟩ := h.cells (by omega)
  obtain ⟨x, hx⟩ := some_of_lt hk
  exact ⟨b, off, x, hA, hb, hx, by simpa using hc k x 0 _ hx rfl⟩
theorem Recs.at_bool {l : List Bool} {k : Nat} (h : Bools w A l) (hk : k < l.length) : ∃ b off x, A = some ⟨b, off, none⟩ ∧ b < w.heap.size ∧ l[k]? = some x ∧ w.cell? ⟨b, off + k, none⟩ = some (.bool x) := by
  obtain ⟨b, off, hA, hb, hc⟩ := h.cells (by omega)
  obtain ⟨x, hx⟩ := some_of_lt hk
  exact ⟨b, off, x, hA, hb, hx, by simpa using hc k x 0 _ hx rfl⟩
theorem Recs.at_2 {α : Type} {f g : α → Value} {l : List α} {k : Nat} {x : α} (h : Recs (fun x => [f x, g x]) 2 w A l) (hx : l[k]? = some x) :
    ∃ b off, A = some ⟨b, off, none⟩ ∧ b < w.heap.size ∧ w.cell? ⟨b, off + k * 2, none⟩ = some (f x) ∧ w.cell? ⟨b, off + k * 2 + 1, none⟩ = some (g x) := by
  have hk := (List.getElem?_eq_some_iff.1 hx).1
  obtain ⟨b, off, hA, hb, hc⟩ := h.cells (by omega)
  exact ⟨b, off, hA, hb, by simpa using hc k x 0 _ hx rfl, hc k x 1 _ hx rfl⟩
theorem Recs.at_3 {α : Type} {f g q : α → Value} {l : List α} {k : Nat} {x : α} (h : Recs (fun x => [f x, g x, q x]) 3 w A l) (hx : l[k]? = some x) :
    ∃ b off, A = some ⟨b, off, none⟩ ∧ b < w.heap.size ∧ w.cell? ⟨b, off + k * 3, none⟩ = some (f x) ∧ w.cell? ⟨b, off + k * 3 + 1, none⟩ = some (g x) ∧ w.cell? ⟨b, off + k * 3 + 2, none⟩ = some (q x) := by
  have hk := (List.getElem?_eq_some_iff.1 hx).1
  obtain ⟨b, off, hA, hb, hc⟩ := h.cells (by omega)
  exact ⟨b, off, hA, hb, by simpa using hc k x 0 _ hx rfl, hc k x 1 _ hx rfl, hc k x 2 _ hx rfl⟩
end

/-! ### Rows of the call's own -/
/-- The slice with address A, n elements and capacity c is a row of the call's own (a block from 'base' on, not frozen), or nil; its elements are those of l. -/
def Owned {α : Type} (e : α → List Value) (s : Nat) (E : TypeId) (w : World) (base : Nat) (A : Option Addr) (n c : Nat) (l : List α) : Prop :=
  (∀ x, (e x).length = s) ∧ l.length = n ∧ w.ownsRow base E s (.slice A n c) n (l.flatMap e)
theorem flatMap_set {α : Type} {e : α → List Value} {s : Nat} (he : ∀ x, (e x).length = s) {l : List α} {k j : Nat} {x y : α} {u : Value} (hk : l[k]? = some y) (hj : j < s) (hx : e x = (e y).set j u) :
    (l.flatMap e).set (k * s + j) u = (l.set k x).flatMap e := by
  have hkl : k < l.length := (List.getElem?_eq_some_iff.1 hk).1
  have hs : 0 < s := by omega
  apply List.ext_getElem?
  intro i
  by_cases hi : i < l.length * s
  · have hdm : i / s * s + i % s = i := Nat.div_add_mod' i s
    have hq : i / s < l.length := Nat.div_lt_of_lt_mul (by rw [Nat.mul_comm]; exact hi)
    have hr := Nat.mod_lt i hs
    rw [List.getElem?_set]
    by_cases hik : i / s = k
    · have h2 : ((l.set k x).flatMap e)[i]? = (e x)[i % s]? := by
        have := flatMap_at he (l.set k x) k x (i % s) (by rw [List.getElem?_set_self hkl]) hr
        rw [← hik, hdm] at this
        rwa [hik] at this
      rw [h2, hx, List.getElem?_set]
      have h3 : (l.flatMap e)[i]? = (e y)[i % s]? := by
        have := flatMap_at he l k y (i % s) hk hr
        rw [← hik, hdm] at this
        exact this
      by_cases hij : j = i % s
      · rw [if_pos (by rw [hij, ← hik, hdm]), if_pos hij, if_pos (by rw [flatMap_len he, hij, ← hik, hdm]; exact hi), if_pos (by rw [he]; exact hj)]
      · rw [if_neg (fun e1 => hij (by rw [← hik] at e1; omega)), if_neg hij, h3]
    · have h1 : k * s + j ≠ i := fun e1 => hik (by
        rw [← e1, Nat.mul_comm, Nat.mul_add_div hs, Nat.div_eq_of_lt hj, Nat.add_zero])
      rw [if_neg h1]
      obtain ⟨z, hz⟩ : ∃ z, l[i / s]? = some z := ⟨l[i / s], List.getElem?_eq_getElem hq⟩
      have a1 := flatMap_at he l (i / s) z (i % s) hz hr
      have a2 := flatMap_at he (l.set k x) (i / s) z (i % s) (by rw [List.getElem?_set_ne (fun e1 => hik e1.symm)]; exact hz) hr
      rw [hdm] at a1 a2
      rw [a1, a2]
  · rw [List.getElem?_eq_none (by rw [List.length_set, flatMap_len he]; omega), List.getElem?_eq_none (by rw [flatMap_len he, List.length_set]; omega)]

section
variable {α : Type} {e : α → List Value} {s : Nat} {E : TypeId} {w w' : World} {base : Nat} {A : Option Addr} {n c : Nat} {l : List α}
theorem Owned.nil (he : ∀ x, (e x).length = s) (E : TypeId) (w : World) (base : Nat) : Owned e s E w base none 0 0 ([] : List α) := ⟨he, rfl, World.ownsRow_nil _ _ _ _⟩
theorem Owned.empty (he : ∀ x, (e x).length = s) (E : TypeId) (w : World) (hb : base ≤ w.heap.size) : Owned e s E (w.alloc (.cells #[] E)) base (some ⟨w.heap.size, 0, none⟩) 0 0 ([] : List α) :=
  ⟨he, rfl, by simpa using World.ownsRow_lit (e := E) (base := base) (size := s) w #[] 0 hb (Nat.zero_le _) (by simp)⟩
theorem Owned.recs (h : Owned e s E w base A n c l) : Recs e s w A l := ⟨h.1, by rw [h.2.1]; exact Rd.of_own h.2.2⟩
theorem Owned.len (h : Owned e s E w base A n c l) : l.length = n := h.2.1
theorem Owned.blk (h : Owned e s E w base A n c l) {k : Nat} (hk : (Value.slice A n c).ownBlock = some k) : base ≤ k ∧ k < w.heap.size := h.2.2.lt k hk
theorem Owned.kept (h : Owned e s E w base A n c l) {row : Option Nat} (hg : w.grownBy w' row) (hne : ∀ k, (Value.slice A n c).ownBlock = some k → row ≠ some k) : Owned e s E w' base A n c l :=
  ⟨h.1, h.2.1, h.2.2.kept hg (by
    cases hb : (Value.slice A n c).ownBlock with
    | none => exact .inl rfl
    | some k => exact .inr (fun e => hne k hb e.symm))⟩
/-- The block of a slice value, if it has one, lies between a and b. -/
def InRange (v : Value) (a b : Nat) : Prop := ∀ k, v.ownBlock = some k → a ≤ k ∧ k < b
theorem Owned.range (h : Owned e s E w base A n c l) : InRange (.slice A n c) base w.heap.size := fun k hk => h.blk hk
theorem InRange.ne {v v' : Value} {a b a' b' : Nat} (h : InRange v a b) (h' : InRange v' a' b') (hd : b ≤ a' ∨ b' ≤ a) : ∀ k, v.ownBlock = some k → v'.ownBlock ≠ some k := fun k hk ek => by
  have b1 := h k hk
  have b2 := h' k ek
  omega
/-- A row below which 'base' lies above another block: that block may be written. -/
theorem Owned.past (h : Owned e s E w base A n c l) {g : Nat} (hg : w.grownBy w' (some g)) (hlt : g < base) : Owned e s E w' base A n c l :=
  h.kept hg fun k hk e => by
    have := (h.blk hk).1
    injection e with e
    omega
theorem grown_of_below (hb : Below w.heap.size w w') : w.grownBy w' none := ⟨hb.os, hb.tape, hb.output, hb.size, fun k hk _ => hb.block k hk⟩
theorem Owned.up (h : Owned e s E w base A n c l) (hb : Below w.heap.size w w') : Owned e s E w' base A n c l := h.kept (grown_of_below hb) (fun k hk e => by cases e)
theorem Owned.alloc (h : Owned e s E w base A n c l) (o : Obj) : Owned e s E (w.alloc o) base A n c l := h.up ((Below.refl _ _).alloc (Nat.le_refl _) o)
theorem Owned.drewN (h : Owned e s E w base A n c l) (k : Nat) : Owned e s E (w.drewN k) base A n c l := h.up (below_drewN (Below.refl _ _) k)
theorem Owned.base_le {base' : Nat} (h : Owned e s E w base A n c l) (hb : base' ≤ base) : Owned e s E w base' A n c l := by
  refine ⟨h.1, h.2.1, h.2.2.1, ?_⟩
  rcases h.2.2.2 with h0 | ⟨g, cap, cur, hv, hg, r⟩
  · exact .inl h0
  · exact .inr ⟨g, cap, cur, hv, Nat.le_trans hb hg, r⟩
theorem Owned.of_row {v : Value} {xs : List Value} (he : ∀ x, (e x).length = s) (h : w.ownsRow base E s v n xs) (hx : xs = l.flatMap e) (hl : l.length = n) : ∃ A c, v = .slice A n c ∧ Owned e s E w base A n c l := by
  subst hx
  rcases h.2 with ⟨rfl, h0⟩ | ⟨g, cap, cur, rfl, hg, r⟩
  · subst h0
    exact ⟨none, 0, rfl, he, hl, h⟩
  · exact ⟨some ⟨g, 0, none⟩, cap, rfl, he, hl, h⟩
/-- Where there is an element the row lies at the head of a block. -/
theorem Owned.at_ (h : Owned e s E w base A n c l) (hn : 0 < n) : ∃ g, A = some ⟨g, 0, none⟩ ∧ base ≤ g ∧ g < w.heap.size ∧ (∀ (k : Nat) (x : α) (j : Nat) (u : Value), l[k]? = some x → (e x)[j]? = some u → w.cell? ⟨g, k * s + j, none⟩ = some u) ∧ ∀ i, w.frozen? ⟨g, i, none⟩ = false := by
  rcases h.2.2.2 with ⟨_, h0⟩ | ⟨g, cap, cur, hv, hg, hh, r⟩
  · omega
  · injection hv with hA _ hc
    subst hA; subst hc
    refine ⟨g, rfl, hg, (Array.getElem?_eq_some_iff.1 hh).1, fun k x j u hk hu => ?_, fun i => h.2.2.frozenAt i⟩
    have hj : j < s := by rw [← h.1 x]; exact (List.getElem?_eq_some_iff.1 hu).1
    have hkl : k < l.length := (List.getElem?_eq_some_iff.1 hk).1
    have hlt : k * s + j < n * s := by
      rw [← h.2.1]
      calc k * s + j < k * s + s := by omega
        _ = (k + 1) * s := by rw [Nat.succ_mul]
        _ ≤ l.length * s := Nat.mul_le_mul_right _ hkl
    rw [h.2.2.cellAt _ hlt]
    exact (flatMap_at h.1 l k x j hk hj).trans hu
theorem Owned.at_own {g : Nat} (h : Owned e s E w base (some ⟨g, 0, none⟩) n c l) : base ≤ g ∧ g < w.heap.size := h.blk rfl
/-- A store into field j of element k. -/
theorem Owned.put {g : Nat} (h : Owned e s E w base (some ⟨g, 0, none⟩) n c l) {k j : Nat} {x y : α} {u : Value} (hk : l[k]? = some y) (hj : j < s) (hx : e x = (e y).set j u) :
    Owned e s E (w.setCell ⟨g, k * s + j, none⟩ u) base (some ⟨g, 0, none⟩) n c (l.set k x) ∧ w.grownBy (w.setCell ⟨g, k * s + j, none⟩ u) (some g) := by
  obtain ⟨h1, h2⟩ := h.2.2.stored (k * s + j) u
  refine ⟨⟨h.1, by rw [List.length_set]; exact h.2.1, ?_⟩, h2⟩
  rw [← flatMap_set h.1 hk hj hx]
  exact h1
theorem Owned.made (he : ∀ x, (e x).length = s) (w : World) (E : TypeId) (z : α) (n : Nat) (hn : n ≤ 140737488355328) (hb : base ≤ w.heap.size) :
    Owned e s E (w.alloc (.cells (madeCells (e z).toArray (n * s)) E)) base (some ⟨w.heap.size, 0, none⟩) n n (List.replicate n z) := by
  refine ⟨he, by simp, ?_⟩
  have h := World.ownsRow_lit (e := E) (base := base) (size := s) w (madeCells (e z).toArray (n * s)) n hb (by unfold maxLen; omega) (by simp [madeCells])
  have e1 : (madeCells (e z).toArray (n * s)).toList = (List.replicate n z).flatMap e := by
    apply List.ext_getElem?
    intro i
    by_cases hi : i < n * s
    · have hs : 0 < s := by
        rcases Nat.eq_zero_or_pos s with h | h
        · subst h; omega
        · exact h
      have hdm : i / s * s + i % s = i := Nat.div_add_mod' i s
      have hq : i / s < n := Nat.div_lt_of_lt_mul (by rw [Nat.mul_comm]; exact hi)
      have a1 := flatMap_at he (List.replicate n z) (i / s) z (i % s) (by simp [hq]) (Nat.mod_lt i hs)
      rw [hdm] at a1
      rw [a1]
      have hm : i % s < (e z).length := by rw [he]; exact Nat.mod_lt i hs
      simp [madeCells, hi, he, List.getElem?_eq_getElem hm]
    · rw [List.getElem?_eq_none (by simp [madeCells]; omega), List.getElem?_eq_none (by rw [flatMap_len he]; simp; omega)]
  rw [← e1]
  exact h
end

theorem only_set (w : World) {p : Addr} (u : Value) : w.grownBy (w.setCell p u) (some p.block) :=
  ⟨rfl, rfl, rfl, by simp, fun k _ hk => Below.heap_setCell w p u k (fun e => hk (by rw [e]))⟩
/-- What is known of a slice type: its element's type, cells and bytes. -/
structure ElemOk (P : Program) (t E : TypeId) (z : Value) (s bytes : Nat) : Prop where
  under : P.underlying t = some (.slice E)
  info : (P.info? E).map (fun i => (i.zero, i.size, i.bytes)) = some (some z, s, bytes)
  zs : z.cells.size = s
  pos : 0 < s
/-- 'append(xs, x)' onto a row of the call's own. -/
theorem wpList_append_rec {P : Program} {α : Type} {e : α → List Value} {s bytes : Nat} {t E : TypeId} {z : Value} (he : ElemOk P t E z s bytes) {ops : Array Oper} {rest : List Oper} {o : Oper} {a : Act} {Q : Exit → Act → World → Prop} {W : World}
    (hgd : o.guard = none) (S X : Operand) (ho : o.op = .call { callee := .builtin .append, args := #[S, X], argTypes := #[t, t] })
    {base : Nat} {A : Option Addr} {n c : Nat} {l : List α} (hs : a.eval S = .slice A n c) (hown : Owned e s E W base A n c l) (x : α) {b cx : Nat} (hx : a.eval X = .slice (some ⟨b, 0, none⟩) 1 cx)
    (hnew : Box W b (e x)) (h1 : ∀ u ∈ e x, u.oneCell' = true) (hn : n ≤ 16777216) (hby : bytes ≤ 4096) (hbase : base ≤ W.heap.size)
    (h : ∀ A' c' w', Owned e s E w' base A' (n + 1) c' (l ++ [x]) → W.grownBy w' (Value.slice A n c).ownBlock → Below base W w' → wpList P ops Q rest (a.put o.dst (.slice A' (n + 1) c')) w') :
    wpList P ops Q (o :: rest) a W := by
  obtain ⟨i0, hi, hz0, hz1, hz2⟩ := info_parts he.info
  refine wpList_append_own W hgd S X t ho base E i0 z s bytes he.under hi hz0 hz1 hz2 he.zs he.pos _ n _ hs hown.2.2 ⟨b, 0, none⟩ 1 cx (e x) hx (by rw [hown.1]; omega)
    (fun j u hu => by rw [Go.WideShapes.add_plain, Nat.zero_add]; exact hnew j u hu) h1 (by unfold maxLen; omega) ?_ hbase ?_
  · exact Nat.le_trans (Nat.mul_le_mul (show n + 1 ≤ 16777217 by omega) hby) (by decide)
  · intro v' w' hown' hg _
    obtain ⟨A', c', rfl, ho'⟩ := Owned.of_row (l := l ++ [x]) hown.1 hown' (by simp) (by simp [hown.2.1])
    exact h A' c' w' ho' hg ((Below.refl _ _).grown hg hbase fun k hk => (hown.blk hk).1)
/-- 'make([]T, n)': an equation for every world. -/
theorem run_make_rec {P : Program} {α : Type} {e : α → List Value} {s bytes : Nat} {t E : TypeId} {z : Value} (he : ElemOk P t E z s bytes) (z0 : α) (hz : z.cells = (e z0).toArray) (n : Nat) (hn : n ≤ 16777216) (hby : bytes ≤ 4096) :
    ∀ u : World, (Instr.makeSlice t (.int .i64 (n : Int)) (.int .i64 (n : Int))).run P u = .ok (.slice (some ⟨u.heap.size, 0, none⟩) n n) (u.alloc (.cells (madeCells (e z0).toArray (n * s)) E)) := fun u => by
  obtain ⟨i0, hi, hz0, hz1, hz2⟩ := info_parts he.info
  have hb : (i0.bytes : Int) * (n : Int) ≤ 281474976710656 := by
    have h : i0.bytes * n ≤ 4096 * 16777216 := Nat.mul_le_mul (by omega) hn
    have h2 : ((i0.bytes * n : Nat) : Int) ≤ 281474976710656 := by omega
    rwa [Int.natCast_mul] at h2
  have h := run_make (P := P) u t E i0 z he.under hi hz0 .i64 .i64 (n : Int) (n : Int) (by omega) (Int.le_refl _) hb (by omega)
  simp only [Int.toNat_natCast, hz1, hz] at h
  exact h

/-! ### 'for all of the list' as a Bool -/
theorem all_bad {p : Nat → Bool} {n k : Nat} (hk : k < n) (h : p k = false) (x : Bool) : ((List.range n).all p && x) = false := by
  have : (List.range n).all p = false := by
    rw [Bool.eq_false_iff]
    intro ha
    rw [List.all_eq_true] at ha
    rw [ha k (List.mem_range.2 hk)] at h
    cases h
  rw [this]; rfl
theorem all_good {p : Nat → Bool} {n : Nat} (h : ∀ j, j < n → p j = true) (x : Bool) : ((List.range n).all p && x) = x := by
  have : (List.range n).all p = true := List.all_eq_true.2 fun j hj => h j (List.mem_range.1 hj)
  rw [this]; rfl
theorem upto_succ {p : Nat → Prop} {k : Nat} (h : ∀ j, j < k → p j) (hk : p k) : ∀ j, j < k + 1 → p j := fun j hj => by
  rcases Nat.lt_succ_iff_lt_or_eq.1 hj with h' | rfl
  · exact h j h'
  · exact hk
/-- The sum of f over the numbers below k. -/
def sumTo (f : Nat → Int) : Nat → Int
  | 0 => 0
  | k + 1 => sumTo f k + f k
theorem sumTo_congr {f g : Nat → Int} : ∀ {k : Nat}, (∀ j, j < k → f j = g j) → sumTo f k = sumTo g k
  | 0, _ => rfl
  | k + 1, h => by rw [sumTo, sumTo, sumTo_congr (fun j hj => h j (by omega)), h k (by omega)]
theorem sumTo_bd {f : Nat → Int} {B : Int} : ∀ {k : Nat}, (∀ j, j < k → 0 ≤ f j ∧ f j ≤ B) → 0 ≤ sumTo f k ∧ sumTo f k ≤ (k : Int) * B
  | 0, _ => by simp [sumTo]
  | k + 1, h => by
    have h1 := sumTo_bd (f := f) (B := B) (k := k) (fun j hj => h j (by omega))
    have h2 := h k (by omega)
    rw [sumTo, show ((k + 1 : Nat) : Int) = (k : Int) + 1 by omega, Int.add_mul, Int.one_mul]
    omega
theorem eq_of_upto {α : Type} {l m : List α} {k : Nat} (h : ∀ j, j < k → l[j]? = m[j]?) (h1 : l.length = k) (h2 : m.length = k) : l = m :=
  List.ext_getElem? fun j => by
    by_cases hj : j < k
    · exact h j hj
    · rw [List.getElem?_eq_none (by omega), List.getElem?_eq_none (by omega)]
theorem upto_set {α : Type} {l m : List α} {k : Nat} {x : α} (h : ∀ j, j < k → m[j]? = l[j]?) (hx : l[k]? = some x) (hm : k < m.length) : ∀ j, j < k + 1 → (m.set k x)[j]? = l[j]? := fun j hj => by
  by_cases e : j = k
  · subst e
    rw [List.getElem?_set_self hm, hx]
  · rw [List.getElem?_set_ne (fun e1 => e e1.symm)]
    exact h j (by omega)
theorem upto_mark {α : Type} {m : List α} {k : Nat} {f : Nat → α} (h : ∀ j, j < k → m[j]? = some (f j)) (hm : k < m.length) : ∀ j, j < k + 1 → (m.set k (f k))[j]? = some (f j) := fun j hj => by
  by_cases e : j = k
  · subst e
    rw [List.getElem?_set_self hm]
  · rw [List.getElem?_set_ne (fun e1 => e e1.symm)]
    exact h j (by omega)
theorem marks_eq {α : Type} {m : List α} {n : Nat} {f : Nat → α} (h : ∀ j, j < n → m[j]? = some (f j)) (hm : m.length = n) : m = (List.range n).map f :=
  eq_of_upto (k := n) (fun j hj => by rw [h j hj]; simp [hj]) hm (by simp)
theorem grownBy_trans {a b c : World} {row : Option Nat} (h : a.grownBy b row) (k : b.grownBy c row) : a.grownBy c row :=
  ⟨k.os.trans h.os, k.tape.trans h.tape, k.output.trans h.output, Nat.le_trans h.size k.size, fun i hi hne => (k.block i (Nat.lt_of_lt_of_le hi h.size) hne).trans (h.block i hi hne)⟩
theorem take_succ_some {α : Type} {l : List α} {k : Nat} {x : α} (h : l[k]? = some x) : l.take (k + 1) = l.take k ++ [x] := by
  rw [List.take_add_one, h]; rfl
theorem decLe (a b : Nat) : decide ((a : Int) ≤ (b : Int)) = decide (a ≤ b) := decide_eq_decide.2 (by omega)
theorem ret_bool {a b : Bool} (h : a = b) : Ending.returned (.bool a) = .returned (.bool b) := by rw [h]
theorem ret_int {k : IntKind} {a b : Int} (h : a = b) : Ending.returned (.int k a) = .returned (.int k b) := by rw [h]

end Go.Proofs.YtoheahbkopbmhaaGreat
/- The frame of a law's row: what comes in is opened into plain words; behind the call each argument reads as it did, because nothing that was there has turned. -/
namespace Go.Proofs.YtoheahbkopbmhaaGreat
set_option linter.unusedVariables false
set_option linter.unusedSimpArgs false
open Go.ChangeShapes Go.WideShapes Go.ChangeAt Go.RowKit Go.Deep Go.Joins
open Go.ChangeMaps (open_string)

theorem Tryz.own : ownKnob Tryz.prog.godebug = none := by kernel_rfl
theorem Tryz.laidOut : laidOutB Tryz.prog = true := by kernel_rfl

section
variable {H : Type} {enc : TypeId × Value → H} {P : Program}
theorem trodAll_below (hl : laidOutB P = true) {W W' : World} {sp : Nat → Bool} (hb : Below W.heap.size W W') : ∀ {ts : List TypeId} {vs : List Value} {ds : List (DataW H)} {ps : List MemPlace},
    (∀ t ∈ ts, P.readableRec t = true ∧ t < P.types.size) → DataW.TrodAll enc P W 0 (fun _ => true) true ts vs ds ps → (∀ x ∈ ps, x.block < W.heap.size) → (∀ x ∈ ps, sp x.block = true) →
    DataW.TrodAll enc P W' 0 sp true ts vs ds ps
  | [], vs, ds, ps, _, h, _, _ => by
    obtain ⟨rfl, rfl, rfl⟩ := trodAll_nil h
    exact trodAll_mk0
  | t :: ts, vs, ds, ps, hr, h, hlt, hsp => by
    obtain ⟨v, vs', d, ds', p, q, rfl, rfl, rfl, h0, r0⟩ := trodAll_cons h
    have ht := hr t (by simp)
    exact trodAll_cons_mk (WideElems.Trod_stays hl ht.1 ht.2 h0 (fun x hx => hb.same (hlt x (by simp [hx]))) (fun x hx => hsp x (by simp [hx])))
      (trodAll_below hl hb (fun t' h' => hr t' (by simp [h'])) r0 (fun x hx => hlt x (by simp [hx])) (fun x hx => hsp x (by simp [hx])))

theorem law_post {f : Func} {s : ChangeSpec} {W W' : World} {args : Array Value} {ds gs : List (DataW H)} {before : List MemPlace} {tb : TypeId}
    (hl : laidOutB P = true) (hW : DataW.Whole enc P f.params.toList s.vars false W args.toList ds gs before) (hv : s.vars = []) (hr : f.resultTypes = #[tb]) (hbool : P.underlying tb = some .bool)
    (hts : ∀ t ∈ f.params.toList, P.readableRec t = true ∧ t < P.types.size)
    (hs : ∀ ds' : List (DataW H), ds'.length = f.params.toList.length → s.fn H ds' = { results := [.lit (.bool true)], args := ds' }) (hb : Below W.heap.size W W') :
    s.post enc P f false true false false W args (.bool true) W' := by
  have hW' := hW
  have hltp : ∀ x ∈ before, x.block < W.heap.size := fun x hx => hW'.lt x hx
  obtain ⟨p, q, hA, hV, hpq, _, _⟩ := hW
  rw [hv] at hV
  obtain ⟨hg, hq⟩ := trodVars_none hV
  subst hg; subst hq
  simp only [List.append_nil] at hpq
  subst hpq
  have hlen : ds.length = f.params.toList.length := by
    have : ∀ {ts : List TypeId} {vs : List Value} {ds : List (DataW H)} {ps : List MemPlace}, DataW.TrodAll enc P W 0 (fun _ => true) true ts vs ds ps → ds.length = ts.length := by
      intro ts
      induction ts with
      | nil => intro vs ds ps h; obtain ⟨rfl, rfl, rfl⟩ := trodAll_nil h; rfl
      | cons t ts ih =>
        intro vs ds ps h
        obtain ⟨v, vs', d, ds', p, q, rfl, rfl, rfl, h0, r0⟩ := trodAll_cons h
        simp [ih r0]
    exact this hA
  have e := hs (ds ++ []) (by simpa using hlen)
  refine ⟨_, _, _, [], before, [], hW', ?_, ?_, ?_, hb.frame _, fun h => by cases h⟩
  · rw [e, hr]
    exact trodAll_cons_mk (shut_bool hbool true) trodAll_mk0
  · rw [e]
    have := trodAll_below (sp := fun b => decide (b < W.heap.size)) hl hb hts hA hltp (fun x hx => by simpa using hltp x hx)
    simpa using this
  · rw [e, hv]
    rfl

theorem lenOk {n c : Nat} (h : n ≤ c) (hm : c ≤ maxLen) : n ≤ 9223372036854775807 := by unfold maxLen at hm; omega
theorem cell_str {W : World} {t : TypeId} (ht : P.underlying t = some .string) {n : Nat} {v : Value} {y : DataW H × List MemPlace} (h : DataW.trod enc P W 0 (fun _ => true) true n t [v] = some y) : ∃ s : ByteArray, v = .string s ∧ s.size ≤ maxLen := by
  obtain ⟨s, e, _, hs⟩ := DataW.trod_string ht h
  simp only [List.cons.injEq, and_true] at e
  exact ⟨s, e, hs⟩

/-- A slice of numbers that came in, as one cell. -/
theorem cell_ints {W : World} {t e : TypeId} (ht : P.underlying t = some (.slice e)) (he : P.underlying e = some (.int .i64)) (hc : P.cellsOf e = 1) {n : Nat} {v : Value} {y : DataW H × List MemPlace}
    (hf : DataW.trod enc P W 0 (fun _ => true) true n t [v] = some y) :
    ∃ (A : Option Addr) (c : Nat) (l : List Int), v = .slice A l.length c ∧ l.length ≤ c ∧ c ≤ maxLen ∧ Ints W A l ∧ ∀ x ∈ l, -9223372036854775808 ≤ x ∧ x ≤ 9223372036854775807 := by
  rcases open_ints ht he hc hf with ⟨hcs, hx⟩ | ⟨a, len, cap, zs, hcs, _, hl, hm, hz, hx, hcell, hwz⟩
  · simp only [List.cons.injEq, and_true] at hcs
    subst hcs
    exact ⟨none, 0, [], rfl, Nat.le_refl _, Nat.zero_le _, ⟨intE_len, Rd.none_ _ _ _⟩, fun x hx => by cases hx⟩
  · simp only [List.cons.injEq, and_true] at hcs
    subst hcs
    simp only [if_true] at hz
    have hlt : (zs.take len).length = len := by simp; omega
    refine ⟨some a, cap, zs.take len, by rw [hlt], by omega, hm, ⟨intE_len, ?_, fun hn => ?_⟩, fun x hx => bounds_i64 (hwz x (List.mem_of_mem_take hx))⟩
    · rw [flatMap_len intE_len]
    · obtain ⟨b, off, rfl, hc'⟩ := ints_at hcell (by omega)
      refine ⟨b, off, rfl, World.block_lt_of_cell? W _ (hc' 0 (by omega)), fun j u hu => ?_⟩
      have hj : j < len := by
        have := (List.getElem?_eq_some_iff.1 hu).1
        rw [flatMap_len intE_len] at this
        omega
      have hx : zs[j]? = some (zs.getD j 0) := by
        rw [List.getD_eq_getElem?_getD, List.getElem?_eq_getElem (by omega)]; rfl
      have h1 := flatMap_at intE_len (zs.take len) j (zs.getD j 0) 0 (by rw [List.getElem?_take, if_pos hj]; exact hx) (by omega)
      simp only [Nat.mul_one, Nat.add_zero] at h1
      rw [h1] at hu
      injection hu with hu
      rw [← hu]
      exact hc' j (by omega)

theorem strings_at {w : World} {a : Addr} {ss : List ByteArray} (h : ∀ i, i < ss.length → w.cell? (a.add i) = some (.string (ss.getD i ByteArray.empty))) (hp : 0 < ss.length) :
    ∃ b off, a = ⟨b, off, none⟩ ∧ ∀ j, j < ss.length → w.cell? ⟨b, off + j, none⟩ = some (.string (ss.getD j ByteArray.empty)) := by
  obtain ⟨b, off, spot⟩ := a
  have hspot : spot = none := by simpa [Addr.add] using World.cell?_spot (h 0 hp)
  subst hspot
  exact ⟨b, off, rfl, fun j hj => by rw [← Go.WideShapes.add_plain]; exact h j hj⟩

/-- A slice of texts that came in. -/
theorem in_strs {W : World} {t e : TypeId} (ht : P.underlying t = some (.slice e)) (he : P.underlying e = some .string) (hc : P.cellsOf e = 1) {n : Nat} {cs : List Value} {d : DataW H} {p : List MemPlace}
    (hf : DataW.trod enc P W 0 (fun _ => true) true n t cs = some (d, p)) :
    ∃ (A : Option Addr) (c : Nat) (l : List ByteArray), cs = [.slice A l.length c] ∧ l.length ≤ c ∧ c ≤ maxLen ∧ Strs W A l ∧ ∀ x ∈ l, x.size ≤ maxLen := by
  rcases open_strings ht he hc hf with ⟨hcs, hx⟩ | ⟨a, len, cap, zs, hcs, _, hl, hm, hz, hx, hcell, hwz⟩
  · exact ⟨none, 0, [], hcs, Nat.le_refl _, Nat.zero_le _, ⟨strE_len, Rd.none_ _ _ _⟩, fun x hx => by cases hx⟩
  · simp only [if_true] at hz
    have hlt : (zs.take len).length = len := by simp; omega
    refine ⟨some a, cap, zs.take len, by rw [hlt]; exact hcs, by omega, hm, ⟨strE_len, ?_, fun hn => ?_⟩, fun x hx => hwz x (List.mem_of_mem_take hx)⟩
    · rw [flatMap_len strE_len]
    · obtain ⟨b, off, rfl, hc'⟩ := strings_at hcell (by omega)
      refine ⟨b, off, rfl, World.block_lt_of_cell? W _ (hc' 0 (by omega)), fun j u hu => ?_⟩
      have hj : j < len := by
        have := (List.getElem?_eq_some_iff.1 hu).1
        rw [flatMap_len strE_len] at this
        omega
      have hx : zs[j]? = some (zs.getD j ByteArray.empty) := by
        rw [List.getD_eq_getElem?_getD, List.getElem?_eq_getElem (by omega)]; rfl
      have h1 := flatMap_at strE_len (zs.take len) j (zs.getD j ByteArray.empty) 0 (by rw [List.getElem?_take, if_pos hj]; exact hx) (by omega)
      simp only [Nat.mul_one, Nat.add_zero] at h1
      rw [h1] at hu
      injection hu with hu
      rw [← hu]
      exact hc' j (by omega)

/-- A slice of structs that came in: for every element the cells of all its fields, each with its own reading. -/
theorem open_slice_fields {w : World} {base : Nat} {spare : Nat → Bool} {held : Bool} {t e : TypeId} {fs : Array Field} {fuel : Nat} {cs : List Value} {x : DataW H × List MemPlace} (ht : P.underlying t = some (.slice e)) (he : P.underlying e = some (.struct fs))
    (hone : oneCellFields P fs = true) (hC : P.cellsOf e = fs.size) (h : DataW.trod enc P w base spare held fuel t cs = some x) :
    (cs = [.slice none 0 0] ∧ x = (.nil, [])) ∨
    ∃ (a : Addr) (len cap m : Nat), cs = [.slice (some a) len cap] ∧ len ≤ cap ∧ cap ≤ maxLen ∧ m = (if spare a.block then cap else len) ∧
      ∀ i, i < m → ∀ (j : Nat) (f : Field), fs[j]? = some f → ∃ (v : Value) (y : DataW H × List MemPlace) (n : Nat), w.cell? (a.add (i * fs.size + j)) = some v ∧ DataW.trod enc P w base spare held n f.type [v] = some y := by
  rcases open_slice ht h with h0 | ⟨a, len, cap, m, n, D, Pl, hcs, hb, hl, hm, hmm, hx, hi⟩
  · exact .inl h0
  · refine .inr ⟨a, len, cap, m, hcs, hl, hm, hmm, fun i him j f hj => ?_⟩
    obtain ⟨cs', hc, ht'⟩ := hi i him
    rw [hC] at hc
    obtain ⟨ys, n', hn', hy, hlen, hyl, hf⟩ := DataW.trod_struct he ht'
    obtain ⟨_, hcl, hat⟩ := World.cells?_some hc
    obtain ⟨ho, hk⟩ := hone_of hone j f hj
    have hjl : j < fs.size := (Array.getElem?_eq_some_iff.1 hj).1
    have hcell := hat j hjl
    have hv : cs'[j]? = some (cs'[j]'(by omega)) := List.getElem?_eq_getElem (by omega)
    have h1 := hf j f hj
    rw [ho, hk] at h1
    have hone' : (cs'.drop j).take 1 = [cs'[j]'(by omega)] := by
      rw [List.drop_eq_getElem_cons (by omega)]
      rfl
    rw [hone'] at h1
    have hys : ys[j]? = some (ys[j]'(by omega)) := List.getElem?_eq_getElem (by omega)
    refine ⟨_, _, n', ?_, h1.trans hys⟩
    rw [← Go.Deep.add_add, hcell, hv]

/-- From 'for every element its cells' to a list of records. -/
theorem recs_of {α : Type} [Inhabited α] {e : α → List Value} {s : Nat} (he : ∀ x, (e x).length = s) (hs : 0 < s) {W : World} {a : Addr} {len : Nat} {Q : α → Prop} (h : ∀ i, i < len → ∃ x : α, Q x ∧ ∀ j u, (e x)[j]? = some u → W.cell? (a.add (i * s + j)) = some u) :
    ∃ l : List α, l.length = len ∧ Recs e s W (some a) l ∧ ∀ x ∈ l, Q x := by
  obtain ⟨F, hF0⟩ := choose_lt h
  have hF := fun i hi => (hF0 i hi).2
  refine ⟨(List.range len).map F, by simp, ⟨he, flatMap_len he _, fun hn => ?_⟩, fun x hx => by
    obtain ⟨i, hi, rfl⟩ := List.mem_map.1 hx
    exact (hF0 i (List.mem_range.1 hi)).1⟩
  have hn : 0 < len := by simpa using hn
  obtain ⟨b, off, spot⟩ := a
  obtain ⟨u0, hu0⟩ : ∃ u, (e (F 0))[0]? = some u := ⟨_, List.getElem?_eq_getElem (by rw [he]; exact hs)⟩
  have h00 := hF 0 hn 0 u0 hu0
  have hspot : spot = none := by simpa [Addr.add] using World.cell?_spot h00
  subst hspot
  have hblk : b < W.heap.size := by simpa [Addr.add] using World.block_lt_of_cell? W _ h00
  refine ⟨b, off, rfl, hblk, fun j u hu => ?_⟩
  have hj : j < len * s := by
    have := (List.getElem?_eq_some_iff.1 hu).1
    rw [flatMap_len he] at this
    simpa using this
  have hjs : j / s < len := Nat.div_lt_of_lt_mul (by rw [Nat.mul_comm]; exact hj)
  have hel : ((List.range len).map F)[j / s]? = some (F (j / s)) := by simp [hjs]
  have h2 := flatMap_at he _ (j / s) _ (j % s) hel (Nat.mod_lt _ hs)
  have hdm : j / s * s + j % s = j := Nat.div_add_mod' j s
  rw [hdm] at h2
  have h3 := hF (j / s) hjs (j % s) u (h2.symm.trans hu)
  rw [hdm, Go.WideShapes.add_plain] at h3
  exact h3

theorem cell_int {W : World} {t : TypeId} (ht : P.underlying t = some (.int .i64)) {n : Nat} {v : Value} {y : DataW H × List MemPlace} (h : DataW.trod enc P W 0 (fun _ => true) true n t [v] = some y) : ∃ x : Int, v = .int .i64 x ∧ I64 x := by
  obtain ⟨x, e, _, hx⟩ := DataW.trod_int ht h
  simp only [List.cons.injEq, and_true] at e
  exact ⟨x, e, bounds_i64 hx⟩
theorem in_recs2 {α : Type} [Inhabited α] {f g : α → Value} {Q : α → Prop} {W : World} {t e : TypeId} {f0 f1 : Field} (ht : P.underlying t = some (.slice e)) (he : P.underlying e = some (.struct #[f0, f1])) (hone : oneCellFields P #[f0, f1] = true) (hC : P.cellsOf e = 2)
    (hcell : ∀ v0 v1 y0 y1 n0 n1, DataW.trod enc P W 0 (fun _ => true) true n0 f0.type [v0] = some y0 → DataW.trod enc P W 0 (fun _ => true) true n1 f1.type [v1] = some y1 → ∃ x : α, Q x ∧ v0 = f x ∧ v1 = g x)
    {n : Nat} {v : Value} {y : DataW H × List MemPlace} (h : DataW.trod enc P W 0 (fun _ => true) true n t [v] = some y) :
    ∃ (A : Option Addr) (c : Nat) (l : List α), [v] = [.slice A l.length c] ∧ l.length ≤ c ∧ c ≤ maxLen ∧ Recs (fun x => [f x, g x]) 2 W A l ∧ ∀ x ∈ l, Q x := by
  rcases open_slice_fields ht he hone (by rw [hC]; rfl) h with ⟨hcs, _⟩ | ⟨a, len, cap, m, hcs, hl, hm, hmm, hi⟩
  · exact ⟨none, 0, [], hcs, Nat.le_refl _, Nat.zero_le _, ⟨fun _ => rfl, Rd.none_ _ _ _⟩, fun x hx => by cases hx⟩
  · simp only [if_true] at hmm
    obtain ⟨l, hlen, hrec, hq⟩ := recs_of (e := fun x : α => [f x, g x]) (s := 2) (fun _ => rfl) (by omega) (W := W) (a := a) (len := len) (Q := Q) fun i hil => by
      obtain ⟨v0, y0, n0, c0, t0⟩ := hi i (by omega) 0 f0 rfl
      obtain ⟨v1, y1, n1, c1, t1⟩ := hi i (by omega) 1 f1 rfl
      obtain ⟨x, hx, rfl, rfl⟩ := hcell _ _ _ _ _ _ t0 t1
      refine ⟨x, hx, fun j u hu => ?_⟩
      match j, hu with
      | 0, hu => simp at hu; subst hu; exact c0
      | 1, hu => simp at hu; subst hu; exact c1
    exact ⟨some a, cap, l, by rw [hlen]; exact hcs, by omega, hm, hrec, hq⟩
theorem in_recs3 {α : Type} [Inhabited α] {f g k : α → Value} {Q : α → Prop} {W : World} {t e : TypeId} {f0 f1 f2 : Field} (ht : P.underlying t = some (.slice e)) (he : P.underlying e = some (.struct #[f0, f1, f2])) (hone : oneCellFields P #[f0, f1, f2] = true) (hC : P.cellsOf e = 3)
    (hcell : ∀ v0 v1 v2 y0 y1 y2 n0 n1 n2, DataW.trod enc P W 0 (fun _ => true) true n0 f0.type [v0] = some y0 → DataW.trod enc P W 0 (fun _ => true) true n1 f1.type [v1] = some y1 → DataW.trod enc P W 0 (fun _ => true) true n2 f2.type [v2] = some y2 → ∃ x : α, Q x ∧ v0 = f x ∧ v1 = g x ∧ v2 = k x)
    {n : Nat} {v : Value} {y : DataW H × List MemPlace} (h : DataW.trod enc P W 0 (fun _ => true) true n t [v] = some y) :
    ∃ (A : Option Addr) (c : Nat) (l : List α), [v] = [.slice A l.length c] ∧ l.length ≤ c ∧ c ≤ maxLen ∧ Recs (fun x => [f x, g x, k x]) 3 W A l ∧ ∀ x ∈ l, Q x := by
  rcases open_slice_fields ht he hone (by rw [hC]; rfl) h with ⟨hcs, _⟩ | ⟨a, len, cap, m, hcs, hl, hm, hmm, hi⟩
  · exact ⟨none, 0, [], hcs, Nat.le_refl _, Nat.zero_le _, ⟨fun _ => rfl, Rd.none_ _ _ _⟩, fun x hx => by cases hx⟩
  · simp only [if_true] at hmm
    obtain ⟨l, hlen, hrec, hq⟩ := recs_of (e := fun x : α => [f x, g x, k x]) (s := 3) (fun _ => rfl) (by omega) (W := W) (a := a) (len := len) (Q := Q) fun i hil => by
      obtain ⟨v0, y0, n0, c0, t0⟩ := hi i (by omega) 0 f0 rfl
      obtain ⟨v1, y1, n1, c1, t1⟩ := hi i (by omega) 1 f1 rfl
      obtain ⟨v2, y2, n2, c2, t2⟩ := hi i (by omega) 2 f2 rfl
      obtain ⟨x, hx, rfl, rfl, rfl⟩ := hcell _ _ _ _ _ _ _ _ _ t0 t1 t2
      refine ⟨x, hx, fun j u hu => ?_⟩
      match j, hu with
      | 0, hu => simp at hu; subst hu; exact c0
      | 1, hu => simp at hu; subst hu; exact c1
      | 2, hu => simp at hu; subst hu; exact c2
    exact ⟨some a, cap, l, by rw [hlen]; exact hcs, by omega, hm, hrec, hq⟩
end
section
variable {H : Type} {enc : TypeId × Value → H}
end
end Go.Proofs.YtoheahbkopbmhaaGreat
/- The element types whose slices are made and appended to. -/
namespace Go.Proofs.YtoheahbkopbmhaaGreat
set_option linter.unusedVariables false
set_option linter.unusedSimpArgs false
open Go.ChangeShapes Go.WideShapes Go.ChangeAt Go.RowKit Go.Deep
theorem Tryz.elInt : ElemOk Tryz.prog 48 3 (.int .i64 0) 1 8 := ⟨Tryz.underlying48, by kernel_rfl, rfl, by decide⟩
theorem Tryz.elBool : ElemOk Tryz.prog 46 4 (.bool false) 1 1 := ⟨Tryz.underlying46, by kernel_rfl, rfl, by decide⟩
theorem Tryz.elStr : ElemOk Tryz.prog 22 9 (.string ByteArray.empty) 1 16 := ⟨Tryz.underlying22, by kernel_rfl, rfl, by decide⟩
end Go.Proofs.YtoheahbkopbmhaaGreat
/- More plain words. -/
namespace Go.Proofs.YtoheahbkopbmhaaGreat
set_option linter.unusedVariables false
set_option linter.unusedSimpArgs false
open Go.ChangeShapes Go.WideShapes Go.ChangeAt Go.RowKit Go.Deep
theorem below_of_drew {w w' : World} (h : Below w.drew.heap.size w.drew w') : Below w.heap.size w w' := ⟨h.os, h.tape, h.output, h.size, h.block⟩
theorem grown_any {w w' : World} (hb : Below w.heap.size w w') (row : Option Nat) : w.grownBy w' row := ⟨hb.os, hb.tape, hb.output, hb.size, fun k hk _ => hb.block k hk⟩
theorem Recs.drew {α : Type} {e : α → List Value} {s : Nat} {w : World} {A : Option Addr} {l : List α} (h : Recs e s w A l) : Recs e s w.drew A l := h.up (Below.drew (Below.refl _ _))
theorem InRange.out {v : Value} {a b x : Nat} (h : InRange v a b) (hd : x < a ∨ b ≤ x) : some x ≠ v.ownBlock := fun e => by
  have := h x e.symm
  omega
end Go.Proofs.YtoheahbkopbmhaaGreat
/- What the checks of strikes, times, blows and beats compute, as plain functions on lists. -/
namespace Go.Proofs.YtoheahbkopbmhaaGreat
set_option linter.unusedVariables false
set_option linter.unusedSimpArgs false

def inB (n a b : Int) : Bool := decide (a ≤ n ∧ n ≤ b)
theorem inB_t {n a b : Int} (h : inB n a b = true) : a ≤ n ∧ n ≤ b := by simpa [inB] using h
theorem inB_f {n a b : Int} (h : inB n a b = false) : ¬ (a ≤ n ∧ n ≤ b) := by simpa only [inB, decide_eq_false_iff_not] using h

def goodBeatB (x y z : Int) : Bool := inB x 0 1000000 && inB y 1 2000 && inB z 0 2000

def blowAtZ (x y z n r p : Int) : Int := x + y * (n * r + p - 1) + z * (r / 2)
def okBlow (x y z n r p : Int) : Bool := goodBeatB x y z && inB n 3 8 && inB r 0 800 && inB p 1 n
def blowV (x y z n r p : Int) : Int := if okBlow x y z n r p = true then blowAtZ x y z n r p else 0
theorem blowV_t {x y z n r p : Int} (h : okBlow x y z n r p = true) : blowV x y z n r p = blowAtZ x y z n r p := by rw [blowV, if_pos h]
theorem blowV_f {x y z n r p : Int} (h : okBlow x y z n r p = false) : blowV x y z n r p = 0 := by rw [blowV, if_neg (by rw [h]; simp)]
theorem goodBeat_t {x y z : Int} (h : goodBeatB x y z = true) : (0 ≤ x ∧ x ≤ 1000000) ∧ (1 ≤ y ∧ y ≤ 2000) ∧ (0 ≤ z ∧ z ≤ 2000) := by
  simp only [goodBeatB, Bool.and_eq_true] at h
  exact ⟨inB_t h.1.1, inB_t h.1.2, inB_t h.2⟩

/-! times -/
def okTime (l : List Int) (i : Nat) : Bool := inB (l.getD i 0) 0 1000000 && !(decide (0 < i) && decide (l.getD i 0 < l.getD (i - 1) 0))
def goodTimes (l : List Int) : Bool := (List.range l.length).all (okTime l) && decide (l.length ≤ 60)
theorem okTime_zero {l : List Int} {k : Nat} {x : Int} (hk : ¬ 0 < k) (h : l[k]? = some x) : okTime l k = inB x 0 1000000 := by
  simp [okTime, List.getD, h, hk]
theorem okTime_pos {l : List Int} {k : Nat} {x y : Int} (hk : 0 < k) (h : l[k]? = some x) (h' : l[k - 1]? = some y) : okTime l k = (inB x 0 1000000 && !decide (x < y)) := by
  simp [okTime, List.getD, h, h', hk]

/-! strikes -/
abbrev strikeE : Int × Int → List Value := fun s => [.int .i64 s.1, .int .i64 s.2]
theorem strikeE_len (s : Int × Int) : (strikeE s).length = 2 := rfl
theorem strikeE_one (s : Int × Int) : ∀ u ∈ strikeE s, u.oneCell' = true := fun u hu => by simp [strikeE] at hu; rcases hu with rfl | rfl <;> rfl
abbrev blowE : Int × Int × Int → List Value := fun s => [.int .i64 s.1, .int .i64 s.2.1, .int .i64 s.2.2]
theorem blowE_len (s : Int × Int × Int) : (blowE s).length = 3 := rfl
def okStrike (l : List (Int × Int)) (i : Nat) : Bool := inB (l.getD i (0, 0)).1 1 8 && inB (l.getD i (0, 0)).2 0 1000000 && !(decide (0 < i) && decide ((l.getD i (0, 0)).2 < (l.getD (i - 1) (0, 0)).2))
def goodStrikes (l : List (Int × Int)) : Bool := (List.range l.length).all (okStrike l) && decide (l.length ≤ 2000)
theorem okStrike_bell {l : List (Int × Int)} {k : Nat} {x : Int × Int} (h : l[k]? = some x) (hx : inB x.1 1 8 = false) : okStrike l k = false := by
  simp [okStrike, List.getD, h, hx]
theorem okStrike_time {l : List (Int × Int)} {k : Nat} {x : Int × Int} (h : l[k]? = some x) (hx : inB x.2 0 1000000 = false) : okStrike l k = false := by
  simp [okStrike, List.getD, h, hx]
theorem okStrike_zero {l : List (Int × Int)} {k : Nat} {x : Int × Int} (hk : ¬ 0 < k) (h : l[k]? = some x) (h1 : inB x.1 1 8 = true) (h2 : inB x.2 0 1000000 = true) : okStrike l k = true := by
  simp [okStrike, List.getD, h, hk, h1, h2]
theorem okStrike_pos {l : List (Int × Int)} {k : Nat} {x y : Int × Int} (hk : 0 < k) (h : l[k]? = some x) (h' : l[k - 1]? = some y) (h1 : inB x.1 1 8 = true) (h2 : inB x.2 0 1000000 = true) : okStrike l k = !decide (x.2 < y.2) := by
  simp [okStrike, List.getD, h, h', hk, h1, h2]


def shiftOk (l : List (Int × Int)) (by_ : Int) : Bool := goodStrikes l && inB by_ (-1000000) 1000000 && goodStrikes (l.map fun s => (s.1, s.2 + by_))
def shiftR (l : List (Int × Int)) (by_ : Int) : List (Int × Int) := if shiftOk l by_ = true then l.map fun s => (s.1, s.2 + by_) else []
theorem shiftR_t {l : List (Int × Int)} {d : Int} (h : shiftOk l d = true) : shiftR l d = l.map fun s => (s.1, s.2 + d) := by rw [shiftR, if_pos h]
theorem shiftR_f {l : List (Int × Int)} {d : Int} (h : shiftOk l d = false) : shiftR l d = [] := by rw [shiftR, if_neg (by rw [h]; simp)]
theorem goodStrikes_t {l : List (Int × Int)} (h : goodStrikes l = true) : l.length ≤ 2000 ∧ ∀ x ∈ l, (1 ≤ x.1 ∧ x.1 ≤ 8) ∧ 0 ≤ x.2 ∧ x.2 ≤ 1000000 := by
  simp only [goodStrikes, Bool.and_eq_true, decide_eq_true_eq, List.all_eq_true, List.mem_range] at h
  refine ⟨h.2, fun x hx => ?_⟩
  obtain ⟨j, hj, e⟩ := List.getElem_of_mem hx
  have h1 := h.1 j hj
  simp only [okStrike, Bool.and_eq_true] at h1
  have e1 : l.getD j (0, 0) = x := by rw [List.getD_eq_getElem?_getD, List.getElem?_eq_getElem hj, e]; rfl
  rw [e1] at h1
  exact ⟨inB_t h1.1.1, inB_t h1.1.2⟩
theorem shift_len {l : List (Int × Int)} {d : Int} : (shiftR l d).length ≤ 16777216 := by
  rcases h : shiftOk l d
  · rw [shiftR_f h]; exact Nat.zero_le _
  · rw [shiftR_t h, List.length_map]
    simp only [shiftOk, Bool.and_eq_true] at h
    have := (goodStrikes_t h.1.1).1
    omega

/-! the times of one bell; strikes that come too soon -/
def ofBellR (l : List (Int × Int)) (b : Int) : List Int := (l.filter fun s => s.1 == b).map fun s => s.2
theorem ofBell_len (l : List (Int × Int)) (b : Int) : (ofBellR l b).length ≤ l.length := by
  rw [ofBellR, List.length_map]; exact List.length_filter_le _ _
theorem ofBell_hit {l : List (Int × Int)} {b : Int} {k : Nat} {x : Int × Int} (h : l[k]? = some x) (hx : (x.1 == b) = true) : ofBellR (l.take (k + 1)) b = ofBellR (l.take k) b ++ [x.2] := by
  rw [take_succ_some h, ofBellR, List.filter_append, List.map_append]
  simp [ofBellR, hx]
theorem ofBell_miss {l : List (Int × Int)} {b : Int} {k : Nat} {x : Int × Int} (h : l[k]? = some x) (hx : (x.1 == b) = false) : ofBellR (l.take (k + 1)) b = ofBellR (l.take k) b := by
  rw [take_succ_some h, ofBellR, List.filter_append, List.map_append]
  simp [ofBellR, hx]
def bellOk (l : List (Int × Int)) (b : Int) : Bool := goodStrikes l && inB b 1 8
def bellR (l : List (Int × Int)) (b : Int) : List Int := if bellOk l b = true then ofBellR l b else []
theorem bellR_t {l : List (Int × Int)} {d : Int} (h : bellOk l d = true) : bellR l d = ofBellR l d := by rw [bellR, if_pos h]
theorem bellR_f {l : List (Int × Int)} {d : Int} (h : bellOk l d = false) : bellR l d = [] := by rw [bellR, if_neg (by rw [h]; simp)]

/-- The numbers below n of which p holds. -/
def pick (p : Nat → Bool) (n : Nat) : List Int := ((List.range n).filter p).map fun (k : Nat) => (k : Int)
theorem pick_len (p : Nat → Bool) (n : Nat) : (pick p n).length ≤ n := by
  rw [pick, List.length_map]
  exact Nat.le_trans (List.length_filter_le _ _) (by simp)
theorem pick_hit {p : Nat → Bool} {k : Nat} (h : p k = true) : pick p (k + 1) = pick p k ++ [(k : Int)] := by
  simp [pick, List.range_succ, h]
theorem pick_miss {p : Nat → Bool} {k : Nat} (h : p k = false) : pick p (k + 1) = pick p k := by
  simp [pick, List.range_succ, h]
def soon (l : List (Int × Int)) (d : Int) (k : Nat) : Bool := decide (0 < k) && decide ((l.getD k (0, 0)).2 - (l.getD (k - 1) (0, 0)).2 < d)
theorem soon_eq {l : List (Int × Int)} {d : Int} {k : Nat} {x y : Int × Int} (hk : 0 < k) (hx : l[k]? = some x) (hy : l[k - 1]? = some y) : soon l d k = decide (x.2 - y.2 < d) := by
  simp [soon, List.getD, hk, hx, hy]
def clipOk (l : List (Int × Int)) (d : Int) : Bool := goodStrikes l && inB d 0 10000
def clipR (l : List (Int × Int)) (d : Int) : List Int := if clipOk l d = true then pick (soon l d) l.length else []
theorem clipR_t {l : List (Int × Int)} {d : Int} (h : clipOk l d = true) : clipR l d = pick (soon l d) l.length := by rw [clipR, if_pos h]
theorem clipR_f {l : List (Int × Int)} {d : Int} (h : clipOk l d = false) : clipR l d = [] := by rw [clipR, if_neg (by rw [h]; simp)]
theorem clip_short {l : List (Int × Int)} {d : Int} (h : l.length ≤ 1) : pick (soon l d) l.length = [] := by
  rcases Nat.le_one_iff_eq_zero_or_eq_one.1 h with h | h <;> rw [h] <;> rfl
end Go.Proofs.YtoheahbkopbmhaaGreat
/- The laws' own conversions of []string: copying, comparing, counting, marking. -/
namespace Go.Proofs.YtoheahbkopbmhaaGreat
set_option linter.unusedVariables false
set_option linter.unusedSimpArgs false
open Go.ChangeShapes Go.WideShapes Go.ChangeAt Go.RowKit Go.Deep
theorem bytes_same {a b : ByteArray} (h : (a.toList == b.toList) = true) : a = b := by
  have h1 : a.toList = b.toList := by simpa using h
  rw [ByteArray.toList_eq, ByteArray.toList_eq] at h1
  cases a; cases b
  congr 1
  exact Array.ext' h1
set_option maxRecDepth 100000 in
theorem laws_toStringS (A : Option Addr) (n c : Nat) (l : List ByteArray) (w : World) (hn : l.length = n) (h : Recs strE 1 w A l) (hz : n ≤ 1048576) :
    Calls Tryz.prog 23 #[.slice A n c] w fun e w' => ∃ g, e = .returned (.slice (some ⟨g, 0, none⟩) n n) ∧ Owned strE 1 9 w' w.heap.size (some ⟨g, 0, none⟩) n n l ∧ Below w.heap.size w w' := by
  subst hn
  have hmk := run_make_rec (e := strE) Tryz.elStr ByteArray.empty rfl l.length (by omega) (by decide)
  go_in
  go_wp2
  clear hmk
  go_loopw [4] (fun i wr => ∃ (k : Nat) (m : List ByteArray), k ≤ l.length ∧ i = .int .i64 k ∧ Hid (∀ j, j < k → m[j]? = l[j]?) ∧ Owned strE 1 9 wr w.heap.size (some ⟨w.heap.size, 0, none⟩) l.length l.length m ∧ Below w.heap.size w wr) (fun i _ => l.length - (intOf i).toNat)
  case atStart => exact ⟨0, _, Nat.zero_le _, rfl, Lib.hid (fun j hj => absurd hj (by omega)), (by have h0 := Owned.made (e := strE) (s := 1) (fun _ => rfl) w 9 ByteArray.empty l.length (by omega) (Nat.le_refl _); rw [Nat.mul_one] at h0; exact h0), by (repeat' (first | (with_reducible exact Below.refl _ _) | (with_reducible assumption) | (with_reducible refine below_drewN ?_ _) | (with_reducible refine Below.drew ?_) | (with_reducible refine below_alloc ?_ _) | (with_reducible refine Below.alloc ?_ ?_ _) | (with_reducible refine Below.setCell ?_ ?_ _) | (with_reducible refine below_go ?_ (by with_reducible assumption)) | (with_reducible refine below_then (by with_reducible assumption) ?_ ?_) | go_size))⟩
  case round =>
    obtain ⟨k, m, hk, rfl, HM, ho, hb⟩ := hrel
    by_cases hlt : k < l.length
    · obtain ⟨x, hx⟩ := some_of_lt hlt
      obtain ⟨y, hy⟩ := some_of_lt (l := m) (k := k) (by rw [ho.len]; exact hlt)
      obtain ⟨b1, o1, x', rfl, hbb, hx', hc0⟩ := (h.below hb (Nat.le_refl _)).at_str hlt
      rw [hx] at hx'
      injection hx' with hx'
      subst hx'
      have HX := Lib.hid hx
      have HY := Lib.hid hy
      have HO := Lib.hid ho
      clear hx hy ho h
      have HO1 := HO
      obtain ⟨g', eg, _, _, hcell, hfz⟩ := HO1.out.at_ (by omega)
      injection eg with eg
      injection eg with eg
      subst eg
      have old0 := hcell k y 0 _ HY.out rfl
      have fz0 := hfz (k * 1 + 0)
      simp only [Nat.mul_one, Nat.add_zero] at old0 fz0
      clear hcell hfz
      go_wp2
      go_roundw
      case rel =>
        refine ⟨k + 1, m.set k x, by omega, by go_num, Lib.hid (upto_set HM.out HX.out (by rw [HO1.out.len]; exact hlt)), ?_, by (repeat' (first | (with_reducible exact Below.refl _ _) | (with_reducible assumption) | (with_reducible refine below_drewN ?_ _) | (with_reducible refine Below.drew ?_) | (with_reducible refine below_alloc ?_ _) | (with_reducible refine Below.alloc ?_ ?_ _) | (with_reducible refine Below.setCell ?_ ?_ _) | (with_reducible refine below_go ?_ (by with_reducible assumption)) | (with_reducible refine below_then (by with_reducible assumption) ?_ ?_) | go_size))⟩
        have p0 := (HO1.out.put (j := 0) (x := x) (u := .string x) HY.out (by decide) rfl).1
        simp only [Nat.mul_one, Nat.add_zero] at p0
        exact p0
      case measure => simp [intOf]; omega
    · go_wp2
      go_ret
      have e1 : m = l := eq_of_upto (fun j hj => HM.out j hj) (by rw [ho.len]; omega) (by omega)
      subst e1
      exact ⟨_, rfl, ho, hb⟩
set_option maxRecDepth 100000 in
theorem laws_eqStringS (A C : Option Addr) (n n' c d : Nat) (l m : List ByteArray) (w : World) (hn : l.length = n) (hn' : m.length = n') (h : Recs strE 1 w A l) (g : Recs strE 1 w C m) (hz : n ≤ 16777216) (hz' : n' ≤ 16777216) :
    Calls Tryz.prog 31 #[.slice A n c, .slice C n' d] w fun e w' => e = .returned (.bool (decide (l = m))) ∧ Below w.heap.size w w' := by
  subst hn hn'
  by_cases hl : l.length = m.length
  · have HL := Lib.hid hl
    rw [← hl]
    clear hl
    go_in
    go_wp2
    go_loopw [5] (fun i wr => ∃ k : Nat, k ≤ l.length ∧ i = .int .i64 k ∧ Hid (∀ j, j < k → l[j]? = m[j]?) ∧ Below w.heap.size w wr) (fun i _ => l.length - (intOf i).toNat)
    case atStart => exact ⟨0, Nat.zero_le _, rfl, Lib.hid (fun j hj => absurd hj (by omega)), Below.refl _ _⟩
    case round =>
      obtain ⟨k, hk, rfl, HT, hb⟩ := hrel
      by_cases hlt : k < l.length
      · obtain ⟨b1, o1, x, rfl, _, hx, hcx⟩ := (h.below hb (Nat.le_refl _)).at_str hlt
        obtain ⟨b2, o2, y, rfl, _, hy, hcy⟩ := (g.below hb (Nat.le_refl _)).at_str (by rw [← HL.out]; exact hlt)
        have HX := Lib.hid hx
        have HY := Lib.hid hy
        clear hx hy h g
        rcases hne : (x.toList == y.toList)
        · have he := Lib.hid hne
          go_wp2
          go_quiet (fail)
          go_wp2
          go_ret
          refine ⟨ret_bool ?_, by (repeat' (first | (with_reducible exact Below.refl _ _) | (with_reducible assumption) | (with_reducible refine below_drewN ?_ _) | (with_reducible refine Below.drew ?_) | (with_reducible refine below_alloc ?_ _) | (with_reducible refine Below.alloc ?_ ?_ _) | (with_reducible refine Below.setCell ?_ ?_ _) | (with_reducible refine below_go ?_ (by with_reducible assumption)) | (with_reducible refine below_then (by with_reducible assumption) ?_ ?_) | go_size))⟩
          have hd : l ≠ m := fun e => by
            have h1 := HX.out
            rw [e, HY.out] at h1
            injection h1 with h1
            have h2 := he.out
            rw [h1] at h2
            simp at h2
          simp [hd]
        · have he := Lib.hid hne
          go_wp2
          go_quiet (fail)
          go_wp2
          go_roundw
          case rel => exact ⟨k + 1, by omega, by go_num, Lib.hid (upto_succ HT.out (by rw [HX.out, HY.out, bytes_same he.out])), by (repeat' (first | (with_reducible exact Below.refl _ _) | (with_reducible assumption) | (with_reducible refine below_drewN ?_ _) | (with_reducible refine Below.drew ?_) | (with_reducible refine below_alloc ?_ _) | (with_reducible refine Below.alloc ?_ ?_ _) | (with_reducible refine Below.setCell ?_ ?_ _) | (with_reducible refine below_go ?_ (by with_reducible assumption)) | (with_reducible refine below_then (by with_reducible assumption) ?_ ?_) | go_size))⟩
          case measure => simp [intOf]; omega
      · go_wp2
        go_ret
        refine ⟨ret_bool ?_, hb⟩
        have hd : l = m := eq_of_upto (fun j hj => HT.out j hj) (by omega) (by have := HL.out; omega)
        simp [hd]
  · have hne : ((l.length : Int) != (m.length : Int)) = true := by simp; omega
    have hd : l ≠ m := fun e => hl (by rw [e])
    have HD := Lib.hid hd
    clear hd hl
    go_in
    go_wp2
    go_ret
    refine ⟨ret_bool ?_, by (repeat' (first | (with_reducible exact Below.refl _ _) | (with_reducible assumption) | (with_reducible refine below_drewN ?_ _) | (with_reducible refine Below.drew ?_) | (with_reducible refine below_alloc ?_ _) | (with_reducible refine Below.alloc ?_ ?_ _) | (with_reducible refine Below.setCell ?_ ?_ _) | (with_reducible refine below_go ?_ (by with_reducible assumption)) | (with_reducible refine below_then (by with_reducible assumption) ?_ ?_) | go_size))⟩
    simp [HD.out]
/-- The room that a list of texts takes. -/
def szS (l : List ByteArray) : Int := (l.map fun s => (s.size : Int)).sum + l.length
theorem szS_nil : szS [] = 0 := rfl
theorem szS_cons (s : ByteArray) (l : List ByteArray) : szS (s :: l) = (s.size : Int) + szS l + 1 := by simp only [szS, List.map_cons, List.sum_cons, List.length_cons]; omega
theorem szS_len : ∀ (l : List ByteArray), (l.length : Int) ≤ szS l
  | [] => by simp [szS]
  | s :: l => by have := szS_len l; rw [szS_cons, List.length_cons]; omega
theorem szS_each : ∀ (l : List ByteArray) (s : ByteArray), s ∈ l → (s.size : Int) ≤ szS l
  | x :: l, s, h => by
    rw [szS_cons]
    have h0 := szS_len l
    rcases List.mem_cons.1 h with rfl | h
    · omega
    · have := szS_each l s h
      omega
set_option maxRecDepth 100000 in
theorem laws_szStringS (A : Option Addr) (n c : Nat) (l : List ByteArray) (left : Int) (w : World) (hn : l.length = n) (h : Recs strE 1 w A l) (h1 : left ≤ 1048576) (h0 : 0 ≤ left) (hm : l.length ≤ 9223372036854775807) (hs : ∀ s ∈ l, s.size ≤ maxLen) :
    Calls Tryz.prog 15 #[.slice A n c, .int .i64 left] w fun e w' => ∃ r : Int, e = .returned (.int .i64 r) ∧ ((szS l ≤ left ∧ r = left - szS l) ∨ (left < szS l ∧ r = -1)) ∧ w = w' := by
  subst hn
  have hmx : maxLen ≤ 9223372036854775807 := by decide
  by_cases hl : (l.length : Int) ≤ left
  · have HS : Hid (∀ s ∈ l, s.size ≤ maxLen) := hs
    go_in
    go_wp2
    go_loopw [1, 5] (fun v i wr => ∃ (k : Nat) (x : Int), k ≤ l.length ∧ i = .int .i64 k ∧ v = .int .i64 x ∧ 0 ≤ x ∧ x ≤ left ∧ Hid (x - (szS (l.drop k) - ((l.length : Int) - k)) = left - szS l) ∧ w = wr) (fun _ i _ => l.length - (intOf i).toNat)
    case atStart => exact ⟨0, _, Nat.zero_le _, rfl, rfl, by omega, by omega, Lib.hid (by simp only [List.drop_zero]; omega), rfl⟩
    case round =>
      obtain ⟨k, x, hk, rfl, rfl, hx0, hxl, HX, rfl⟩ := hrel
      by_cases hlt : k < l.length
      · obtain ⟨b3, o3, y3, rfl, hbb3, hy3, hc3⟩ := h.at_str hlt
        have HD := Lib.hid (show l.drop k = y3 :: l.drop (k + 1) by rw [List.drop_eq_getElem_cons hlt]; congr 1; rw [List.getElem?_eq_getElem hlt] at hy3; injection hy3)
        have hy3m := HS.out y3 (List.mem_of_getElem? hy3)
        have E := Lib.hid (show (x - (y3.size : Int)) - (szS (l.drop (k + 1)) - ((l.length : Int) - (k + 1))) = left - szS l by have := HX.out; rw [HD.out, szS_cons] at this; omega)
        clear hy3
        by_cases hx : (y3.size : Int) ≤ x
        · go_wp2
          go_roundw
          case rel => exact ⟨k + 1, x - y3.size, by omega, by go_num, by go_num, by omega, by omega, E, trivial⟩
          case measure => simp [intOf]; omega
        · go_wp2
          go_ret
          refine ⟨_, rfl, Or.inr ⟨?_, rfl⟩, rfl⟩
          have h1 := E.out
          have h2 := szS_len (l.drop (k + 1))
          rw [List.length_drop] at h2
          omega
      · obtain rfl : k = l.length := by omega
        go_wp2
        go_ret
        refine ⟨_, rfl, Or.inl ?_, rfl⟩
        have h1 := HX.out
        rw [List.drop_eq_nil_of_le (Nat.le_refl _), szS_nil] at h1
        omega
  · have e1 := Lib.hid (show left < szS l by have := szS_len l; omega)
    clear hs
    go_in
    go_wp2
    go_ret
    exact ⟨_, rfl, Or.inr ⟨e1.out, rfl⟩, rfl⟩
theorem laws_szStringS_ok (A : Option Addr) (n c : Nat) (l : List ByteArray) (left : Int) (w : World) (hn : l.length = n) (h : Recs strE 1 w A l) (h1 : left ≤ 1048576) (h0 : 0 ≤ left) (hm : l.length ≤ 9223372036854775807) (hs : ∀ s ∈ l, s.size ≤ maxLen) (hle : szS l ≤ left) :
    Calls Tryz.prog 15 #[.slice A n c, .int .i64 left] w fun e w' => e = .returned (.int .i64 (left - szS l)) ∧ w = w' :=
  (laws_szStringS A n c l left w hn h h1 h0 hm hs).mono fun e w' ⟨r, he, hr, hw⟩ => by
    rcases hr with ⟨_, rfl⟩ | ⟨hr, _⟩
    · exact ⟨he, hw⟩
    · omega
theorem laws_szStringS_no (A : Option Addr) (n c : Nat) (l : List ByteArray) (left : Int) (w : World) (hn : l.length = n) (h : Recs strE 1 w A l) (h1 : left ≤ 1048576) (h0 : 0 ≤ left) (hm : l.length ≤ 9223372036854775807) (hs : ∀ s ∈ l, s.size ≤ maxLen) (hle : left < szS l) :
    Calls Tryz.prog 15 #[.slice A n c, .int .i64 left] w fun e w' => e = .returned (.int .i64 (-1)) ∧ w = w' :=
  (laws_szStringS A n c l left w hn h h1 h0 hm hs).mono fun e w' ⟨r, he, hr, hw⟩ => by
    rcases hr with ⟨hr, _⟩ | ⟨_, rfl⟩
    · omega
    · exact ⟨he, hw⟩
/-- The digits of k ahead of a text. -/
def dgt (n : Nat) : ByteArray := strOfNums [48 + (n : Int) % 10]
theorem dgt_size (n : Nat) : (dgt n).size = 1 := rfl
def mkD (k : Nat) (out : ByteArray) : ByteArray := if k = 0 then out else mkD (k / 10) (dgt k ++ out)
termination_by k
decreasing_by omega
theorem mkD_0 (out : ByteArray) : mkD 0 out = out := by rw [mkD, if_pos rfl]
theorem mkD_pos {k : Nat} (h : 0 < k) (out : ByteArray) : mkD k out = mkD (k / 10) (dgt k ++ out) := by rw [mkD, if_neg (by omega)]
def markT (k : Nat) : ByteArray := ⟨#[109]⟩ ++ mkD k ByteArray.empty
def markS (k0 : Int) (j : Nat) : ByteArray := markT (k0 + (j : Int)).toNat
set_option maxRecDepth 100000 in
theorem laws_markText (k : Nat) (w : World) (hk : 0 < k ∧ k ≤ 4398046511104) :
    Calls Tryz.prog 55 #[.int .i64 k] w fun e w' => e = .returned (.string (markT k)) ∧ Below w.heap.size w w' := by
  have HT : Hid (markT k = ⟨#[109]⟩ ++ mkD k ByteArray.empty) := Lib.hid rfl
  go_in
  go_wp2
  go_loopw [0, 3] (fun i v wr => ∃ (n m : Nat) (out : ByteArray), n < 10 ^ m ∧ out.size + m ≤ 20 ∧ i = .int .i64 n ∧ n ≤ 4398046511104 ∧ v = .string out ∧ Hid (mkD k ByteArray.empty = mkD n out) ∧ Below w.heap.size w wr) (fun i _ _ => (intOf i).toNat)
  case atStart => exact ⟨k, 13, ByteArray.empty, by omega, by decide, rfl, by omega, rfl, Lib.hid rfl, Below.refl _ _⟩
  case round =>
    obtain ⟨n, m, out, hn, hm, rfl, hn4, rfl, HM, hb⟩ := hrel
    by_cases hlt : 0 < n
    · have E := Lib.hid (mkD_pos hlt out)
      have hcv := run_convert_bytes_arg (P := Tryz.prog) (wr.alloc (.cells #[.int .u8 (48 + (n : Int) % 10)] 5)) 86 5 Tryz.underlying86 Tryz.underlying5 wr.heap.size 0 1 1 [48 + (n : Int) % 10] rfl (fun i hi => by
        obtain rfl : i = 0 := by omega
        exact Box.new wr [.int .u8 (48 + (n : Int) % 10)] 5 0 _ rfl) 9 Tryz.underlying9
      have hsz : (dgt n ++ out).size = out.size + 1 := by rw [ByteArray.size_append, dgt_size]; omega
      obtain ⟨m1, rfl⟩ : ∃ m1, m = m1 + 1 := by
        rcases m with _ | m
        · simp at hn; omega
        · exact ⟨m, rfl⟩
      have hn1 : n / 10 < 10 ^ m1 := by rw [Nat.pow_succ] at hn; omega
      have hds := dgt_size n
      have hdef : strOfNums [48 + (n : Int) % 10] = dgt n := rfl
      rw [hdef] at hcv
      clear hdef
      go_wp2
      go_roundw
      case rel => exact ⟨n / 10, m1, dgt n ++ out, hn1, by omega, by go_num, by omega, rfl, Lib.hid (HM.out.trans E.out), by (repeat' (first | (with_reducible exact Below.refl _ _) | (with_reducible assumption) | (with_reducible refine below_drewN ?_ _) | (with_reducible refine Below.drew ?_) | (with_reducible refine below_alloc ?_ _) | (with_reducible refine Below.alloc ?_ ?_ _) | (with_reducible refine Below.setCell ?_ ?_ _) | (with_reducible refine below_go ?_ (by with_reducible assumption)) | (with_reducible refine below_then (by with_reducible assumption) ?_ ?_) | go_size))⟩
      case measure => simp [intOf]; omega
    · obtain rfl : n = 0 := by omega
      have E := Lib.hid (show markT k = ⟨#[109]⟩ ++ out by rw [HT.out, HM.out, mkD_0])
      have h1 : (ByteArray.mk #[109]).size = 1 := rfl
      go_wp2
      go_ret
      rw [E.out]
      exact ⟨rfl, hb⟩
set_option maxRecDepth 100000 in
theorem laws_markStringS (A : Option Addr) (n c base : Nat) (l : List ByteArray) (k0 : Int) (w : World) (h : Owned strE 1 9 w base A n c l) (hbase : base ≤ w.heap.size) (hz : n ≤ 16777216) (hk0 : 1 ≤ k0 ∧ k0 ≤ 1099511627776) :
    Calls Tryz.prog 33 #[.slice A n c, .int .i64 k0] w fun e w' => e = .returned (.int .i64 (k0 + (n : Int))) ∧ Owned strE 1 9 w' base A n c ((List.range n).map (markS k0)) ∧ w.grownBy w' (Value.slice A n c).ownBlock ∧ Below base w w' := by
  go_in
  go_wp2
  go_loopw [5, 1] (fun p q wr => ∃ (i : Nat) (m : List ByteArray), i ≤ n ∧ p = .int .i64 i ∧ q = .int .i64 (k0 + (i : Int)) ∧ Hid (∀ j, j < i → m[j]? = some (markS k0 j)) ∧ Owned strE 1 9 wr base A n c m ∧ w.grownBy wr (Value.slice A n c).ownBlock) (fun p _ _ => n - (intOf p).toNat)
  case atStart => exact ⟨0, l, Nat.zero_le _, rfl, by simp, Lib.hid (fun j hj => absurd hj (by omega)), h, ⟨rfl, rfl, rfl, Nat.le_refl _, fun _ _ _ => rfl⟩⟩
  case round =>
    obtain ⟨i, m, hi, rfl, rfl, HM, ho, hg⟩ := hrel
    by_cases hlt : i < n
    · obtain ⟨y, hy⟩ := some_of_lt (l := m) (k := i) (by rw [ho.len]; exact hlt)
      obtain ⟨g, rfl, hgb, hgs, hcell, hfz⟩ := ho.at_ (by omega)
      have old0 := hcell i y 0 _ hy rfl
      have fz0 := hfz (i * 1 + 0)
      simp only [Nat.mul_one, Nat.add_zero] at old0 fz0
      have HY := Lib.hid hy
      have HO0 := Lib.hid ho
      clear hcell hfz h hy ho
      obtain ⟨kk, hkk⟩ : ∃ kk : Nat, (kk : Int) = k0 + (i : Int) := ⟨(k0 + (i : Int)).toNat, by omega⟩
      have hms : Hid (markT kk = markS k0 i) := Lib.hid (by rw [markS, ← hkk]; rfl)
      go_wp2_with fail
      rw [← hkk]
      refine (laws_markText kk _ (by omega)).mono ?_; rintro e w1 ⟨rfl, hb1⟩
      rw [hms.out]
      have HO := Lib.hid (HO0.out.up hb1)
      have old1 := (hb1.cell (p := ⟨g, i, none⟩) hgs).trans old0
      have fz1 := (hb1.frozen (p := ⟨g, i, none⟩) hgs).trans fz0
      have hg1 := grownBy_trans hg (grown_any hb1 _)
      clear old0 fz0
      go_wp2
      go_roundw
      case rel =>
        refine ⟨i + 1, m.set i (markS k0 i), by omega, by go_num, by go_num, Lib.hid (upto_mark HM.out (by rw [HO.out.len]; exact hlt)), ?_, ?_⟩
        · have p0 := HO.out.put (j := 0) (x := markS k0 i) (u := .string (markS k0 i)) HY.out (by decide) rfl
          simp only [Nat.mul_one, Nat.add_zero] at p0
          exact p0.1
        · have p0 := HO.out.put (j := 0) (x := markS k0 i) (u := .string (markS k0 i)) HY.out (by decide) rfl
          simp only [Nat.mul_one, Nat.add_zero] at p0
          exact grownBy_trans hg1 p0.2
      case measure => simp [intOf]; omega
    · go_wp2
      go_ret
      obtain rfl : i = n := by omega
      have e1 : m = (List.range i).map (markS k0) := marks_eq HM.out ho.len
      rw [e1] at ho
      exact ⟨rfl, ho, hg, (Below.refl _ _).grown hg hbase fun k hk => (h.blk hk).1⟩
set_option maxRecDepth 100000 in
theorem laws_heldStringS (A : Option Addr) (n c : Nat) (k0 : Int) (w : World) (h : Recs strE 1 w A ((List.range n).map (markS k0))) (hz : n ≤ 16777216) (hk0 : 1 ≤ k0 ∧ k0 ≤ 1099511627776) :
    Calls Tryz.prog 35 #[.slice A n c, .int .i64 k0] w fun e w' => e = .returned (.int .i64 (k0 + (n : Int))) ∧ Below w.heap.size w w' := by
  go_in
  go_wp2
  go_loopw [5, 1] (fun p q wr => ∃ i : Nat, i ≤ n ∧ p = .int .i64 i ∧ q = .int .i64 (k0 + (i : Int)) ∧ Below w.heap.size w wr) (fun p _ _ => n - (intOf p).toNat)
  case atStart => exact ⟨0, Nat.zero_le _, rfl, by simp, Below.refl _ _⟩
  case round =>
    obtain ⟨i, hi, rfl, rfl, hb⟩ := hrel
    by_cases hlt : i < n
    · have hx : ((List.range n).map (markS k0))[i]? = some (markS k0 i) := by simp [hlt]
      obtain ⟨b1, o1, x', rfl, hbb, hx', hc0⟩ := (h.below hb (Nat.le_refl _)).at_str (k := i) (by simp; exact hlt)
      rw [hx] at hx'
      injection hx' with hx'
      subst hx'
      obtain ⟨kk, hkk⟩ : ∃ kk : Nat, (kk : Int) = k0 + (i : Int) := ⟨(k0 + (i : Int)).toNat, by omega⟩
      have hms : Hid (markT kk = markS k0 i) := Lib.hid (by rw [markS, ← hkk]; rfl)
      clear hx h
      go_wp2
      have heq : ((markS k0 i).toList == (markS k0 i).toList) = true := by simp
      go_region_held3 (fun u => u.cell? ⟨b1, o1 + i, none⟩ = some (.string (markS k0 i))) (first | assumption) (first | (go_at_call 55; rw [← hkk]; refine (laws_markText kk _ (by omega)).mono ?_; rintro e w1 ⟨rfl, hbd⟩; rw [hms.out]; have hb1 := below_of_drew hbd; have hc1 := (hb1.cell (p := ⟨b1, o1 + i, none⟩) hbb).trans hc0))
      have hb2 := hb.trans (hb1.mono hb.size)
      go_wp2
      go_roundw
      case rel => exact ⟨i + 1, by omega, by go_num, by go_num, hb2⟩
      case measure => simp [intOf]; omega
    · go_wp2
      go_ret
      obtain rfl : i = n := by omega
      exact ⟨rfl, hb⟩
end Go.Proofs.YtoheahbkopbmhaaGreat
/- Changes as plain functions: the digits of a text, the chain of places, the swaps. -/
namespace Go.Proofs.YtoheahbkopbmhaaGreat
set_option linter.unusedVariables false
set_option linter.unusedSimpArgs false
open Go.ChangeShapes Go.WideShapes Go.ChangeAt Go.RowKit Go.Deep

def dg (s : ByteArray) (k : Nat) : Int := PlainAid.bt s k - 48
def digs (s : ByteArray) : List Int := (List.range s.size).map (dg s)
theorem digs_len (s : ByteArray) : (digs s).length = s.size := by simp [digs]
theorem digs_at {s : ByteArray} {k : Nat} (h : k < s.size) : (digs s)[k]? = some (dg s k) := by simp [digs, h]
theorem digs_drop {s : ByteArray} {k : Nat} (h : k < s.size) : (digs s).drop k = dg s k :: (digs s).drop (k + 1) := by
  rw [List.drop_eq_getElem_cons (by rw [digs_len]; exact h)]
  have := digs_at h
  rw [List.getElem?_eq_getElem (by rw [digs_len]; exact h)] at this
  injection this with e
  rw [e]

theorem wrap_bt (s : ByteArray) (k : Nat) : wrap64 (PlainAid.bt s k) = PlainAid.bt s k := by
  have := PlainAid.bt_nonneg s k
  have := PlainAid.bt_le s k
  unfold wrap64; omega
theorem wrap_dg (s : ByteArray) (k : Nat) : wrap64 (PlainAid.bt s k - 48) = dg s k := by
  have := PlainAid.bt_nonneg s k
  have := PlainAid.bt_le s k
  unfold wrap64 dg; omega
theorem dg_in (s : ByteArray) (k : Nat) : -48 ≤ dg s k ∧ dg s k ≤ 207 := by
  have := PlainAid.bt_nonneg s k
  have := PlainAid.bt_le s k
  simp only [dg]
  omega
def stepOk (n last p : Int) : Bool := inB p (last + 1) n && !((p - last) % 2 == 0)
def chain (n : Int) : Int → List Int → Bool
  | last, [] => (n - last) % 2 == 0
  | last, p :: r => stepOk n last p && chain n p r

def isDash (c : ByteArray) : Bool := c.toList == [45]
theorem some_bytes {c : ByteArray} (h : 0 < c.size) : c.toList.isEmpty = false ∧ ¬ c.toList = [] := by
  have : ¬ c.toList = [] := fun e => by
    rw [ByteArray.toList_eq] at e
    have h1 := congrArg List.length e
    have h2 : c.data.toList.length = c.size := Array.length_toList
    rw [List.length_nil] at h1
    omega
  exact ⟨by simpa [List.isEmpty_eq_false_iff] using this, this⟩
theorem no_bytes {c : ByteArray} (h : ¬ 0 < c.size) : c.toList.isEmpty = true ∧ c.toList = [] := by
  have : c.toList = [] := by
    rw [ByteArray.toList_eq]
    apply List.eq_nil_of_length_eq_zero
    have h2 : c.data.toList.length = c.size := Array.length_toList
    omega
  exact ⟨by rw [this]; rfl, this⟩
def evenN (n : Int) : Bool := n % 2 == 0
def sizeOk (n : Int) (c : ByteArray) : Bool := decide (0 < c.size) && decide ((c.size : Int) ≤ n - 2)
def goodChange (n : Int) (c : ByteArray) : Bool :=
  inB n 3 8 && sizeOk n c && (if isDash c = true then evenN n else chain n 0 (digs c))
theorem goodChange_stage {n : Int} {c : ByteArray} (h : inB n 3 8 = false) : goodChange n c = false := by simp [goodChange, h]
theorem goodChange_size {n : Int} {c : ByteArray} (h : sizeOk n c = false) : goodChange n c = false := by simp [goodChange, h]
theorem goodChange_dash {n : Int} {c : ByteArray} (h : inB n 3 8 = true) (h1 : sizeOk n c = true) (h2 : isDash c = true) : goodChange n c = evenN n := by rw [goodChange, h, h1, if_pos h2]; rfl
theorem goodChange_chain {n : Int} {c : ByteArray} (h : inB n 3 8 = true) (h1 : sizeOk n c = true) (h2 : isDash c = false) : goodChange n c = chain n 0 (digs c) := by rw [goodChange, h, h1, if_neg (by rw [h2]; simp)]; rfl
theorem sizeOk_t {n : Int} {c : ByteArray} (h : sizeOk n c = true) : 0 < c.size ∧ (c.size : Int) ≤ n - 2 := by simpa [sizeOk] using h
theorem sizeOk_f {n : Int} {c : ByteArray} (h : sizeOk n c = false) : 0 < c.size → n - 2 < (c.size : Int) := by
  intro h0
  simp only [sizeOk, h0, decide_true, Bool.true_and, decide_eq_false_iff_not] at h
  omega

/-! swaps -/
def sws (st : Int → Bool) (n : Nat) (p : Nat) : List Int :=
  if p < n then (if st p then sws st n (p + 1) else (p : Int) :: sws st n (p + 2)) else []
termination_by n - p
theorem sws_end {st : Int → Bool} {n p : Nat} (h : ¬ p < n) : sws st n p = [] := by rw [sws, if_neg h]
theorem sws_stay {st : Int → Bool} {n p : Nat} (h : p < n) (hs : st p = true) : sws st n p = sws st n (p + 1) := by rw [sws, if_pos h, if_pos hs]
theorem sws_swap {st : Int → Bool} {n p : Nat} (h : p < n) (hs : st p = false) : sws st n p = (p : Int) :: sws st n (p + 2) := by rw [sws, if_pos h, if_neg (by rw [hs]; simp)]
def stays (c : ByteArray) (p : Int) : Bool := (digs c).contains p
def swaps (n : Nat) (c : ByteArray) : List Int := sws (stays c) n 1
theorem sws_len (st : Int → Bool) (n : Nat) : ∀ p, (sws st n p).length ≤ n - p := by
  intro p
  induction p using sws.induct st n with
  | case1 p h hs ih => rw [sws_stay h hs]; omega
  | case2 p h hs ih => rw [sws_swap h (by simpa using hs), List.length_cons]; omega
  | case3 p h => rw [sws_end h]; simp
def evenSwaps (n : Nat) (c : ByteArray) : Bool := decide ((swaps n c).length % 2 = 0)

/-! the program's own way to a good change -/
def adj : Int → List Int → Bool
  | _, [] => true
  | p, q :: r => decide (p < q) && !((q - p) % 2 == 0) && adj q r
def lastOf : Int → List Int → Int
  | p, [] => p
  | _, q :: r => lastOf q r
theorem lastOf_get : ∀ (p : Int) (r : List Int), (p :: r)[r.length]? = some (lastOf p r)
  | p, [] => rfl
  | p, q :: r => by
    rw [List.length_cons, List.getElem?_cons_succ]
    exact lastOf_get q r
theorem adj_le : ∀ (p : Int) (r : List Int), adj p r = true → p ≤ lastOf p r
  | p, [], _ => by simp [lastOf]
  | p, q :: r, h => by
    simp only [adj, Bool.and_eq_true, decide_eq_true_eq] at h
    have := adj_le q r h.2
    simp only [lastOf]
    omega
theorem chain_adj (n : Int) : ∀ (r : List Int) (x p : Int), chain n x (p :: r) = true ↔ (x < p ∧ ¬ (p - x) % 2 = 0) ∧ adj p r = true ∧ lastOf p r ≤ n ∧ (n - lastOf p r) % 2 = 0
  | [], x, p => by
    simp only [chain, stepOk, inB, adj, lastOf, Bool.and_eq_true, decide_eq_true_eq, Bool.not_eq_true', beq_eq_false_iff_ne, beq_iff_eq, ne_eq]
    constructor
    · rintro ⟨⟨⟨h1, h2⟩, h3⟩, h4⟩
      exact ⟨⟨by omega, h3⟩, trivial, h2, h4⟩
    · rintro ⟨⟨h1, h3⟩, -, h2, h4⟩
      exact ⟨⟨⟨by omega, h2⟩, h3⟩, h4⟩
  | q :: r, x, p => by
    have ih := chain_adj n r p q
    rw [chain, Bool.and_eq_true, ih]
    simp only [stepOk, inB, adj, lastOf, Bool.and_eq_true, decide_eq_true_eq, Bool.not_eq_true', beq_eq_false_iff_ne, beq_iff_eq, ne_eq]
    constructor
    · rintro ⟨⟨h1, h2⟩, ⟨h3, h4⟩, h5, h6, h7⟩
      exact ⟨⟨by omega, h2⟩, ⟨⟨h3, h4⟩, h5⟩, h6, h7⟩
    · rintro ⟨⟨h1, h2⟩, ⟨⟨h3, h4⟩, h5⟩, h6, h7⟩
      have := adj_le q r h5
      exact ⟨⟨⟨by omega, by omega⟩, h2⟩, ⟨h3, h4⟩, h5, h6, h7⟩
theorem chain_len (n : Int) : ∀ (l : List Int) (x : Int), x ≤ n → chain n x l = true → (l.length : Int) ≤ n - x ∧ (n - x - l.length) % 2 = 0
  | [], x, hx, h => by
    simp only [chain, beq_iff_eq] at h
    simp only [List.length_nil]
    omega
  | p :: r, x, hx, h => by
    simp only [chain, stepOk, inB, Bool.and_eq_true, decide_eq_true_eq, Bool.not_eq_true', beq_eq_false_iff_ne, ne_eq] at h
    have := chain_len n r p (by omega) h.2
    simp only [List.length_cons]
    omega
theorem chain_in (n : Int) : ∀ (l : List Int) (x : Int), 0 ≤ x → n ≤ 8 → chain n x l = true → (l.all fun p => inB p 1 8) = true
  | [], x, hx, hn, h => rfl
  | p :: r, x, hx, hn, h => by
    simp only [chain, stepOk, Bool.and_eq_true] at h
    have h1 := inB_t h.1.1
    rw [List.all_cons, chain_in n r p (by omega) hn h.2]
    simp [inB]
    omega
def validD (c : ByteArray) : Bool := (digs c).all fun p => inB p 1 8
def arePl (n : Int) (l : List Int) : Bool :=
  decide (0 < l.length) && !((l.length : Int) == n) && !(l.getD 0 0 % 2 == 0) && (l.getD (l.length - 1) 0 % 2 == n % 2) && decide (l.getD (l.length - 1) 0 ≤ n) && adj (l.getD 0 0) (l.drop 1)
theorem good_impl {n : Int} {c : ByteArray} (hn : 3 ≤ n ∧ n ≤ 8) (hd : isDash c = false) : goodChange n c = (validD c && arePl n (digs c)) := by
  have hs : inB n 3 8 = true := by simp [inB]; omega
  have key : (sizeOk n c && chain n 0 (digs c)) = (validD c && arePl n (digs c)) := by
    have hl := digs_len c
    rcases hg : digs c with _ | ⟨p, r⟩
    · rw [hg] at hl
      simp only [List.length_nil] at hl
      simp [sizeOk, ← hl, arePl]
    · have hl' : r.length + 1 = c.size := by rw [← hl, hg]; rfl
      have hlast : (p :: r).getD ((p :: r).length - 1) 0 = lastOf p r := by
        rw [List.length_cons, Nat.add_sub_cancel, List.getD, lastOf_get]; rfl
      rw [Bool.eq_iff_iff]
      constructor
      · intro h
        rw [Bool.and_eq_true] at h
        have h1 := sizeOk_t h.1
        have h2 := (chain_adj n r 0 p).1 h.2
        have h3 := chain_in n _ 0 (by omega) hn.2 h.2
        have hv : validD c = true := by rw [validD, hg]; exact h3
        rw [hv, Bool.true_and, arePl, hlast]
        simp only [List.length_cons, Bool.and_eq_true, decide_eq_true_eq, Bool.not_eq_true', beq_eq_false_iff_ne, ne_eq, beq_iff_eq, List.getD_cons_zero, List.drop_succ_cons, List.drop_zero]
        refine ⟨⟨⟨⟨⟨by omega, by omega⟩, by omega⟩, by omega⟩, h2.2.2.1⟩, h2.2.1⟩
      · intro h
        rw [Bool.and_eq_true, arePl, hlast] at h
        simp only [List.length_cons, Bool.and_eq_true, decide_eq_true_eq, Bool.not_eq_true', beq_eq_false_iff_ne, ne_eq, beq_iff_eq, List.getD_cons_zero, List.drop_succ_cons, List.drop_zero] at h
        obtain ⟨hv, ⟨⟨⟨⟨h1, h2⟩, h3⟩, h4⟩, h5⟩, h6⟩ := h
        have hp : 1 ≤ p := by
          rw [validD, hg, List.all_cons, Bool.and_eq_true] at hv
          exact (inB_t hv.1).1
        have hc : chain n 0 (p :: r) = true := (chain_adj n r 0 p).2 ⟨⟨by omega, by omega⟩, h6, h5, by omega⟩
        have h7 := chain_len n _ 0 (by omega) hc
        rw [List.length_cons] at h7
        rw [hc, Bool.and_true]
        simp only [sizeOk, Bool.and_eq_true, decide_eq_true_eq]
        omega
  rw [goodChange, hs, if_neg (by rw [hd]; simp), Bool.true_and, key]
theorem dash_size {n : Int} {c : ByteArray} (hn : 3 ≤ n) (hd : isDash c = true) : sizeOk n c = true := by
  have h1 : c.toList = [45] := by simpa [isDash] using hd
  rw [ByteArray.toList_eq] at h1
  have h2 : c.data.toList.length = c.size := Array.length_toList
  rw [h1] at h2
  simp only [List.length_cons, List.length_nil] at h2
  simp only [sizeOk, ← h2, Bool.and_eq_true, decide_eq_true_eq]
  omega
/-- What the program holds as the places of a change. -/
def plsOf (c : ByteArray) : List Int := if isDash c = true then [] else digs c
theorem plsOf_dash {c : ByteArray} (h : isDash c = true) : plsOf c = [] := by rw [plsOf, if_pos h]
theorem plsOf_digs {c : ByteArray} (h : isDash c = false) : plsOf c = digs c := by rw [plsOf, if_neg (by rw [h]; simp)]
theorem dash_digs {c : ByteArray} (h : isDash c = true) : digs c = [-3] := by
  have h1 : c.toList = [45] := by simpa [isDash] using h
  have hc : c = ⟨#[45]⟩ := by
    rw [ByteArray.toList_eq] at h1
    cases c with
    | mk d =>
      have : d = #[45] := by
        apply Array.ext'
        exact h1
      rw [this]
  subst hc
  rfl
theorem pls_has {c : ByteArray} {p : Int} (hp : 1 ≤ p) : (plsOf c).contains p = stays c p := by
  rcases h : isDash c
  · rw [plsOf_digs h]; rfl
  · rw [plsOf_dash h, stays, dash_digs h]
    simp
    omega
def plR (c : ByteArray) : List Int := if validD c = true then digs c else []
theorem plR_t {c : ByteArray} (h : validD c = true) : plR c = digs c := by rw [plR, if_pos h]
theorem plR_f {c : ByteArray} (h : validD c = false) : plR c = [] := by rw [plR, if_neg (by rw [h]; simp)]
theorem valid_bad {c : ByteArray} {k : Nat} (hk : k < c.size) (h : inB (dg c k) 1 8 = false) : validD c = false := by
  rcases hv : validD c
  · rfl
  · rw [validD, List.all_eq_true] at hv
    have := hv _ (List.mem_of_getElem? (digs_at hk))
    rw [h] at this
    cases this
theorem valid_good {c : ByteArray} (h : ∀ k, k < c.size → inB (dg c k) 1 8 = true) : validD c = true := by
  rw [validD, List.all_eq_true]
  intro x hx
  simp only [digs, List.mem_map, List.mem_range] at hx
  obtain ⟨k, hk, rfl⟩ := hx
  exact h k hk
theorem valid_at {c : ByteArray} (h : validD c = true) : ∀ x ∈ digs c, 1 ≤ x ∧ x ≤ 8 := by
  intro x hx
  rw [validD, List.all_eq_true] at h
  exact inB_t (h x hx)
theorem dg_low {c : ByteArray} {k : Nat} (h : PlainAid.bt c k < 49) : inB (dg c k) 1 8 = false := by
  rw [inB, decide_eq_false_iff_not, dg]
  omega
theorem dg_high {c : ByteArray} {k : Nat} (h : 56 < PlainAid.bt c k) : inB (dg c k) 1 8 = false := by
  rw [inB, decide_eq_false_iff_not, dg]
  omega
theorem dg_mid {c : ByteArray} {k : Nat} (h : ¬ PlainAid.bt c k < 49) (h' : ¬ 56 < PlainAid.bt c k) : inB (dg c k) 1 8 = true := by
  rw [inB, decide_eq_true_iff, dg]
  omega
theorem digs_take {c : ByteArray} {k : Nat} (hk : k < c.size) : (digs c).take (k + 1) = (digs c).take k ++ [dg c k] := by
  rw [List.take_add_one, digs_at hk]; rfl
theorem goodChange_n {n : Int} {c : ByteArray} (h : goodChange n c = true) : 3 ≤ n ∧ n ≤ 8 := by
  rcases hs : inB n 3 8
  · rw [goodChange_stage hs] at h; cases h
  · exact inB_t hs
theorem good_valid {n : Int} {c : ByteArray} (h : goodChange n c = true) : isDash c = true ∨ validD c = true := by
  rcases hd : isDash c
  · right
    rcases hs : inB n 3 8
    · rw [goodChange_stage hs] at h; cases h
    · rw [good_impl (inB_t hs) hd, Bool.and_eq_true] at h
      exact h.1
  · left; rfl
end Go.Proofs.YtoheahbkopbmhaaGreat
/- Lists of changes as plain functions: increasing, good together, how many are odd. -/
namespace Go.Proofs.YtoheahbkopbmhaaGreat
set_option linter.unusedVariables false
set_option linter.unusedSimpArgs false
open Go.ChangeShapes Go.WideShapes Go.ChangeAt Go.RowKit Go.Deep
theorem all_no {f : Nat → Bool} {n k : Nat} (hk : k < n) (h : f k = false) : (List.range n).all f = false := by
  have := all_bad hk h true
  simpa using this
theorem all_yes {f : Nat → Bool} {n : Nat} (h : ∀ j, j < n → f j = true) : (List.range n).all f = true := by
  rw [List.all_eq_true]
  exact fun j hj => h j (List.mem_range.1 hj)
def less (a b : ByteArray) : Bool := Op.bytesLess a.toList b.toList
theorem u8_tri (a b : UInt8) : (decide (a < b) = true ∧ (a == b) = false ∧ decide (b < a) = false) ∨ (decide (a < b) = false ∧ (a == b) = true ∧ decide (b < a) = false) ∨ (decide (a < b) = false ∧ (a == b) = false ∧ decide (b < a) = true) := by
  rcases Nat.lt_trichotomy a.toNat b.toNat with h | h | h
  · left
    refine ⟨decide_eq_true (UInt8.lt_iff_toNat_lt.2 h), ?_, decide_eq_false fun h' => by have := UInt8.lt_iff_toNat_lt.1 h'; omega⟩
    exact beq_eq_false_iff_ne.2 fun e => by subst e; omega
  · right; left
    have e : a = b := UInt8.toNat_inj.1 h
    subst e
    refine ⟨decide_eq_false fun h' => by have := UInt8.lt_iff_toNat_lt.1 h'; omega, by simp, decide_eq_false fun h' => by have := UInt8.lt_iff_toNat_lt.1 h'; omega⟩
  · right; right
    refine ⟨decide_eq_false fun h' => by have := UInt8.lt_iff_toNat_lt.1 h'; omega, ?_, decide_eq_true (UInt8.lt_iff_toNat_lt.2 h)⟩
    exact beq_eq_false_iff_ne.2 fun e => by subst e; omega
theorem bytes_tri : ∀ (a b : List UInt8), (Op.bytesLess a b = true ∧ (a == b) = false ∧ Op.bytesLess b a = false) ∨ (Op.bytesLess a b = false ∧ (a == b) = true ∧ Op.bytesLess b a = false) ∨ (Op.bytesLess a b = false ∧ (a == b) = false ∧ Op.bytesLess b a = true)
  | [], [] => by simp [Op.bytesLess]
  | [], b :: y => by simp [Op.bytesLess]
  | a :: x, [] => by simp [Op.bytesLess]
  | a :: x, b :: y => by
    have hc : (b == a) = (a == b) := Bool.beq_comm ..
    simp only [Op.bytesLess, List.cons_beq_cons, hc]
    rcases u8_tri a b with ⟨h1, h2, h3⟩ | ⟨h1, h2, h3⟩ | ⟨h1, h2, h3⟩
    · rw [h1, h2, h3]; simp
    · rw [h1, h2, h3]
      simpa using bytes_tri x y
    · rw [h1, h2, h3]; simp
theorem less_yes {a b : ByteArray} (h : less a b = true) : Op.bytesLess a.toList b.toList = true ∧ Op.bytesLess b.toList a.toList = false ∧ (b.toList == a.toList) = false := by
  rcases bytes_tri a.toList b.toList with ⟨h1, h2, h3⟩ | ⟨h1, h2, h3⟩ | ⟨h1, h2, h3⟩
  · exact ⟨h1, h3, by rw [← h2]; exact Bool.beq_comm ..⟩
  · rw [less, h1] at h; cases h
  · rw [less, h1] at h; cases h
theorem less_no {a b : ByteArray} (h : less a b = false) : Op.bytesLess a.toList b.toList = false ∧ (Op.bytesLess b.toList a.toList = true ∨ (Op.bytesLess b.toList a.toList = false ∧ (b.toList == a.toList) = true)) := by
  rcases bytes_tri a.toList b.toList with ⟨h1, h2, h3⟩ | ⟨h1, h2, h3⟩ | ⟨h1, h2, h3⟩
  · rw [less, h1] at h; cases h
  · exact ⟨h1, Or.inr ⟨h3, by rw [← h2]; exact Bool.beq_comm ..⟩⟩
  · exact ⟨h1, Or.inl h3⟩
def okInc (l : List ByteArray) (k : Nat) : Bool := decide (k = 0) || less (l.getD (k - 1) ByteArray.empty) (l.getD k ByteArray.empty)
theorem okInc_0 (l : List ByteArray) : okInc l 0 = true := rfl
theorem okInc_z {l : List ByteArray} {k : Nat} (h : ¬ 0 < k) : okInc l k = true := by
  have : k = 0 := by omega
  subst this; rfl
theorem okInc_pos {l : List ByteArray} {k : Nat} {x y : ByteArray} (hk : 0 < k) (hx : l[k - 1]? = some x) (hy : l[k]? = some y) : okInc l k = less x y := by
  simp [okInc, List.getD, hx, hy, show k ≠ 0 by omega]
def incB (l : List ByteArray) : Bool := (List.range l.length).all (okInc l)
def okCh (n : Int) (l : List ByteArray) (k : Nat) : Bool := goodChange n (l.getD k ByteArray.empty)
theorem okCh_at {n : Int} {l : List ByteArray} {k : Nat} {y : ByteArray} (hy : l[k]? = some y) : okCh n l k = goodChange n y := by simp [okCh, List.getD, hy]
def allCh (n : Int) (l : List ByteArray) : Bool := (List.range l.length).all (okCh n l)
def okWith (n : Int) (l : List ByteArray) (k : Nat) : Bool := okCh n l k && okInc l k
def goodWith (n : Int) (l : List ByteArray) : Bool := (List.range l.length).all (okWith n l) && inB l.length 1 30
theorem goodWith_parts (n : Int) (l : List ByteArray) : goodWith n l = (inB l.length 1 30 && incB l && allCh n l) := by
  have h : (List.range l.length).all (okWith n l) = (allCh n l && incB l) := by
    rw [Bool.eq_iff_iff, Bool.and_eq_true, allCh, incB, List.all_eq_true, List.all_eq_true, List.all_eq_true]
    constructor
    · intro h
      exact ⟨fun k hk => by have := h k hk; rw [okWith, Bool.and_eq_true] at this; exact this.1, fun k hk => by have := h k hk; rw [okWith, Bool.and_eq_true] at this; exact this.2⟩
    · rintro ⟨h1, h2⟩ k hk
      rw [okWith, h1 k hk, h2 k hk]; rfl
  rw [goodWith, h]
  rcases inB l.length 1 30 <;> rcases incB l <;> rcases allCh n l <;> rfl
theorem goodWith_stage {n : Int} {l : List ByteArray} (h : inB n 3 8 = false) : goodWith n l = false := by
  rcases l with _ | ⟨c, l⟩
  · rfl
  · rw [goodWith, all_bad (k := 0) (by simp) (by simp [okWith, okCh, List.getD, goodChange_stage h])]
theorem goodWith_stage_t {n : Int} {l : List ByteArray} (h : goodWith n l = true) : inB n 3 8 = true ∧ inB l.length 1 30 = true ∧ allCh n l = true := by
  rcases hs : inB n 3 8
  · rw [goodWith_stage hs] at h; cases h
  · rw [goodWith_parts, Bool.and_eq_true, Bool.and_eq_true] at h
    exact ⟨rfl, h.1.1, h.2⟩
theorem allCh_mem {n : Int} {l : List ByteArray} (h : allCh n l = true) : ∀ c ∈ l, goodChange n c = true := by
  intro c hc
  obtain ⟨k, hk⟩ := List.getElem?_of_mem hc
  rw [allCh, List.all_eq_true] at h
  have := h k (List.mem_range.2 (List.getElem?_eq_some_iff.1 hk).1)
  rwa [okCh_at hk] at this
def isOdd (m : Nat) (c : ByteArray) : Bool := !evenSwaps m c
def odds (m : Nat) (l : List ByteArray) (k : Nat) : Nat := ((l.take k).filter (isOdd m)).length
theorem odds_0 (m : Nat) (l : List ByteArray) : odds m l 0 = 0 := rfl
theorem odds_le (m : Nat) (l : List ByteArray) (k : Nat) : odds m l k ≤ k := Nat.le_trans (List.length_filter_le _ _) (by rw [List.length_take]; omega)
theorem odds_odd {m : Nat} {l : List ByteArray} {k : Nat} {c : ByteArray} (hc : l[k]? = some c) (h : isOdd m c = true) : odds m l (k + 1) = odds m l k + 1 := by
  simp [odds, List.take_add_one, hc, List.filter_append, h]
theorem odds_even {m : Nat} {l : List ByteArray} {k : Nat} {c : ByteArray} (hc : l[k]? = some c) (h : isOdd m c = false) : odds m l (k + 1) = odds m l k := by
  simp [odds, List.take_add_one, hc, List.filter_append, h]
def oddsR (n : Int) (l : List ByteArray) : Int := if goodWith n l = true then odds n.toNat l l.length else 0
theorem oddsR_f {n : Int} {l : List ByteArray} (h : goodWith n l = false) : oddsR n l = 0 := by rw [oddsR, if_neg (by rw [h]; simp)]
theorem oddsR_t {m : Nat} {l : List ByteArray} (h : goodWith m l = true) : oddsR m l = odds m l l.length := by rw [oddsR, if_pos h]; rfl
end Go.Proofs.YtoheahbkopbmhaaGreat
/- Sorting texts: a strict order, sorted lists, repeats among neighbours. -/
namespace Go.Proofs.YtoheahbkopbmhaaGreat
set_option linter.unusedVariables false
set_option linter.unusedSimpArgs false
open Go.ChangeShapes Go.WideShapes Go.ChangeAt Go.RowKit Go.Deep
theorem bytes_trans : ∀ (a b c : List UInt8), Op.bytesLess a b = true → Op.bytesLess b c = true → Op.bytesLess a c = true
  | _, _, [], _, h => by cases ‹List UInt8› <;> simp [Op.bytesLess] at h
  | [], _, c :: z, _, _ => by simp [Op.bytesLess]
  | a :: x, [], c :: z, h, _ => by simp [Op.bytesLess] at h
  | a :: x, b :: y, c :: z, h1, h2 => by
    simp only [Op.bytesLess, Bool.or_eq_true, Bool.and_eq_true, decide_eq_true_eq, beq_iff_eq] at h1 h2 ⊢
    rcases h1 with h1 | ⟨rfl, h1⟩
    · rcases h2 with h2 | ⟨rfl, h2⟩
      · left
        have q1 := UInt8.lt_iff_toNat_lt.1 h1; have q2 := UInt8.lt_iff_toNat_lt.1 h2
        exact UInt8.lt_iff_toNat_lt.2 (by omega)
      · exact .inl h1
    · rcases h2 with h2 | ⟨rfl, h2⟩
      · exact .inl h2
      · exact .inr ⟨rfl, bytes_trans x y z h1 h2⟩
theorem less_trans {a b c : ByteArray} (h1 : less a b = true) (h2 : less b c = true) : less a c = true := bytes_trans _ _ _ h1 h2
theorem toList_inj {a b : ByteArray} (h : a.toList = b.toList) : a = b := by
  rw [ByteArray.toList_eq, ByteArray.toList_eq] at h
  cases a; cases b
  congr 1
  exact Array.ext' h
theorem less_tri (a b : ByteArray) : less a b = true ∨ a = b ∨ less b a = true := by
  rcases bytes_tri a.toList b.toList with ⟨h, _⟩ | ⟨_, h, _⟩ | ⟨_, _, h⟩
  · exact .inl h
  · exact .inr (.inl (toList_inj (by simpa using h)))
  · exact .inr (.inr h)
theorem less_irr (a : ByteArray) : less a a = false := by
  rcases h : less a a
  · rfl
  · have h' := h
    have := (less_yes h).1
    rcases bytes_tri a.toList a.toList with ⟨h1, h2, h3⟩ | ⟨h1, h2, h3⟩ | ⟨h1, h2, h3⟩
    · rw [h1] at h3; cases h3
    · rw [this] at h1; cases h1
    · rw [h3] at h1; cases h1
/-- Not behind. -/
def leS (a b : ByteArray) : Bool := !less b a
theorem leS_refl (a : ByteArray) : leS a a = true := by rw [leS, less_irr]; rfl
theorem leS_trans (a b c : ByteArray) (h1 : leS a b = true) (h2 : leS b c = true) : leS a c = true := by
  simp only [leS, Bool.not_eq_true'] at h1 h2 ⊢
  rcases h : less c a
  · rfl
  · rcases less_tri b c with q | q | q
    · have := less_trans q h; rw [h1] at this; cases this
    · subst q; rw [h] at h1; cases h1
    · rw [q] at h2; cases h2
theorem leS_total (a b : ByteArray) : (leS a b || leS b a) = true := by
  simp only [leS]
  rcases h : less b a
  · rfl
  · rcases h2 : less a b
    · rfl
    · have := less_trans h h2; rw [less_irr] at this; cases this
theorem leS_anti {a b : ByteArray} (h1 : leS a b = true) (h2 : leS b a = true) : a = b := by
  simp only [leS, Bool.not_eq_true'] at h1 h2
  rcases less_tri a b with q | q | q
  · rw [q] at h2; cases h2
  · exact q
  · rw [q] at h1; cases h1
def Srt (l : List ByteArray) : Prop := l.Pairwise fun a b => leS a b = true
theorem merge_srt {a b : List ByteArray} (ha : Srt a) (hb : Srt b) : Srt (List.merge a b leS) := List.pairwise_merge leS_trans leS_total a b ha hb
theorem merge_perm (a b : List ByteArray) : (List.merge a b leS).Perm (a ++ b) := List.merge_perm_append leS
theorem srt_unique : ∀ {a b : List ByteArray}, Srt a → Srt b → a.Perm b → a = b
  | [], b, _, _, h => h.nil_eq
  | x :: a, [], _, _, h => by have := h.length_eq; simp at this
  | x :: a, y :: b, ha, hb, h => by
    have hx := List.pairwise_cons.1 ha
    have hy := List.pairwise_cons.1 hb
    have e : x = y := by
      rcases List.mem_cons.1 (h.subset (List.mem_cons_self ..)) with q | q
      · exact q
      · rcases List.mem_cons.1 (h.symm.subset (List.mem_cons_self ..)) with r | r
        · exact r.symm
        · exact leS_anti (hx.1 y r) (hy.1 x q)
    subst e
    rw [srt_unique hx.2 hy.2 h.cons_inv]
def nextEq (l : List ByteArray) (k : Nat) : Bool := decide (l.getD k ByteArray.empty = l.getD (k - 1) ByteArray.empty)
theorem nextEq_at {l : List ByteArray} {k : Nat} {x y : ByteArray} (hx : l[k - 1]? = some x) (hy : l[k]? = some y) : nextEq l k = decide (y = x) := by simp [nextEq, List.getD, hx, hy]
/-- No text twice. -/
def nodupB (l : List ByteArray) : Bool := decide l.Nodup
theorem srt_nodup {l : List ByteArray} (h : Srt l) : l.Nodup ↔ ∀ k, 1 ≤ k → k < l.length → nextEq l k = false := by
  constructor
  · intro hn k h1 h2
    rw [nextEq, decide_eq_false_iff_not]
    rw [List.nodup_iff_pairwise_ne, List.pairwise_iff_getElem] at hn
    have := hn (k - 1) k (by omega) h2 (by omega)
    rw [List.getD, List.getD, List.getElem?_eq_getElem h2, List.getElem?_eq_getElem (by omega)]
    exact fun e => this (by simpa using e.symm)
  · intro hk
    have key : ∀ d i j, j = i + d + 1 → (hj : j < l.length) → (hi : i < l.length) → less l[i] l[j] = true := by
      intro d
      induction d with
      | zero =>
        intro i j e hj hi
        subst e
        have h1 := hk (i + 1) (by omega) hj
        rw [nextEq, decide_eq_false_iff_not, List.getD, List.getD, Nat.add_sub_cancel, List.getElem?_eq_getElem hj, List.getElem?_eq_getElem hi] at h1
        have h2 := (List.pairwise_iff_getElem.1 h) i (i + 1) hi hj (by omega)
        rcases less_tri l[i] l[i + 1] with q | q | q
        · exact q
        · exact absurd (by simpa using q.symm) h1
        · simp [leS, q] at h2
      | succ d ih =>
        intro i j e hj hi
        exact less_trans (ih i (i + d + 1) rfl (by omega) hi) (by
          subst e
          have h1 := hk (i + (d + 1) + 1) (by omega) hj
          rw [nextEq, decide_eq_false_iff_not, List.getD, List.getD, Nat.add_sub_cancel, List.getElem?_eq_getElem hj, List.getElem?_eq_getElem (by omega)] at h1
          have h2 := (List.pairwise_iff_getElem.1 h) (i + (d + 1)) (i + (d + 1) + 1) (by omega) hj (by omega)
          rcases less_tri (l[i + (d + 1)]'(by omega)) l[i + (d + 1) + 1] with q | q | q
          · exact q
          · exact absurd (by simpa using q.symm) h1
          · simp [leS, q] at h2)
    rw [List.nodup_iff_pairwise_ne, List.pairwise_iff_getElem]
    intro i j hi hj hij e
    have := key (j - i - 1) i j (by omega) hj hi
    rw [e, less_irr] at this
    cases this
end Go.Proofs.YtoheahbkopbmhaaGreat
/- The laws' own conversions of methods and calls: copying, comparing, counting, marking. -/
namespace Go.Proofs.YtoheahbkopbmhaaGreat
set_option linter.unusedVariables false
set_option linter.unusedSimpArgs false
open Go.ChangeShapes Go.WideShapes Go.ChangeAt Go.RowKit Go.Deep
set_option maxHeartbeats 1000000 in
theorem laws_toMethod {A : Option Addr} {n c : Nat} {nm : ByteArray} {st : Int} {l : List ByteArray} {w : World} (hn : l.length = n) (h : Strs w A l) (hz : n ≤ 1048576) :
    Calls Tryz.prog 7 #[.agg #[.string nm, .int .i64 st, .slice A n c]] w fun e w' => ∃ g, e = .returned (.agg #[.string nm, .int .i64 st, .slice (some ⟨g, 0, none⟩) n n]) ∧ Owned strE 1 9 w' w.heap.size (some ⟨g, 0, none⟩) n n l ∧ Below w.heap.size w w' := by
  have b0 : Below w.heap.size w (((w.alloc (.cells ⟨[.string nm, .int .i64 st, .slice A n c]⟩ 24)).alloc (.cells ⟨[.string { data := #[] }, .int .i64 0, .slice none 0 0]⟩ 34)).alloc (.cells ⟨[.string nm, .int .i64 st, .slice none 0 0]⟩ 34)) := by (repeat' (first | (with_reducible exact Below.refl _ _) | (with_reducible assumption) | (with_reducible refine below_drewN ?_ _) | (with_reducible refine Below.drew ?_) | (with_reducible refine below_alloc ?_ _) | (with_reducible refine Below.alloc ?_ ?_ _) | (with_reducible refine Below.setCell ?_ ?_ _) | (with_reducible refine below_go ?_ (by with_reducible assumption)) | (with_reducible refine below_then (by with_reducible assumption) ?_ ?_) | go_size))
  have K1 := (Blk.at_ (w.alloc (.cells ⟨[.string nm, .int .i64 st, .slice A n c]⟩ 24)) 34 [.string { data := #[] }, .int .i64 0, .slice none 0 0] (b := w.heap.size + 1) (by simp)).alloc (.cells ⟨[.string nm, .int .i64 st, .slice none 0 0]⟩ 34)
  have K2 := Blk.at_ ((w.alloc (.cells ⟨[.string nm, .int .i64 st, .slice A n c]⟩ 24)).alloc (.cells ⟨[.string { data := #[] }, .int .i64 0, .slice none 0 0]⟩ 34)) 34 [.string nm, .int .i64 st, .slice none 0 0] (b := w.heap.size + 1 + 1) (by simp)
  go_in
  go_wp2_with fail
  obtain ⟨w0, hw0⟩ : ∃ u, u = (((w.alloc (.cells #[.string nm, .int .i64 st, .slice A n c] 24)).alloc (.cells #[.string { data := #[] }, .int .i64 0, .slice none 0 0] 34)).alloc (.cells #[.string nm, .int .i64 st, .slice none 0 0] 34)) := ⟨_, rfl⟩
  rw [← hw0] at b0 K1 K2 ⊢
  have sz0 : w.heap.size + 3 ≤ w0.heap.size := by rw [hw0]; simp
  clear hw0
  refine (laws_toStringS _ _ _ _ _ hn (h.up b0) hz).mono ?_; rintro e w1 ⟨g, rfl, ho, hb1⟩
  have L1 := K1.up hb1; have L2 := K2.up hb1
  have q0 := L1.cell 0; have q1 := L1.cell 1; have q2 := L1.cell 2
  have f0 := L1.frozen 0; have f1 := L1.frozen 1; have f2 := L1.frozen 2
  have r0 := L2.cell 0; have r1 := L2.cell 1; have r2 := L2.cell 2
  have t2 := L2.frozen 2
  simp only [List.getElem?_cons_zero, List.getElem?_cons_succ] at q0 q1 q2 r0 r1 r2
  have hg := ho.at_own
  go_wp2
  refine bodyPost_ret (v := .agg #[.string nm, .int .i64 st, .slice (some ⟨g, 0, none⟩) n n]) (by simp [results, Tryz.results7, go_sem, World.cell?_setCell_same, q0, q1, q2]) rfl ?_
  have gg : w1.grownBy ((((w1.setCell ⟨w.heap.size + 1 + 1, 2, none⟩ (.slice (some ⟨g, 0, none⟩) n n)).setCell ⟨w.heap.size + 1, 0, none⟩ (.string nm)).setCell ⟨w.heap.size + 1, 1, none⟩ (.int .i64 st)).setCell ⟨w.heap.size + 1, 2, none⟩ (.slice (some ⟨g, 0, none⟩) n n)) (some 0) ∨ True := .inr trivial
  have o1 := ho.past (only_set w1 (p := ⟨w.heap.size + 1 + 1, 2, none⟩) (.slice (some ⟨g, 0, none⟩) n n)) (by show w.heap.size + 1 + 1 < w0.heap.size; omega)
  have o2 := o1.past (only_set _ (p := ⟨w.heap.size + 1, 0, none⟩) (.string nm)) (by show w.heap.size + 1 < w0.heap.size; omega)
  have o3 := o2.past (only_set _ (p := ⟨w.heap.size + 1, 1, none⟩) (.int .i64 st)) (by show w.heap.size + 1 < w0.heap.size; omega)
  have o4 := o3.past (only_set _ (p := ⟨w.heap.size + 1, 2, none⟩) (.slice (some ⟨g, 0, none⟩) n n)) (by show w.heap.size + 1 < w0.heap.size; omega)
  have B1 := below_go b0 hb1
  exact ⟨g, rfl, o4.base_le (by omega), (((B1.setCell (p := ⟨w.heap.size + 1 + 1, 2, none⟩) (by show w.heap.size ≤ w.heap.size + 1 + 1; omega) _).setCell (p := ⟨w.heap.size + 1, 0, none⟩) (Nat.le_succ _) _).setCell (p := ⟨w.heap.size + 1, 1, none⟩) (Nat.le_succ _) _).setCell (p := ⟨w.heap.size + 1, 2, none⟩) (Nat.le_succ _) _⟩
theorem laws_toCalls {kb ks : ByteArray} {w : World} :
    Calls Tryz.prog 8 #[.agg #[.string kb, .string ks]] w fun e w' => e = .returned (.agg #[.string kb, .string ks]) ∧ Below w.heap.size w w' := by
  go_in
  go_wp2
  go_returns
  exact ⟨rfl, by (repeat' (first | (with_reducible exact Below.refl _ _) | (with_reducible assumption) | (with_reducible refine below_drewN ?_ _) | (with_reducible refine Below.drew ?_) | (with_reducible refine below_alloc ?_ _) | (with_reducible refine Below.alloc ?_ ?_ _) | (with_reducible refine Below.setCell ?_ ?_ _) | (with_reducible refine below_go ?_ (by with_reducible assumption)) | (with_reducible refine below_then (by with_reducible assumption) ?_ ?_) | go_size))⟩
/-- The bytes of a method. -/
def szM (nm : ByteArray) (l : List ByteArray) : Int := (nm.size : Int) + szS l
def szK (kb ks : ByteArray) : Int := (kb.size : Int) + (ks.size : Int)
def leftV (left z : Int) : Int := if z ≤ left then left - z else -1
theorem leftV_t {left z : Int} (h : z ≤ left) : leftV left z = left - z := by rw [leftV, if_pos h]
theorem leftV_f {left z : Int} (h : left < z) : leftV left z = -1 := by rw [leftV, if_neg (by omega)]
theorem szS_nonneg (l : List ByteArray) : 0 ≤ szS l := by have := szS_len l; omega
theorem laws_szMethod {A : Option Addr} {n c : Nat} {nm : ByteArray} {st : Int} {l : List ByteArray} {left : Int} {w : World} (hn : l.length = n) (h : Strs w A l) (h1 : left ≤ 1048576) (h0 : 0 ≤ left) (hm : l.length ≤ 9223372036854775807) (hs : ∀ s ∈ l, s.size ≤ maxLen) (hnm : nm.size ≤ maxLen) :
    Calls Tryz.prog 4 #[.agg #[.string nm, .int .i64 st, .slice A n c], .int .i64 left] w fun e w' => e = .returned (.int .i64 (leftV left (szM nm l))) ∧ Below w.heap.size w w' := by
  have b0 : Below w.heap.size w (w.alloc (.cells ⟨[.string nm, .int .i64 st, .slice A n c]⟩ 24)) := by (repeat' (first | (with_reducible exact Below.refl _ _) | (with_reducible assumption) | (with_reducible refine below_drewN ?_ _) | (with_reducible refine Below.drew ?_) | (with_reducible refine below_alloc ?_ _) | (with_reducible refine Below.alloc ?_ ?_ _) | (with_reducible refine Below.setCell ?_ ?_ _) | (with_reducible refine below_go ?_ (by with_reducible assumption)) | (with_reducible refine below_then (by with_reducible assumption) ?_ ?_) | go_size))
  have hsn := szS_nonneg l
  have hZ : Hid (szM nm l = (nm.size : Int) + szS l) := Lib.hid rfl
  unfold maxLen at hnm
  by_cases hc1 : (nm.size : Int) ≤ left
  · have hI : ¬ left - (nm.size : Int) < 0 := by omega
    by_cases hc2 : szS l ≤ left - (nm.size : Int)
    · have e1 := Lib.hid (show leftV left (szM nm l) = left - (nm.size : Int) - szS l by rw [leftV_t (by rw [hZ.out]; omega), hZ.out]; omega)
      have hJ : ¬ left - (nm.size : Int) - szS l < 0 := by omega
      go_in
      go_wp2_with fail
      refine (laws_szStringS_ok _ _ _ _ _ _ hn (h.up b0) (by omega) (by omega) hm hs hc2).mono ?_; rintro e w' ⟨rfl, rfl⟩
      go_wp2
      go_ret
      rw [e1.out]
      exact ⟨rfl, b0⟩
    · have e1 := Lib.hid (show leftV left (szM nm l) = -1 from leftV_f (by rw [hZ.out]; omega))
      go_in
      go_wp2_with fail
      refine (laws_szStringS_no _ _ _ _ _ _ hn (h.up b0) (by omega) (by omega) hm hs (by omega)).mono ?_; rintro e w' ⟨rfl, rfl⟩
      go_wp2
      go_ret
      rw [e1.out]
      exact ⟨rfl, b0⟩
  · have hI : left - (nm.size : Int) < 0 := by omega
    have e1 := Lib.hid (show leftV left (szM nm l) = -1 from leftV_f (by rw [hZ.out]; omega))
    go_in
    go_wp2
    go_ret
    rw [e1.out]
    exact ⟨rfl, b0⟩
theorem laws_szCalls {kb ks : ByteArray} {left : Int} {w : World} (h1 : left ≤ 1048576) (h0 : 0 ≤ left) (hkb : kb.size ≤ maxLen) (hks : ks.size ≤ maxLen) :
    Calls Tryz.prog 5 #[.agg #[.string kb, .string ks], .int .i64 left] w fun e w' => e = .returned (.int .i64 (leftV left (szK kb ks))) ∧ Below w.heap.size w w' := by
  have b0 : Below w.heap.size w (w.alloc (.cells ⟨[.string kb, .string ks]⟩ 26)) := by (repeat' (first | (with_reducible exact Below.refl _ _) | (with_reducible assumption) | (with_reducible refine below_drewN ?_ _) | (with_reducible refine Below.drew ?_) | (with_reducible refine below_alloc ?_ _) | (with_reducible refine Below.alloc ?_ ?_ _) | (with_reducible refine Below.setCell ?_ ?_ _) | (with_reducible refine below_go ?_ (by with_reducible assumption)) | (with_reducible refine below_then (by with_reducible assumption) ?_ ?_) | go_size))
  have hZ : Hid (szK kb ks = (kb.size : Int) + (ks.size : Int)) := Lib.hid rfl
  unfold maxLen at hkb hks
  by_cases hc1 : (kb.size : Int) ≤ left
  · have hI : ¬ left - (kb.size : Int) < 0 := by omega
    by_cases hc2 : (ks.size : Int) ≤ left - (kb.size : Int)
    · have e1 := Lib.hid (show leftV left (szK kb ks) = left - (kb.size : Int) - (ks.size : Int) by rw [leftV_t (by rw [hZ.out]; omega), hZ.out]; omega)
      have hJ : ¬ left - (kb.size : Int) - (ks.size : Int) < 0 := by omega
      go_in
      go_wp2
      go_ret
      rw [e1.out]
      exact ⟨rfl, b0⟩
    · have e1 := Lib.hid (show leftV left (szK kb ks) = -1 from leftV_f (by rw [hZ.out]; omega))
      have hJ : left - (kb.size : Int) - (ks.size : Int) < 0 := by omega
      go_in
      go_wp2
      go_ret
      rw [e1.out]
      exact ⟨rfl, b0⟩
  · have hI : left - (kb.size : Int) < 0 := by omega
    have e1 := Lib.hid (show leftV left (szK kb ks) = -1 from leftV_f (by rw [hZ.out]; omega))
    go_in
    go_wp2
    go_ret
    rw [e1.out]
    exact ⟨rfl, b0⟩
theorem laws_eqMethod {A B : Option Addr} {n c d : Nat} {nm : ByteArray} {st : Int} {l : List ByteArray} {w : World} (hn : l.length = n) (h : Strs w A l) (g : Strs w B l) (hz : n ≤ 16777216) :
    Calls Tryz.prog 11 #[.agg #[.string nm, .int .i64 st, .slice A n c], .agg #[.string nm, .int .i64 st, .slice B n d]] w fun e w' => e = .returned (.bool true) ∧ Below w.heap.size w w' := by
  have b0 : Below w.heap.size w ((w.alloc (.cells ⟨[.string nm, .int .i64 st, .slice A n c]⟩ 34)).alloc (.cells ⟨[.string nm, .int .i64 st, .slice B n d]⟩ 34)) := by (repeat' (first | (with_reducible exact Below.refl _ _) | (with_reducible assumption) | (with_reducible refine below_drewN ?_ _) | (with_reducible refine Below.drew ?_) | (with_reducible refine below_alloc ?_ _) | (with_reducible refine Below.alloc ?_ ?_ _) | (with_reducible refine Below.setCell ?_ ?_ _) | (with_reducible refine below_go ?_ (by with_reducible assumption)) | (with_reducible refine below_then (by with_reducible assumption) ?_ ?_) | go_size))
  go_in
  go_wp2_with fail
  refine (laws_eqStringS _ _ _ _ _ _ _ _ _ hn hn (h.up b0) (g.up b0) hz hz).mono ?_; rw [decide_eq_true (rfl : l = l)]; rintro e w1 ⟨rfl, hb1⟩
  go_wp2
  go_ret
  exact ⟨rfl, below_go b0 hb1⟩
theorem laws_markMethod {A : Option Addr} {n c base : Nat} {nm : ByteArray} {st k0 : Int} {l : List ByteArray} {w : World} (h : Owned strE 1 9 w base A n c l) (hb : base ≤ w.heap.size) (hz : n ≤ 16777216) (hk : 1 ≤ k0 ∧ k0 ≤ 1099511627776) :
    Calls Tryz.prog 12 #[.agg #[.string nm, .int .i64 st, .slice A n c], .int .i64 k0] w fun e w' => e = .returned (.int .i64 (k0 + (n : Int))) ∧ w.grownBy w' (Value.slice A n c).ownBlock ∧ Below base w w' := by
  have b0 : Below w.heap.size w (w.alloc (.cells ⟨[.string nm, .int .i64 st, .slice A n c]⟩ 34)) := by (repeat' (first | (with_reducible exact Below.refl _ _) | (with_reducible assumption) | (with_reducible refine below_drewN ?_ _) | (with_reducible refine Below.drew ?_) | (with_reducible refine below_alloc ?_ _) | (with_reducible refine Below.alloc ?_ ?_ _) | (with_reducible refine Below.setCell ?_ ?_ _) | (with_reducible refine below_go ?_ (by with_reducible assumption)) | (with_reducible refine below_then (by with_reducible assumption) ?_ ?_) | go_size))
  go_in
  go_wp2_with fail
  refine (laws_markStringS _ _ _ _ _ _ _ (h.alloc _) (by simp; omega) hz hk).mono ?_; rintro e w1 ⟨rfl, hm, hg, hb1⟩
  go_wp2
  go_ret
  exact ⟨rfl, grownBy_trans (grown_any b0 _) hg, ((Below.refl _ _).alloc hb _).trans hb1⟩
end Go.Proofs.YtoheahbkopbmhaaGreat
/- The laws' own conversions of []impl.Line and of impl.Proof: copying, comparing, counting. -/
namespace Go.Proofs.YtoheahbkopbmhaaGreat
set_option linter.unusedVariables false
set_option linter.unusedSimpArgs false
open Go.ChangeShapes Go.WideShapes Go.ChangeAt Go.RowKit Go.Deep
abbrev Line3 := ByteArray × Int × Int
abbrev lineE : ByteArray × Int × Int → List Value := fun s => [.string s.1, .int .i64 s.2.1, .int .i64 s.2.2]
theorem lineE_len (s : Line3) : (lineE s).length = 3 := rfl
theorem Tryz.elLine : ElemOk Tryz.prog 29 55 (.agg #[.string ByteArray.empty, .int .i64 0, .int .i64 0]) 3 32 := ⟨Tryz.underlying29, by kernel_rfl, rfl, by decide⟩
theorem laws_eqLine (a0 b0 : ByteArray) (a1 a2 b1 b2 : Int) (w : World) :
    Calls Tryz.prog 54 #[.agg #[.string a0, .int .i64 a1, .int .i64 a2], .agg #[.string b0, .int .i64 b1, .int .i64 b2]] w fun e w' => e = .returned (.bool (decide ((a0, a1, a2) = (b0, b1, b2)))) ∧ Below w.heap.size w w' := by
  have E : Hid (∀ p : Bool, p = decide (a0 = b0 ∧ a1 = b1 ∧ a2 = b2) → p = decide ((a0, a1, a2) = (b0, b1, b2))) := fun p h => by rw [h]; simp
  rcases hne : (a0.toList == b0.toList)
  · have hd := Lib.hid (show ¬ a0 = b0 from fun e => by rw [e] at hne; simp at hne)
    go_in
    go_wp2
    all_goals go_ret
    all_goals refine ⟨ret_bool (E.out _ ?_), by (repeat' (first | (with_reducible exact Below.refl _ _) | (with_reducible assumption) | (with_reducible refine below_drewN ?_ _) | (with_reducible refine Below.drew ?_) | (with_reducible refine below_alloc ?_ _) | (with_reducible refine Below.alloc ?_ ?_ _) | (with_reducible refine Below.setCell ?_ ?_ _) | (with_reducible refine below_go ?_ (by with_reducible assumption)) | (with_reducible refine below_then (by with_reducible assumption) ?_ ?_) | go_size))⟩
    all_goals simp [hd.out]
  · have hd := Lib.hid (bytes_same hne)
    go_in
    go_wp2
    all_goals go_ret
    all_goals refine ⟨ret_bool (E.out _ ?_), by (repeat' (first | (with_reducible exact Below.refl _ _) | (with_reducible assumption) | (with_reducible refine below_drewN ?_ _) | (with_reducible refine Below.drew ?_) | (with_reducible refine below_alloc ?_ _) | (with_reducible refine Below.alloc ?_ ?_ _) | (with_reducible refine Below.setCell ?_ ?_ _) | (with_reducible refine below_go ?_ (by with_reducible assumption)) | (with_reducible refine below_then (by with_reducible assumption) ?_ ?_) | go_size))⟩
    all_goals simp_all [hd.out]
set_option maxRecDepth 100000 in
theorem laws_eqLineS (A C : Option Addr) (n n' c d : Nat) (l m : List Line3) (w : World) (hn : l.length = n) (hn' : m.length = n') (h : Recs lineE 3 w A l) (g : Recs lineE 3 w C m) (hz : n ≤ 16777216) (hz' : n' ≤ 16777216) :
    Calls Tryz.prog 32 #[.slice A n c, .slice C n' d] w fun e w' => e = .returned (.bool (decide (l = m))) ∧ Below w.heap.size w w' := by
  subst hn hn'
  by_cases hl : l.length = m.length
  · have HL := Lib.hid hl
    rw [← hl]
    clear hl
    go_in
    go_wp2
    go_loopw [5] (fun i wr => ∃ k : Nat, k ≤ l.length ∧ i = .int .i64 k ∧ Hid (∀ j, j < k → l[j]? = m[j]?) ∧ Below w.heap.size w wr) (fun i _ => l.length - (intOf i).toNat)
    case atStart => exact ⟨0, Nat.zero_le _, rfl, Lib.hid (fun j hj => absurd hj (by omega)), Below.refl _ _⟩
    case round =>
      obtain ⟨k, hk, rfl, HT, hb⟩ := hrel
      by_cases hlt : k < l.length
      · obtain ⟨x, hx⟩ := some_of_lt hlt
        obtain ⟨y, hy⟩ := some_of_lt (l := m) (k := k) (by rw [← HL.out]; exact hlt)
        obtain ⟨b1, o1, rfl, _, hcx0, hcx1, hcx2⟩ := (h.below hb (Nat.le_refl _)).at_3 hx
        obtain ⟨b2, o2, rfl, _, hcy0, hcy1, hcy2⟩ := (g.below hb (Nat.le_refl _)).at_3 hy
        have HX := Lib.hid hx
        have HY := Lib.hid hy
        clear hx hy h g
        go_wp2
        go_still_tail 8, (by kernel_rfl)
        change wpList _ _ _ _ _ wr.drew
        go_wp2_with fail
        refine (laws_eqLine _ _ _ _ _ _ _).mono ?_; rintro e w1 ⟨rfl, hb1⟩
        by_cases hxy : x = y
        · have hd : decide ((x.1, x.2.1, x.2.2) = (y.1, y.2.1, y.2.2)) = true := by rw [hxy]; simp
          rw [hd]
          have HXY := Lib.hid hxy
          clear hxy hd
          go_wp2
          go_roundw
          case rel => exact ⟨k + 1, by omega, by go_num, Lib.hid (upto_succ HT.out (by rw [HX.out, HY.out, HXY.out])), by (repeat' (first | (with_reducible exact Below.refl _ _) | (with_reducible assumption) | (with_reducible refine below_drewN ?_ _) | (with_reducible refine Below.drew ?_) | (with_reducible refine below_alloc ?_ _) | (with_reducible refine Below.alloc ?_ ?_ _) | (with_reducible refine Below.setCell ?_ ?_ _) | (with_reducible refine below_go ?_ (by with_reducible assumption)) | (with_reducible refine below_then (by with_reducible assumption) ?_ ?_) | go_size))⟩
          case measure => simp [intOf]; omega
        · have hd : decide ((x.1, x.2.1, x.2.2) = (y.1, y.2.1, y.2.2)) = false := decide_eq_false hxy
          rw [hd]
          have HXY := Lib.hid hxy
          clear hxy hd
          go_wp2
          go_ret
          refine ⟨ret_bool ?_, by (repeat' (first | (with_reducible exact Below.refl _ _) | (with_reducible assumption) | (with_reducible refine below_drewN ?_ _) | (with_reducible refine Below.drew ?_) | (with_reducible refine below_alloc ?_ _) | (with_reducible refine Below.alloc ?_ ?_ _) | (with_reducible refine Below.setCell ?_ ?_ _) | (with_reducible refine below_go ?_ (by with_reducible assumption)) | (with_reducible refine below_then (by with_reducible assumption) ?_ ?_) | go_size))⟩
          have hd : l ≠ m := fun e => by
            have h1 := HX.out
            rw [e, HY.out] at h1
            injection h1 with h1
            exact HXY.out h1.symm
          simp [hd]
      · go_wp2
        go_ret
        refine ⟨ret_bool ?_, hb⟩
        have hd : l = m := eq_of_upto (fun j hj => HT.out j hj) (by omega) (by have := HL.out; omega)
        simp [hd]
  · have hne : ((l.length : Int) != (m.length : Int)) = true := by simp; omega
    have hd : l ≠ m := fun e => hl (by rw [e])
    have HD := Lib.hid hd
    clear hd hl
    go_in
    go_wp2
    go_ret
    refine ⟨ret_bool ?_, by (repeat' (first | (with_reducible exact Below.refl _ _) | (with_reducible assumption) | (with_reducible refine below_drewN ?_ _) | (with_reducible refine Below.drew ?_) | (with_reducible refine below_alloc ?_ _) | (with_reducible refine Below.alloc ?_ ?_ _) | (with_reducible refine Below.setCell ?_ ?_ _) | (with_reducible refine below_go ?_ (by with_reducible assumption)) | (with_reducible refine below_then (by with_reducible assumption) ?_ ?_) | go_size))⟩
    simp [HD.out]
/-- What is left of 'left' behind z. -/
def szV (z left : Int) : Int := if z ≤ left then left - z else -1
theorem szV_t {z left : Int} (h : z ≤ left) : szV z left = left - z := by rw [szV, if_pos h]
theorem szV_f {z left : Int} (h : ¬ z ≤ left) : szV z left = -1 := by rw [szV, if_neg h]
/-- The room that lines take. -/
def szL : List Line3 → Int
  | [] => 0
  | x :: l => (x.1.size : Int) + 1 + szL l
theorem szL_len : ∀ l : List Line3, (l.length : Int) ≤ szL l
  | [] => by simp [szL]
  | x :: l => by have := szL_len l; rw [szL, List.length_cons]; omega
theorem szL_nonneg (l : List Line3) : 0 ≤ szL l := Int.le_trans (by omega) (szL_len l)
/-- What is left of 'left' behind the lengths of the first k texts; lines counted ahead. -/
def szUp (l : List Line3) : Nat → Int
  | 0 => 0
  | k + 1 => szUp l k + ((l.getD k (ByteArray.empty, 0, 0)).1.size : Int)
theorem szUp_succ {l : List Line3} {k : Nat} {x : Line3} (h : l[k]? = some x) : szUp l (k + 1) = szUp l k + (x.1.size : Int) := by rw [szUp, List.getD, h]; rfl
theorem szUp_cons (x : Line3) (l : List Line3) : ∀ k, szUp (x :: l) (k + 1) = (x.1.size : Int) + szUp l k
  | 0 => by simp [szUp]
  | k + 1 => by
    rw [szUp, szUp_cons x l k, szUp]
    simp only [List.getD_cons_succ]
    omega
theorem szL_up : ∀ l : List Line3, szL l = (l.length : Int) + szUp l l.length
  | [] => by simp [szL, szUp]
  | x :: l => by rw [szL, szL_up l, List.length_cons, szUp_cons]; omega
theorem szUp_mono (l : List Line3) : ∀ {j k : Nat}, j ≤ k → szUp l j ≤ szUp l k := fun {j k} h => by
  induction k with
  | zero => obtain rfl : j = 0 := by omega
            exact Int.le_refl _
  | succ k ih =>
    by_cases e : j = k + 1
    · subst e; exact Int.le_refl _
    · have := ih (by omega)
      rw [szUp]; omega
theorem szUp_nonneg (l : List Line3) (k : Nat) : 0 ≤ szUp l k := szUp_mono l (j := 0) (Nat.zero_le k)
end Go.Proofs.YtoheahbkopbmhaaGreat
/- The walks through the comparison of proofs, both sides, and the law's own conversions of proofs. -/
namespace Go.Proofs.YtoheahbkopbmhaaGreat
set_option linter.unusedVariables false
set_option linter.unusedSimpArgs false
open Go.ChangeShapes Go.WideShapes Go.ChangeAt Go.RowKit Go.Deep
theorem laws_eqProof (A B C D : Option Addr) (n m n' m' c d c' d' : Nat) (l l' : List ByteArray) (k k' : List Line3) (w : World) (hn : l.length = n) (hn' : l'.length = n') (hm : k.length = m) (hm' : k'.length = m') (h : Recs strE 1 w A l) (h' : Recs strE 1 w B l') (g : Recs lineE 3 w C k) (g' : Recs lineE 3 w D k') (hz : n ≤ 16777216) (hz' : n' ≤ 16777216) (hy : m ≤ 16777216) (hy' : m' ≤ 16777216) :
    Calls Tryz.prog 10 #[.agg #[.slice A n c, .slice C m d], .agg #[.slice B n' c', .slice D m' d']] w fun e w' => e = .returned (.bool (decide (l = l') && decide (k = k'))) ∧ Below w.heap.size w w' := by
  have b0 : Below w.heap.size w ((w.alloc (.cells #[.slice A n c, .slice C m d] 31)).alloc (.cells #[.slice B n' c', .slice D m' d'] 31)) := by (repeat' (first | (with_reducible exact Below.refl _ _) | (with_reducible assumption) | (with_reducible refine below_drewN ?_ _) | (with_reducible refine Below.drew ?_) | (with_reducible refine below_alloc ?_ _) | (with_reducible refine Below.alloc ?_ ?_ _) | (with_reducible refine Below.setCell ?_ ?_ _) | (with_reducible refine below_go ?_ (by with_reducible assumption)) | (with_reducible refine below_then (by with_reducible assumption) ?_ ?_) | go_size))
  have K0 := (Blk.at_ w 31 [.slice A n c, .slice C m d] (b := w.heap.size) rfl).alloc (.cells #[.slice B n' c', .slice D m' d'] 31)
  have K1 := Blk.at_ (w.alloc (.cells #[.slice A n c, .slice C m d] 31)) 31 [.slice B n' c', .slice D m' d'] (b := w.heap.size + 1) (by simp)
  rcases h1 : decide (l = l')
  · go_in
    go_wp2_with (first | (go_at_call 31; refine (laws_eqStringS _ _ _ _ _ _ _ _ _ hn hn' (h.up b0) (h'.up b0) hz hz').mono ?_; rw [h1]; rintro e w1 ⟨rfl, hb1⟩))
    go_ret
    exact ⟨rfl, below_go b0 hb1⟩
  · rcases h2 : decide (k = k')
    · go_in
      go_wp2_with (first | (go_at_call 31; refine (laws_eqStringS _ _ _ _ _ _ _ _ _ hn hn' (h.up b0) (h'.up b0) hz hz').mono ?_; rw [h1]; rintro e w1 ⟨rfl, hb1⟩; have L0 := K0.up hb1; have L1 := K1.up hb1; have c1 := L0.cell 1; have d1 := L1.cell 1; simp only [List.getElem?_cons_zero, List.getElem?_cons_succ] at c1 d1; clear L0 L1) | (go_at_call 32; refine (laws_eqLineS _ _ _ _ _ _ _ _ _ hm hm' ((g.up b0).up hb1) ((g'.up b0).up hb1) hy hy').mono ?_; rw [h2]; rintro e w2 ⟨rfl, hb2⟩))
      go_ret
      exact ⟨rfl, below_go (below_go b0 hb1) hb2⟩
    · go_in
      go_wp2_with (first | (go_at_call 31; refine (laws_eqStringS _ _ _ _ _ _ _ _ _ hn hn' (h.up b0) (h'.up b0) hz hz').mono ?_; rw [h1]; rintro e w1 ⟨rfl, hb1⟩; have L0 := K0.up hb1; have L1 := K1.up hb1; have c1 := L0.cell 1; have d1 := L1.cell 1; simp only [List.getElem?_cons_zero, List.getElem?_cons_succ] at c1 d1; clear L0 L1) | (go_at_call 32; refine (laws_eqLineS _ _ _ _ _ _ _ _ _ hm hm' ((g.up b0).up hb1) ((g'.up b0).up hb1) hy hy').mono ?_; rw [h2]; rintro e w2 ⟨rfl, hb2⟩))
      go_ret
      exact ⟨rfl, below_go (below_go b0 hb1) hb2⟩
end Go.Proofs.YtoheahbkopbmhaaGreat
/- Tables of ints: a row of slices, each of them a row of ints of its own. -/
namespace Go.Proofs.YtoheahbkopbmhaaGreat
set_option linter.unusedVariables false
set_option linter.unusedSimpArgs false
open Go.ChangeShapes Go.WideShapes Go.ChangeAt Go.RowKit Go.Deep

theorem wrap_id {x : Int} (h : -9223372036854775808 ≤ x ∧ x ≤ 9223372036854775807) : IntKind.i64.wrap x = x := by
  rw [PlainAid.i64_is]; unfold wrap64; omega
theorem wrap_succ {k : Nat} (h : k ≤ 16777216) : IntKind.i64.wrap ((k : Int) + 1) = ((k + 1 : Nat) : Int) := by
  rw [wrap_id (by omega)]; omega
/-- A slice's head: address, elements, capacity. -/
abbrev Hd := Option Addr × Nat × Nat
def slcE (v : Hd) : List Value := [.slice v.1 v.2.1 v.2.2]
theorem slcE_len (v : Hd) : (slcE v).length = 1 := rfl
theorem slcE_one (v : Hd) : ∀ u ∈ slcE v, u.oneCell' = true := fun u hu => by simp [slcE] at hu; subst hu; rfl
theorem Recs.at_slc {w : World} {A : Option Addr} {l : List Hd} {k : Nat} (h : Recs slcE 1 w A l) (hk : k < l.length) : ∃ b off x, A = some ⟨b, off, none⟩ ∧ b < w.heap.size ∧ l[k]? = some x ∧ w.cell? ⟨b, off + k, none⟩ = some (.slice x.1 x.2.1 x.2.2) := by
  obtain ⟨b, off, hA, hb, hc⟩ := h.cells (by omega)
  obtain ⟨x, hx⟩ := some_of_lt hk
  exact ⟨b, off, x, hA, hb, hx, by simpa using hc k x 0 _ hx rfl⟩

theorem Owned.same {α : Type} {e : α → List Value} {s : Nat} {E : TypeId} {w w' : World} {base : Nat} {A : Option Addr} {n c : Nat} {l : List α} (h : Owned e s E w base A n c l)
    (hk : ∀ g, (Value.slice A n c).ownBlock = some g → w'.heap[g]? = w.heap[g]?) : Owned e s E w' base A n c l := by
  refine ⟨h.1, h.2.1, h.2.2.1, ?_⟩
  rcases h.2.2.2 with h0 | ⟨g, cap, cur, hv, hg, hh, r⟩
  · exact .inl h0
  · refine .inr ⟨g, cap, cur, hv, hg, ?_, r⟩
    rw [hk g (by rw [hv]; rfl)]
    exact hh

/-- The table T is what the heads vs in the row with address A read as. -/
def TabR (vs : List Hd) (w : World) (A : Option Addr) (T : List (List Int)) : Prop :=
  vs.length = T.length ∧ Recs slcE 1 w A vs ∧ ∀ (k : Nat) (v : Hd) (r : List Int), vs[k]? = some v → T[k]? = some r → v.2.1 = r.length ∧ Ints w v.1 r
theorem TabR.below {vs : List Hd} {w w' : World} {A : Option Addr} {T : List (List Int)} {B : Nat} (h : TabR vs w A T) (hb : Below B w w') (hB : w.heap.size ≤ B) : TabR vs w' A T :=
  ⟨h.1, h.2.1.below hb hB, fun k v r hv hr => ⟨(h.2.2 k v r hv hr).1, (h.2.2 k v r hv hr).2.below hb hB⟩⟩
theorem TabR.up {vs : List Hd} {w w' : World} {A : Option Addr} {T : List (List Int)} (h : TabR vs w A T) (hb : Below w.heap.size w w') : TabR vs w' A T := h.below hb (Nat.le_refl _)
/-- Row k of a table that is read: its head's cell, and the row. -/
theorem TabR.row {vs : List Hd} {w : World} {A : Option Addr} {T : List (List Int)} {k : Nat} (h : TabR vs w A T) (hk : k < T.length) :
    ∃ b off v r, A = some ⟨b, off, none⟩ ∧ b < w.heap.size ∧ T[k]? = some r ∧ w.cell? ⟨b, off + k, none⟩ = some (.slice v r.length (v, r.length, (vs[k]?.getD (none, 0, 0)).2.2).2.2) ∧ Ints w v r := by
  obtain ⟨b, off, v, hA, hb, hv, hc⟩ := h.2.1.at_slc (k := k) (by rw [h.1]; exact hk)
  obtain ⟨r, hr⟩ := some_of_lt hk
  obtain ⟨h1, h2⟩ := h.2.2 k v r hv hr
  refine ⟨b, off, v.1, r, hA, hb, hr, ?_, h2⟩
  rw [hc, h1, hv]; rfl
theorem TabR.rowc {vs : List Hd} {w : World} {A : Option Addr} {T : List (List Int)} {i : Nat} {r : List Int} (h : TabR vs w A T) (hr : T[i]? = some r) (h0 : 0 < r.length) :
    ∃ g og b o c, A = some ⟨g, og, none⟩ ∧ g < w.heap.size ∧ b < w.heap.size ∧ w.cell? ⟨g, og + i, none⟩ = some (.slice (some ⟨b, o, none⟩) r.length c) ∧ ∀ j x, r[j]? = some x → w.cell? ⟨b, o + j, none⟩ = some (.int .i64 x) := by
  obtain ⟨g, og, v, hA, hb, hv, hc⟩ := h.2.1.at_slc (k := i) (by rw [h.1]; exact (List.getElem?_eq_some_iff.1 hr).1)
  obtain ⟨h1, h2⟩ := h.2.2 i v r hv hr
  obtain ⟨b, o, hA2, hb2, hc2⟩ := h2.cells h0
  refine ⟨g, og, b, o, v.2.2, hA, hb, hb2, ?_, fun j x hx => by simpa using hc2 j x 0 _ hx rfl⟩
  rw [hc, h1, hA2]
end Go.Proofs.YtoheahbkopbmhaaGreat
/- Appending one record inside a region that draws its order. -/
namespace Go.Proofs.YtoheahbkopbmhaaGreat
set_option linter.unusedVariables false
set_option linter.unusedSimpArgs false
open Go.ChangeShapes Go.WideShapes Go.ChangeAt Go.RowKit Go.Deep
theorem Owned.drew {α : Type} {e : α → List Value} {s : Nat} {E : TypeId} {w : World} {base : Nat} {A : Option Addr} {n c : Nat} {l : List α} (h : Owned e s E w base A n c l) : Owned e s E w.drew base A n c l := h.up (Below.drew (Below.refl _ _))
theorem Box.drew {w : World} {b : Nat} {cs : List Value} (h : Box w b cs) : Box w.drew b cs := h
theorem step_append_rec {P : Program} {α : Type} {e : α → List Value} {s bytes : Nat} {t E : TypeId} {z : Value} (he : ElemOk P t E z s bytes) {ops : Array Oper} {o : Oper} {a : Act} {K : Act → World → Prop} {Q : Exit → Act → World → Prop} {E' : Prop} {W : World}
    (hgd : o.guard = none) (S X : Operand) (ho : o.op = .call { callee := .builtin .append, args := #[S, X], argTypes := #[t, t] })
    {base : Nat} {A : Option Addr} {n c : Nat} {l : List α} (hs : a.eval S = .slice A n c) (hown : Owned e s E W base A n c l) (x : α) {b cx : Nat} (hx : a.eval X = .slice (some ⟨b, 0, none⟩) 1 cx)
    (hnew : Box W b (e x)) (h1 : ∀ u ∈ e x, u.oneCell' = true) (hn : n ≤ 16777216) (hby : bytes ≤ 4096) (hbase : base ≤ W.heap.size)
    (h : ∀ A' c' w', Owned e s E w' base A' (n + 1) c' (l ++ [x]) → W.grownBy w' (Value.slice A n c).ownBlock → Below base W w' → K (a.put o.dst (.slice A' (n + 1) c')) w') :
    if Region.wanted o (yielded ops a.tmps) = true then Oper.wp P o a W K Q else E' := by
  obtain ⟨i0, hi, hz0, hz1, hz2⟩ := info_parts he.info
  refine step_append_lies W hgd S X t ho base E i0 z s bytes he.under hi hz0 hz1 hz2 he.zs he.pos _ n _ hs hown.2.2 ⟨b, 0, none⟩ 1 cx (e x) hx (by rw [hown.1]; omega)
    (fun j u hu => by rw [Go.WideShapes.add_plain, Nat.zero_add]; exact hnew j u hu) h1 (by omega) (by unfold maxLen; omega) ?_ hbase W.heap.size rfl ?_
  · exact Nat.le_trans (Nat.mul_le_mul (show n + 1 ≤ 16777217 by omega) hby) (by decide)
  · intro g cap w' hown' hg _ _
    have ho' : Owned e s E w' base (some ⟨g, 0, none⟩) (n + 1) cap (l ++ [x]) := ⟨hown.1, by simp [hown.2.1], by simpa using hown'⟩
    exact h _ _ w' ho' hg ((Below.refl _ _).grown hg hbase fun k hk => (hown.blk hk).1)
end Go.Proofs.YtoheahbkopbmhaaGreat
/- Appending many records at once, from wherever they are read; rows of rows. -/
namespace Go.Proofs.YtoheahbkopbmhaaGreat
set_option linter.unusedVariables false
set_option linter.unusedSimpArgs false
open Go.ChangeShapes Go.WideShapes Go.ChangeAt Go.RowKit Go.Deep
theorem flatMap_nil_of {α : Type} {e : α → List Value} {s : Nat} {l : List α} (h : l.length = 0) : l.flatMap e = [] := by
  rw [List.length_eq_zero_iff] at h
  subst h; rfl
theorem run_append_recs {P : Program} {α : Type} {e : α → List Value} {s bytes : Nat} {t E : TypeId} {z : Value} (he : ElemOk P t E z s bytes) (h1 : ∀ x, ∀ u ∈ e x, u.oneCell' = true) {W : World} {base : Nat} {A : Option Addr} {n c : Nat} {l : List α} (hown : Owned e s E W base A n c l)
    {B : Option Addr} {m d : Nat} {l2 : List α} (hr : Recs e s W B l2) (hm : l2.length = m) (hn : n + m ≤ 16777216) (hby : bytes ≤ 4096) (hbase : base ≤ W.heap.size) (ty : TypeId) :
    ∃ A' c' w', (Builtin.append_ #[t, t] ty #[.slice A n c, .slice B m d]).run P W = .ok (.slice A' (n + m) c') w' ∧ Owned e s E w' base A' (n + m) c' (l ++ l2) ∧ W.grownBy w' (Value.slice A n c).ownBlock ∧
      (∀ k, (Value.slice A' (n + m) c').ownBlock = some k → (Value.slice A n c).ownBlock = some k ∨ W.heap.size ≤ k) := by
  obtain ⟨i0, hi, hz0, hz1, hz2⟩ := info_parts he.info
  subst hm
  rcases B with _ | ad
  · have hm : l2.length = 0 := by
      rcases Nat.eq_zero_or_pos l2.length with h | h
      · exact h
      · obtain ⟨b, o, e1, _⟩ := hr.2.2 h
        cases e1
    have e2 : l2 = [] := List.eq_nil_of_length_eq_zero hm
    subst e2
    refine ⟨A, c, W, ?_, by simpa using hown, World.grownBy.refl W _, fun k hk => .inl hk⟩
    rcases hown.2.2.2 with ⟨hv, h0⟩ | ⟨g, cap, cur, hv, _, _, hnc, _⟩
    · injection hv with a1 a2 a3
      subst a1 a2 a3
      simp [Builtin.append_, run_underlying he.under, sizeOf, typeInfo, hi, Builtin.lenOf, Builtin.firstCells]
    · injection hv with a1 a2 a3
      subst a1 a3
      simp [Builtin.append_, run_underlying he.under, sizeOf, typeInfo, hi, Builtin.lenOf, Builtin.firstCells, hnc, storeCells]
  · have hcells : ∀ j u, (l2.flatMap e)[j]? = some u → W.cell? (ad.add j) = some u := by
      intro j u hu
      rcases Nat.eq_zero_or_pos l2.length with h0 | h0
      · rw [flatMap_nil_of (e := e) (s := s) h0] at hu; simp at hu
      · obtain ⟨b, o, e1, _, hc⟩ := hr.2.2 h0
        injection e1 with e1
        subst e1
        rw [Go.WideShapes.add_plain]
        exact hc j u hu
    obtain ⟨v', w', hrun, h2, h3, _, h5⟩ := run_append_own_at (P := P) W base t ty E i0 z s bytes he.under hi hz0 hz1 hz2 he.zs he.pos _ n _ hown.2.2 ad l2.length d (l2.flatMap e) (flatMap_len hown.1 l2) hcells
      (fun u hu => by obtain ⟨x, _, hx⟩ := List.mem_flatMap.1 hu; exact h1 x u hx) (by unfold maxLen; omega) (Nat.le_trans (Nat.mul_le_mul hn hby) (by decide)) hbase
    obtain ⟨A', c', rfl, ho⟩ := Owned.of_row (l := l ++ l2) hown.1 h2 (by simp) (by rw [List.length_append, hown.2.1])
    refine ⟨A', c', w', hrun, ho, h3, fun k hk => ?_⟩
    rcases h5 with h5 | h5
    · exact .inl (by rw [← h5]; exact hk)
    · right
      rw [h5] at hk
      injection hk with hk
      omega
theorem wp_append_recs {P : Program} {α : Type} {e : α → List Value} {s bytes : Nat} {t E : TypeId} {z : Value} (he : ElemOk P t E z s bytes) (h1 : ∀ x, ∀ u ∈ e x, u.oneCell' = true) {o : Oper} {a : Act} {K : Act → World → Prop} {Q : Exit → Act → World → Prop} {W : World}
    (S X : Operand) (ho : o.op = .call { callee := .builtin .append, args := #[S, X], argTypes := #[t, t] })
    {base : Nat} {A : Option Addr} {n c : Nat} {l : List α} (hs : a.eval S = .slice A n c) (hown : Owned e s E W base A n c l) {B : Option Addr} {m d : Nat} {l2 : List α} (hx : a.eval X = .slice B m d) (hr : Recs e s W B l2) (hm : l2.length = m)
    (hn : n + m ≤ 16777216) (hby : bytes ≤ 4096) (hbase : base ≤ W.heap.size)
    (h : ∀ A' c' w', Owned e s E w' base A' (n + m) c' (l ++ l2) → W.grownBy w' (Value.slice A n c).ownBlock → (∀ k, (Value.slice A' (n + m) c').ownBlock = some k → (Value.slice A n c).ownBlock = some k ∨ W.heap.size ≤ k) → K (a.put o.dst (.slice A' (n + m) c')) w') : o.wp P a W K Q := by
  obtain ⟨A', c', w', hrun, h2, h3, h4⟩ := run_append_recs he h1 hown hr hm hn hby hbase o.type
  unfold Oper.wp execOp
  simp only [ho, resolve, invoke, builtin, Sem.run_bind, Sem.run_pure, Result.andThen_ok, List.map_toArray, List.map_cons, List.map_nil, hs, hx]
  rw [hrun]
  exact h A' c' w' h2 h3 h4
/-- 'append(xs, ys...)' onto a row of the call's own. -/
theorem wpList_append_recs {P : Program} {α : Type} {e : α → List Value} {s bytes : Nat} {t E : TypeId} {z : Value} (he : ElemOk P t E z s bytes) (h1 : ∀ x, ∀ u ∈ e x, u.oneCell' = true) {ops : Array Oper} {rest : List Oper} {o : Oper} {a : Act} {Q : Exit → Act → World → Prop} {W : World}
    (hgd : o.guard = none) (S X : Operand) (ho : o.op = .call { callee := .builtin .append, args := #[S, X], argTypes := #[t, t] })
    {base : Nat} {A : Option Addr} {n c : Nat} {l : List α} (hs : a.eval S = .slice A n c) (hown : Owned e s E W base A n c l) {B : Option Addr} {m d : Nat} {l2 : List α} (hx : a.eval X = .slice B m d) (hr : Recs e s W B l2) (hm : l2.length = m)
    (hn : n + m ≤ 16777216) (hby : bytes ≤ 4096) (hbase : base ≤ W.heap.size)
    (h : ∀ A' c' w', Owned e s E w' base A' (n + m) c' (l ++ l2) → W.grownBy w' (Value.slice A n c).ownBlock → (∀ k, (Value.slice A' (n + m) c').ownBlock = some k → (Value.slice A n c).ownBlock = some k ∨ W.heap.size ≤ k) → wpList P ops Q rest (a.put o.dst (.slice A' (n + m) c')) w') :
    wpList P ops Q (o :: rest) a W :=
  wpList_plain hgd fun _ hK => wp_append_recs he h1 S X ho hs hown hx hr hm hn hby hbase fun A' c' w' h2 h3 h4 => hK _ _ (h A' c' w' h2 h3 h4)
theorem step_append_recs {P : Program} {α : Type} {e : α → List Value} {s bytes : Nat} {t E : TypeId} {z : Value} (he : ElemOk P t E z s bytes) (h1 : ∀ x, ∀ u ∈ e x, u.oneCell' = true) {ops : Array Oper} {o : Oper} {a : Act} {K : Act → World → Prop} {Q : Exit → Act → World → Prop} {E' : Prop} {W : World}
    (hgd : o.guard = none) (S X : Operand) (ho : o.op = .call { callee := .builtin .append, args := #[S, X], argTypes := #[t, t] })
    {base : Nat} {A : Option Addr} {n c : Nat} {l : List α} (hs : a.eval S = .slice A n c) (hown : Owned e s E W base A n c l) {B : Option Addr} {m d : Nat} {l2 : List α} (hx : a.eval X = .slice B m d) (hr : Recs e s W B l2) (hm : l2.length = m)
    (hn : n + m ≤ 16777216) (hby : bytes ≤ 4096) (hbase : base ≤ W.heap.size)
    (h : ∀ A' c' w', Owned e s E w' base A' (n + m) c' (l ++ l2) → W.grownBy w' (Value.slice A n c).ownBlock → (∀ k, (Value.slice A' (n + m) c').ownBlock = some k → (Value.slice A n c).ownBlock = some k ∨ W.heap.size ≤ k) → K (a.put o.dst (.slice A' (n + m) c')) w') :
    if Region.wanted o (yielded ops a.tmps) = true then Oper.wp P o a W K Q else E' := by
  have hw : Region.wanted o (yielded ops a.tmps) = true := by simp [Region.wanted, hgd]
  rw [if_pos hw]
  exact wp_append_recs he h1 S X ho hs hown hx hr hm hn hby hbase h
theorem grown_base {w w' : World} {v : Value} {base : Nat} (hg : w.grownBy w' v.ownBlock) (hb : base ≤ w.heap.size) (hr : ∀ k, v.ownBlock = some k → base ≤ k) : Below base w w' := (Below.refl _ _).grown hg hb fun k hk => hr k hk
theorem lit_app {w w' : World} {o : Obj} {n c : Nat} (hg : (w.alloc o).grownBy w' (Value.slice (some ⟨w.heap.size, 0, none⟩) n c).ownBlock) : Below w.heap.size w w' :=
  ((Below.refl _ _).alloc (Nat.le_refl _) _).trans (grown_base hg (by simp) (fun k hk => by injection hk with hk; dsimp only at hk; omega))
theorem Recs.alloc {α : Type} {e : α → List Value} {s : Nat} {w : World} {A : Option Addr} {l : List α} (h : Recs e s w A l) (o : Obj) : Recs e s (w.alloc o) A l := h.up ((Below.refl _ _).alloc (Nat.le_refl _) o)
/-- Two rows of different element types lie in different blocks. -/
theorem Owned.ne {α β : Type} {e : α → List Value} {s : Nat} {E : TypeId} {e' : β → List Value} {s' : Nat} {E' : TypeId} {w : World} {base base' : Nat} {A B : Option Addr} {n c m d : Nat} {l : List α} {l' : List β}
    (h : Owned e s E w base A n c l) (h' : Owned e' s' E' w base' B m d l') (hE : E ≠ E') : ∀ k, (Value.slice A n c).ownBlock = some k → (Value.slice B m d).ownBlock ≠ some k := by
  intro k hk hk'
  rcases h.2.2.2 with ⟨hv, _⟩ | ⟨g, cap, cur, hv, _, hh, _⟩
  · rw [hv] at hk; cases hk
  · rcases h'.2.2.2 with ⟨hv', _⟩ | ⟨g', cap', cur', hv', _, hh', _⟩
    · rw [hv'] at hk'; cases hk'
    · rw [hv] at hk; rw [hv'] at hk'
      injection hk with hk; injection hk' with hk'
      dsimp only at hk hk'
      subst hk; subst hk'
      rw [hh] at hh'
      injection hh' with hh'
      injection hh' with _ e2 _
      exact hE e2
/-- A list of rows of the call's own: the heads' row, and each head's row. -/
structure LT {α : Type} (e : α → List Value) (s : Nat) (E F : TypeId) (vs : List Hd) (w : World) (base : Nat) (A : Option Addr) (n c : Nat) (T : List (List α)) : Prop where
  len : T.length = n
  top : Owned slcE 1 F w base A n c vs
  row : ∀ (k : Nat) (v : Hd) (r : List α), vs[k]? = some v → T[k]? = some r → Owned e s E w base v.1 v.2.1 v.2.2 r
section
variable {α : Type} {e : α → List Value} {s : Nat} {E F : TypeId} {vs us : List Hd} {w w' : World} {base : Nat} {A : Option Addr} {n c : Nat} {T : List (List α)}
theorem LT.nil (w : World) (base : Nat) : LT e s E F [] w base none 0 0 ([] : List (List α)) := ⟨rfl, Owned.nil slcE_len _ _ _, fun k v r hv _ => by simp at hv⟩
theorem LT.up (h : LT e s E F vs w base A n c T) (hb : Below w.heap.size w w') : LT e s E F vs w' base A n c T := ⟨h.len, h.top.up hb, fun k v r hv hr => (h.row k v r hv hr).up hb⟩
theorem LT.base_le {base' : Nat} (h : LT e s E F vs w base A n c T) (hb : base' ≤ base) : LT e s E F vs w base' A n c T := ⟨h.len, h.top.base_le hb, fun k v r hv hr => (h.row k v r hv hr).base_le hb⟩
theorem LT.alloc (h : LT e s E F vs w base A n c T) (o : Obj) : LT e s E F vs (w.alloc o) base A n c T := h.up ((Below.refl _ _).alloc (Nat.le_refl _) o)
theorem LT.vlen (h : LT e s E F vs w base A n c T) : vs.length = T.length := by rw [h.top.len, h.len]
/-- One head is appended. -/
theorem LT.add {A' : Option Addr} {c' : Nat} {v : Hd} {r : List α} (h : LT e s E F vs w base A n c T) (hEF : E ≠ F) (hr : Owned e s E w base v.1 v.2.1 v.2.2 r) (ho : Owned slcE 1 F w' base A' (n + 1) c' (vs ++ [v])) (hg : w.grownBy w' (Value.slice A n c).ownBlock) :
    LT e s E F (vs ++ [v]) w' base A' (n + 1) c' (T ++ [r]) := by
  have hne : ∀ {v : Hd} {r : List α}, Owned e s E w base v.1 v.2.1 v.2.2 r → Owned e s E w' base v.1 v.2.1 v.2.2 r := fun hq => hq.kept hg fun k hk e2 => hq.ne h.top hEF k hk e2
  refine ⟨by rw [List.length_append, h.len]; rfl, ho, fun k u q hu hq => ?_⟩
  rw [List.getElem?_append] at hu hq
  by_cases hk : k < vs.length
  · rw [if_pos hk] at hu
    rw [if_pos (by rw [← h.vlen]; exact hk)] at hq
    exact hne (h.row k u q hu hq)
  · rw [if_neg hk] at hu
    rw [if_neg (by rw [← h.vlen]; exact hk)] at hq
    have hk0 : k - vs.length = 0 := by
      have := (List.getElem?_eq_some_iff.1 hu).1
      simp at this; omega
    rw [hk0] at hu
    rw [← h.vlen, hk0] at hq
    simp at hu hq
    subst hu hq
    exact hne hr
/-- The heads of another list are appended. -/
theorem LT.join {A' B : Option Addr} {c' m d : Nat} {T' : List (List α)} (h : LT e s E F vs w base A n c T) (hEF : E ≠ F) (h' : LT e s E F us w base B m d T') (ho : Owned slcE 1 F w' base A' (n + m) c' (vs ++ us)) (hg : w.grownBy w' (Value.slice A n c).ownBlock) :
    LT e s E F (vs ++ us) w' base A' (n + m) c' (T ++ T') := by
  have hne : ∀ {v : Hd} {r : List α}, Owned e s E w base v.1 v.2.1 v.2.2 r → Owned e s E w' base v.1 v.2.1 v.2.2 r := fun hq => hq.kept hg fun k hk e2 => hq.ne h.top hEF k hk e2
  refine ⟨by rw [List.length_append, h.len, h'.len], ho, fun k u q hu hq => ?_⟩
  rw [List.getElem?_append] at hu hq
  by_cases hk : k < vs.length
  · rw [if_pos hk] at hu
    rw [if_pos (by rw [← h.vlen]; exact hk)] at hq
    exact hne (h.row k u q hu hq)
  · rw [if_neg hk] at hu
    rw [if_neg (by rw [← h.vlen]; exact hk)] at hq
    rw [← h.vlen] at hq
    exact hne (h'.row _ u q hu hq)
/-- Row k, as it is read. -/
theorem LT.at_ (h : LT e s E F vs w base A n c T) {k : Nat} (hk : k < n) : ∃ b off v r, A = some ⟨b, off, none⟩ ∧ b < w.heap.size ∧ T[k]? = some r ∧ vs[k]? = some v ∧ w.cell? ⟨b, off + k, none⟩ = some (.slice v.1 r.length v.2.2) ∧ Owned e s E w base v.1 r.length v.2.2 r := by
  obtain ⟨b, off, v, hA, hb, hv, hc⟩ := h.top.recs.at_slc (k := k) (by rw [h.top.len]; exact hk)
  obtain ⟨r, hr⟩ := some_of_lt (l := T) (k := k) (by rw [h.len]; exact hk)
  have ho := h.row k v r hv hr
  have hl := ho.len
  rw [← hl] at ho hc
  exact ⟨b, off, v, r, hA, hb, hr, hv, hc, ho⟩
end
end Go.Proofs.YtoheahbkopbmhaaGreat
/- The laws' own marks of []impl.Line and of impl.Proof. -/
namespace Go.Proofs.YtoheahbkopbmhaaGreat
set_option linter.unusedVariables false
set_option linter.unusedSimpArgs false
open Go.ChangeShapes Go.WideShapes Go.ChangeAt Go.RowKit Go.Deep
/-- The marks that line j gets. -/
def markLn (k0 : Int) (j : Nat) : Line3 := (markT (k0 + 3 * (j : Int)).toNat, k0 + 3 * (j : Int) + 1, k0 + 3 * (j : Int) + 2)
set_option maxHeartbeats 1000000 in
set_option maxRecDepth 100000 in
theorem laws_markLineS (A : Option Addr) (n c base : Nat) (l : List Line3) (k0 : Int) (w : World) (h : Owned lineE 3 55 w base A n c l) (hbase : base ≤ w.heap.size) (hz : n ≤ 16777216) (hk0 : 1 ≤ k0 ∧ k0 ≤ 1099511627776) :
    Calls Tryz.prog 34 #[.slice A n c, .int .i64 k0] w fun e w' => e = .returned (.int .i64 (k0 + 3 * (n : Int))) ∧ Owned lineE 3 55 w' base A n c ((List.range n).map (markLn k0)) ∧ w.grownBy w' (Value.slice A n c).ownBlock ∧ Below base w w' := by
  have HB := Lib.hid h
  go_in
  go_wp2
  go_loopw [5, 1] (fun p q wr => ∃ (i : Nat) (m : List Line3), i ≤ n ∧ p = .int .i64 i ∧ q = .int .i64 (k0 + 3 * (i : Int)) ∧ Hid (∀ j, j < i → m[j]? = some (markLn k0 j)) ∧ Owned lineE 3 55 wr base A n c m ∧ w.grownBy wr (Value.slice A n c).ownBlock) (fun p _ _ => n - (intOf p).toNat)
  case atStart => exact ⟨0, l, Nat.zero_le _, rfl, by simp, Lib.hid (fun j hj => absurd hj (by omega)), h, World.grownBy.refl w _⟩
  case round =>
    obtain ⟨i, m, hi, rfl, rfl, HM, ho, hg⟩ := hrel
    rename World => wr
    by_cases hlt : i < n
    · have hI : (i : Int) < (n : Int) := by omega
      obtain ⟨y, hy⟩ := some_of_lt (l := m) (k := i) (by rw [ho.len]; exact hlt)
      have HY := Lib.hid hy
      have HO0 := Lib.hid ho
      obtain ⟨k, hkk⟩ : ∃ kk : Nat, (kk : Int) = k0 + 3 * (i : Int) := ⟨(k0 + 3 * (i : Int)).toNat, by omega⟩
      have hms : Hid ((markT k, (k : Int) + 1, (k : Int) + 1 + 1) = markLn k0 i) := Lib.hid (by
        rw [markLn, ← hkk]
        have : ((k : Int)).toNat = k := rfl
        rw [this, show (k : Int) + 2 = (k : Int) + 1 + 1 by omega])
      have HKK := Lib.hid hkk
      have hkb : 0 < k ∧ k ≤ 4398046511104 := by omega
      rw [← hkk]
      clear hy ho h hkk
      go_wp2_with fail
      refine (laws_markText k _ hkb).mono ?_; rintro e w1 ⟨rfl, hb1⟩
      have HO := Lib.hid (HO0.out.up hb1)
      have hg1 := grownBy_trans hg (grown_any hb1 (Value.slice A n c).ownBlock)
      obtain ⟨g, rfl, hgb, hgs, hcell, hfz⟩ := HO.out.at_ (by omega)
      have old0 := hcell i y 0 _ HY.out rfl
      have old1 := hcell i y 1 _ HY.out rfl
      have old2 := hcell i y 2 _ HY.out rfl
      have fz0 := hfz (i * 3)
      have fz1 := hfz (i * 3 + 1)
      have fz2 := hfz (i * 3 + 2)
      simp only [Nat.add_zero] at old0
      have hil : i < m.length := by rw [HO.out.len]; exact hlt
      have p0 := HO.out.put (j := 0) (x := (markT k, y.2)) (u := .string (markT k)) HY.out (by decide) rfl
      have p1 := p0.1.put (j := 1) (x := (markT k, (k : Int) + 1, y.2.2)) (u := .int .i64 ((k : Int) + 1)) (List.getElem?_set_self hil) (by decide) rfl
      have p2 := p1.1.put (j := 2) (x := (markT k, (k : Int) + 1, (k : Int) + 1 + 1)) (u := .int .i64 ((k : Int) + 1 + 1)) (List.getElem?_set_self (by rw [List.length_set]; exact hil)) (by decide) rfl
      simp only [List.set_set, Nat.add_zero] at p0 p1 p2
      rw [hms.out] at p2
      have P2 := Lib.hid p2.1
      have PG := Lib.hid (grownBy_trans (grownBy_trans (grownBy_trans hg1 p0.2) p1.2) p2.2)
      have HM2 := Lib.hid (upto_mark HM.out hil)
      have hk3 : Hid (((k : Int) + 1 + 1 + 1) = k0 + 3 * ((i + 1 : Nat) : Int)) := Lib.hid (by have := HKK.out; omega)
      clear hcell hfz hb1 p0 p1 p2 hg hg1 HO0 HM
      go_wp2
      go_roundw
      case rel => exact ⟨i + 1, m.set i (markLn k0 i), by omega, by go_num, by rw [hk3.out], HM2, P2.out, PG.out⟩
      case measure => simp [intOf]; omega
    · have hI : ¬ (i : Int) < (n : Int) := by omega
      go_wp2
      go_ret
      obtain rfl : i = n := by omega
      have e1 : m = (List.range i).map (markLn k0) := marks_eq HM.out ho.len
      rw [e1] at ho
      exact ⟨rfl, ho, hg, (Below.refl _ _).grown hg hbase fun k hk => (HB.out.blk hk).1⟩
set_option maxHeartbeats 1000000 in
set_option maxRecDepth 100000 in
theorem laws_heldLineS (A : Option Addr) (n c : Nat) (k0 : Int) (w : World) (h : Recs lineE 3 w A ((List.range n).map (markLn k0))) (hz : n ≤ 16777216) (hk0 : 1 ≤ k0 ∧ k0 ≤ 1099511627776) :
    Calls Tryz.prog 36 #[.slice A n c, .int .i64 k0] w fun e w' => e = .returned (.int .i64 (k0 + 3 * (n : Int))) ∧ Below w.heap.size w w' := by
  go_in
  go_wp2
  go_loopw [5, 1] (fun p q wr => ∃ i : Nat, i ≤ n ∧ p = .int .i64 i ∧ q = .int .i64 (k0 + 3 * (i : Int)) ∧ Below w.heap.size w wr) (fun p _ _ => n - (intOf p).toNat)
  case atStart => exact ⟨0, Nat.zero_le _, rfl, by simp, Below.refl _ _⟩
  case round =>
    obtain ⟨i, hi, rfl, rfl, hb⟩ := hrel
    rename World => wr
    by_cases hlt : i < n
    · have hI : (i : Int) < (n : Int) := by omega
      have hx : ((List.range n).map (markLn k0))[i]? = some (markLn k0 i) := by simp [hlt]
      obtain ⟨k, hkk⟩ : ∃ kk : Nat, (kk : Int) = k0 + 3 * (i : Int) := ⟨(k0 + 3 * (i : Int)).toNat, by omega⟩
      have hms : markLn k0 i = (markT k, (k : Int) + 1, (k : Int) + 1 + 1) := by
        rw [markLn, ← hkk]
        have : ((k : Int)).toNat = k := rfl
        rw [this, show (k : Int) + 2 = (k : Int) + 1 + 1 by omega]
      rw [hms] at hx
      obtain ⟨b1, o1, rfl, hbb, hc0, hc1, hc2⟩ := (h.below hb (Nat.le_refl _)).at_3 hx
      have HKK := Lib.hid hkk
      have hkb : 0 < k ∧ k ≤ 4398046511104 := by omega
      rw [← hkk]
      dsimp only at hc0 hc1 hc2
      obtain ⟨T, hT⟩ : ∃ T, T = markT k := ⟨_, rfl⟩
      have HT := Lib.hid hT
      rw [← hT] at hc0
      have hk3 : Hid (((k : Int) + 1 + 1 + 1) = k0 + 3 * ((i + 1 : Nat) : Int)) := Lib.hid (by omega)
      clear hx h hms hkk hT
      go_wp2
      have heq : (T.toList == T.toList) = true := by simp
      go_region_held3 (fun u => u.cell? ⟨b1, o1 + i * 3, none⟩ = some (.string T) ∧ u.cell? ⟨b1, o1 + i * 3 + 1, none⟩ = some (.int .i64 ((k : Int) + 1)) ∧ u.cell? ⟨b1, o1 + i * 3 + 2, none⟩ = some (.int .i64 ((k : Int) + 1 + 1))) (first | exact ⟨by assumption, by assumption, by assumption⟩) (first | (go_at_call 55; refine (laws_markText k _ hkb).mono ?_; rw [← HT.out]; rintro e w1 ⟨rfl, hbd⟩; have hb1 := below_of_drew hbd; have d0 := (hb1.cell (p := ⟨b1, o1 + i * 3, none⟩) hbb).trans hc0; have d1 := (hb1.cell (p := ⟨b1, o1 + i * 3 + 1, none⟩) hbb).trans hc1; have d2 := (hb1.cell (p := ⟨b1, o1 + i * 3 + 2, none⟩) hbb).trans hc2))
      have hb2 := hb.trans (hb1.mono hb.size)
      clear hc0 hc1 hc2
      go_wp2
      go_roundw
      case rel => exact ⟨i + 1, by omega, by go_num, by rw [hk3.out], hb2⟩
      case measure => simp [intOf]; omega
    · have hI : ¬ (i : Int) < (n : Int) := by omega
      go_wp2
      go_ret
      obtain rfl : i = n := by omega
      exact ⟨rfl, hb⟩
set_option maxHeartbeats 1000000 in
set_option maxRecDepth 100000 in
theorem laws_markProof (A B : Option Addr) (n c m d base : Nat) (l : List ByteArray) (L : List Line3) (k0 : Int) (w : World) (h : Owned strE 1 9 w base A n c l) (g : Owned lineE 3 55 w base B m d L) (hbase : base ≤ w.heap.size) (hz : n ≤ 16777216) (hz2 : m ≤ 16777216) (hk0 : 1 ≤ k0 ∧ k0 ≤ 1000000) :
    Calls Tryz.prog 13 #[.agg #[.slice A n c, .slice B m d], .int .i64 k0] w fun e w' => e = .returned (.int .i64 (k0 + (n : Int) + 3 * (m : Int))) ∧ Owned strE 1 9 w' base A n c ((List.range n).map (markS k0)) ∧ Owned lineE 3 55 w' base B m d ((List.range m).map (markLn (k0 + (n : Int)))) ∧ Below base w w' ∧ (∀ (α : Type) (e : α → List Value) (s lo : Nat) (E : TypeId) (C : Option Addr) (q r : Nat) (V : List α), Owned e s E w lo C q r V → (∀ k, (Value.slice C q r).ownBlock = some k → (Value.slice A n c).ownBlock ≠ some k ∧ (Value.slice B m d).ownBlock ≠ some k) → Owned e s E w' lo C q r V) ∧ ∀ (p : Nat) (t : TypeId) (cs : List Value), Blk w p t cs → some p ≠ (Value.slice A n c).ownBlock → some p ≠ (Value.slice B m d).ownBlock → Blk w' p t cs := by
  have b0 : Below w.heap.size w (w.alloc (.cells #[.slice A n c, .slice B m d] 31)) := by (repeat' (first | (with_reducible exact Below.refl _ _) | (with_reducible assumption) | (with_reducible refine below_drewN ?_ _) | (with_reducible refine Below.drew ?_) | (with_reducible refine below_alloc ?_ _) | (with_reducible refine Below.alloc ?_ ?_ _) | (with_reducible refine Below.setCell ?_ ?_ _) | (with_reducible refine below_go ?_ (by with_reducible assumption)) | (with_reducible refine below_then (by with_reducible assumption) ?_ ?_) | go_size))
  have K0 := Blk.at_ w 31 [.slice A n c, .slice B m d] (b := w.heap.size) rfl
  have HO := Lib.hid (h.up b0)
  have HG := Lib.hid (g.up b0)
  have hne : Hid (∀ k, (Value.slice B m d).ownBlock = some k → (Value.slice A n c).ownBlock ≠ some k) := Lib.hid (g.ne h (by decide))
  have hra := Lib.hid h.range
  have hrb := Lib.hid g.range
  clear h g
  go_in
  go_upto_region 1 with fail
  obtain ⟨w1, hw1⟩ : ∃ u, u = w.alloc (.cells #[.slice A n c, .slice B m d] 31) := ⟨_, rfl⟩
  have hsz1 : w1.heap.size = w.heap.size + 1 := by rw [hw1]; simp
  rw [← hw1] at b0 K0 HO HG
  rw [← hw1]
  have HSZ1 := Lib.hid hsz1
  clear hw1 hsz1
  have k0_ := K0.cell 0; have k1_ := K0.cell 1
  simp only [List.getElem?_cons_zero, List.getElem?_cons_succ] at k0_ k1_
  go_wp2_with fail
  refine (laws_markStringS _ _ _ base _ _ _ HO.out (Nat.le_trans hbase b0.size) hz (by omega)).mono ?_; rintro e w2 ⟨rfl, o2, g2, hb2⟩
  have K2 := K0.grown g2 (fun e => by have := (hra.out _ e.symm).2; omega)
  have HO2 := Lib.hid o2
  have HG2 := Lib.hid (HG.out.kept g2 (fun k hk => hne.out k hk))
  have HGR2 := Lib.hid g2
  have HB2 := Lib.hid ((b0.mono hbase).trans hb2)
  clear k0_ k1_ K0 o2 g2 hb2 HO HG
  have k0_ := K2.cell 0; have k1_ := K2.cell 1
  simp only [List.getElem?_cons_zero, List.getElem?_cons_succ] at k0_ k1_
  go_wp2_with fail
  refine (laws_markLineS _ _ _ base _ _ _ HG2.out (Nat.le_trans hbase HB2.out.size) hz2 (by omega)).mono ?_; rintro e w3 ⟨rfl, o3, g3, hb3⟩
  have HO3 := Lib.hid (HO2.out.kept g3 (fun k hk e => hne.out k e hk))
  have HO4 := Lib.hid o3
  have HB3 := Lib.hid (HB2.out.trans hb3)
  have HF : Hid (∀ (α : Type) (e : α → List Value) (s lo : Nat) (E : TypeId) (C : Option Addr) (q r : Nat) (V : List α), Owned e s E w lo C q r V → (∀ k, (Value.slice C q r).ownBlock = some k → (Value.slice A n c).ownBlock ≠ some k ∧ (Value.slice B m d).ownBlock ≠ some k) → Owned e s E w3 lo C q r V) := Lib.hid (fun α e s lo E C q r V hV hn => ((hV.up b0).kept HGR2.out (fun k hk => (hn k hk).1)).kept g3 (fun k hk => (hn k hk).2))
  have HP : Hid (∀ (p : Nat) (t : TypeId) (cs : List Value), Blk w p t cs → some p ≠ (Value.slice A n c).ownBlock → some p ≠ (Value.slice B m d).ownBlock → Blk w3 p t cs) := Lib.hid (fun p t cs hp h1 h2 => ((hp.up b0).grown HGR2.out h1).grown g3 h2)
  clear o3 g3 hb3
  go_wp2
  go_ret
  exact ⟨rfl, HO3.out, HO4.out, HB3.out, HF.out, HP.out⟩
set_option maxHeartbeats 1000000 in
set_option maxRecDepth 100000 in
theorem laws_heldProof (A B : Option Addr) (n c m d : Nat) (k0 : Int) (w : World) (h : Recs strE 1 w A ((List.range n).map (markS k0))) (g : Recs lineE 3 w B ((List.range m).map (markLn (k0 + (n : Int))))) (hz : n ≤ 16777216) (hz2 : m ≤ 16777216) (hk0 : 1 ≤ k0 ∧ k0 ≤ 1000000) :
    Calls Tryz.prog 14 #[.agg #[.slice A n c, .slice B m d], .int .i64 k0] w fun e w' => e = .returned (.int .i64 (k0 + (n : Int) + 3 * (m : Int))) ∧ Below w.heap.size w w' := by
  have b0 : Below w.heap.size w (w.alloc (.cells #[.slice A n c, .slice B m d] 31)) := by (repeat' (first | (with_reducible exact Below.refl _ _) | (with_reducible assumption) | (with_reducible refine below_drewN ?_ _) | (with_reducible refine Below.drew ?_) | (with_reducible refine below_alloc ?_ _) | (with_reducible refine Below.alloc ?_ ?_ _) | (with_reducible refine Below.setCell ?_ ?_ _) | (with_reducible refine below_go ?_ (by with_reducible assumption)) | (with_reducible refine below_then (by with_reducible assumption) ?_ ?_) | go_size))
  have K0 := Blk.at_ w 31 [.slice A n c, .slice B m d] (b := w.heap.size) rfl
  have HR := Lib.hid h
  have HL := Lib.hid g
  clear h g
  have hi1 : ¬ k0 + (n : Int) < 0 := by omega
  have hi2 : ¬ k0 + (n : Int) + 3 * (m : Int) < 0 := by omega
  go_in
  go_upto_region 1 with fail
  obtain ⟨w1, hw1⟩ : ∃ u, u = w.alloc (.cells #[.slice A n c, .slice B m d] 31) := ⟨_, rfl⟩
  rw [← hw1] at b0 K0
  rw [← hw1]
  clear hw1
  have k0_ := K0.cell 0; have k1_ := K0.cell 1
  simp only [List.getElem?_cons_zero, List.getElem?_cons_succ] at k0_ k1_
  go_wp2_with fail
  refine (laws_heldStringS _ _ _ _ _ (HR.out.up b0) hz (by omega)).mono ?_; rintro e w2 ⟨rfl, hb2⟩
  have K2 := K0.up hb2
  have B2 := below_go b0 hb2
  clear k0_ k1_ K0 hb2
  have k0_ := K2.cell 0; have k1_ := K2.cell 1
  simp only [List.getElem?_cons_zero, List.getElem?_cons_succ] at k0_ k1_
  go_wp2_with fail
  refine (laws_heldLineS _ _ _ _ _ (HL.out.below B2 (Nat.le_refl _)) hz2 (by omega)).mono ?_; rintro e w3 ⟨rfl, hb3⟩
  go_wp2
  go_ret
  exact ⟨rfl, below_go B2 hb3⟩
end Go.Proofs.YtoheahbkopbmhaaGreat
/- Rows as plain functions: which texts are rows, which rows are even. -/
namespace Go.Proofs.YtoheahbkopbmhaaGreat
set_option linter.unusedVariables false
set_option linter.unusedSimpArgs false
open Go.ChangeShapes Go.WideShapes Go.ChangeAt Go.RowKit Go.Deep
def fresh (s : ByteArray) (i : Nat) (k : Nat) : Bool := !(dg s k == dg s i)
def okDig (s : ByteArray) (i : Nat) : Bool := inB (dg s i) 1 s.size && (List.range i).all (fresh s i)
def goodRow (s : ByteArray) : Bool := inB s.size 3 8 && (List.range s.size).all (okDig s)
theorem goodRow_stage {s : ByteArray} (h : inB s.size 3 8 = false) : goodRow s = false := by simp [goodRow, h]
theorem goodRow_all {s : ByteArray} (h : inB s.size 3 8 = true) : goodRow s = (List.range s.size).all (okDig s) := by simp [goodRow, h]
theorem goodRow_n {s : ByteArray} (h : goodRow s = true) : 3 ≤ s.size ∧ s.size ≤ 8 := by
  rcases hs : inB (s.size : Int) 3 8
  · rw [goodRow_stage hs] at h; cases h
  · have := inB_t hs; omega
/-! even rows -/
def tg (s : ByteArray) (i : Nat) : Nat → Bool → Bool
  | 0, b => b
  | k + 1, b => if dg s i < dg s k then !(tg s i k b) else tg s i k b
theorem tg_0 (s : ByteArray) (i : Nat) (b : Bool) : tg s i 0 b = b := rfl
theorem tg_yes {s : ByteArray} {i k : Nat} (h : PlainAid.bt s i < PlainAid.bt s k) (b : Bool) : tg s i (k + 1) b = !(tg s i k b) := by rw [tg, if_pos (by simp only [dg]; omega)]
theorem tg_no {s : ByteArray} {i k : Nat} (h : ¬ PlainAid.bt s i < PlainAid.bt s k) (b : Bool) : tg s i (k + 1) b = tg s i k b := by rw [tg, if_neg (by simp only [dg]; omega)]
def evo (s : ByteArray) : Nat → Bool
  | 0 => true
  | i + 1 => tg s i i (evo s i)
def evenRow (s : ByteArray) : Bool := evo s s.size
/-! lists of rows -/
def okRow (l : List ByteArray) (k : Nat) : Bool := goodRow (l.getD k ByteArray.empty) && ((l.getD k ByteArray.empty).size == (l.getD 0 ByteArray.empty).size)
theorem okRow_at {l : List ByteArray} {k : Nat} {x y : ByteArray} (h0 : l[0]? = some x) (h : l[k]? = some y) : okRow l k = (goodRow y && (y.size == x.size)) := by simp [okRow, List.getD, h0, h]
def goodRows (l : List ByteArray) : Bool := (List.range l.length).all (okRow l) && decide (l.length ≤ 800)
theorem goodRows_mem {l : List ByteArray} (h : goodRows l = true) : ∀ s ∈ l, goodRow s = true := by
  intro s hs
  obtain ⟨k, hk⟩ := List.getElem?_of_mem hs
  rw [goodRows, Bool.and_eq_true, List.all_eq_true] at h
  have := h.1 k (List.mem_range.2 (List.getElem?_eq_some_iff.1 hk).1)
  simp only [okRow, List.getD, hk, Option.getD_some, Bool.and_eq_true] at this
  exact this.1
theorem goodRows_len {l : List ByteArray} (h : goodRows l = true) : l.length ≤ 800 := by
  rw [goodRows, Bool.and_eq_true] at h
  exact of_decide_eq_true h.2
def signsR (l : List ByteArray) : List Bool := if goodRows l = true then l.map evenRow else []
theorem signsR_f {l : List ByteArray} (h : goodRows l = false) : signsR l = [] := by rw [signsR, if_neg (by rw [h]; simp)]
theorem signsR_t {l : List ByteArray} (h : goodRows l = true) : signsR l = l.map evenRow := by rw [signsR, if_pos h]
theorem map_take_succ {α β : Type} (f : α → β) {l : List α} {k : Nat} {y : α} (h : l[k]? = some y) : (l.map f).take (k + 1) = (l.map f).take k ++ [f y] := by
  rw [List.take_add_one, List.getElem?_map, h]; rfl
/-! the program's bits -/
def mask (s : ByteArray) : Nat → Nat
  | 0 => 0
  | k + 1 => mask s k ||| (1 <<< (dg s k - 1).toNat)
theorem mask_0 (s : ByteArray) : mask s 0 = 0 := rfl
theorem mask_bit {s : ByteArray} {i : Nat} : ∀ (k : Nat), (∀ j, j < k → 1 ≤ dg s j) → 1 ≤ dg s i → (mask s k).testBit (dg s i - 1).toNat = !(List.range k).all (fresh s i)
  | 0, _, _ => by simp [mask]
  | k + 1, h, hi => by
    have ih := mask_bit (s := s) (i := i) k (fun j hj => h j (by omega)) hi
    have hk := h k (by omega)
    rw [mask, Nat.testBit_or, ih, List.range_succ, List.all_append, Nat.one_shiftLeft, Nat.testBit_two_pow]
    have : decide ((dg s k - 1).toNat = (dg s i - 1).toNat) = !(fresh s i k) := by
      rw [Bool.eq_iff_iff]
      simp only [fresh, decide_eq_true_eq, Bool.not_not, beq_iff_eq]
      omega
    rw [this]
    simp
theorem bits_and : ∀ m : Nat, m < 256 → ∀ b : Nat, b < 8 → (bits BinOp.and IntKind.i64 ((m : Int) / 2 ^ b) 1 == 1) = Nat.testBit m b :=
  of_decide_eq_true (by kernel_rfl)
theorem bits_or : ∀ m : Nat, m < 256 → ∀ b : Nat, b < 8 → bits BinOp.or IntKind.i64 (m : Int) (wrap64 (2 ^ b)) = ((m ||| (1 <<< b) : Nat) : Int) ∧ (m ||| (1 <<< b)) < 256 :=
  of_decide_eq_true (by kernel_rfl)
end Go.Proofs.YtoheahbkopbmhaaGreat
/- Rows of bytes: what []byte(s) lays, stores into it, and the text made of it. -/
namespace Go.Proofs.YtoheahbkopbmhaaGreat
set_option linter.unusedVariables false
set_option linter.unusedSimpArgs false
open Go.ChangeShapes Go.WideShapes Go.ChangeAt Go.RowKit Go.Deep
def nums (s : ByteArray) : List Int := (List.range s.size).map (PlainAid.bt s)
theorem nums_len (s : ByteArray) : (nums s).length = s.size := by simp [nums]
theorem nums_at {s : ByteArray} {k : Nat} (h : k < s.size) : (nums s)[k]? = some (PlainAid.bt s k) := by simp [nums, h]
/-- The block g's first cells are the bytes l, and they may be written. -/
def BRow (w : World) (g : Nat) (l : List Int) : Prop :=
  g < w.heap.size ∧ (∀ (j : Nat) (z : Int), l[j]? = some z → w.cell? ⟨g, j, none⟩ = some (.int .u8 z)) ∧ ∀ j, j < l.length → w.frozen? ⟨g, j, none⟩ = false
section
variable {w w' : World} {g : Nat} {l : List Int}
theorem BRow.below {B : Nat} (h : BRow w g l) (hb : Below B w w') (hB : g < B) : BRow w' g l :=
  ⟨Nat.lt_of_lt_of_le h.1 hb.size, fun j z hz => (hb.cell (p := ⟨g, j, none⟩) hB).trans (h.2.1 j z hz), fun j hj => (hb.frozen (p := ⟨g, j, none⟩) hB).trans (h.2.2 j hj)⟩
theorem BRow.up (h : BRow w g l) (hb : Below w.heap.size w w') : BRow w' g l := h.below hb h.1
theorem BRow.drewN (h : BRow w g l) (n : Nat) : BRow (w.drewN n) g l := h.up (below_drewN (Below.refl _ _) n)
theorem BRow.set (h : BRow w g l) {k : Nat} (hk : k < l.length) (z : Int) : BRow (w.setCell ⟨g, k, none⟩ (.int .u8 z)) g (l.set k z) := by
  refine ⟨?_, fun j y hy => ?_, fun j hj => ?_⟩
  · have : (w.setCell ⟨g, k, none⟩ (.int .u8 z)).heap.size = w.heap.size := by simp [World.setCell]
    rw [this]; exact h.1
  · by_cases hjk : j = k
    · subst hjk
      rw [List.getElem?_set_self hk] at hy
      injection hy with hy
      subst hy
      exact World.cell?_setCell_same' _ _ _ (by rw [h.2.1 j _ (List.getElem?_eq_getElem hk)]; rfl)
    · rw [List.getElem?_set_ne (fun e => hjk e.symm)] at hy
      rw [World.cell?_setCell_other]
      · exact h.2.1 j y hy
      · intro e; injection e with _ e; exact hjk e.symm
  · rw [List.length_set] at hj
    rw [World.frozen?_setCell]
    exact h.2.2 j hj
/-- The text that the bytes make. -/
theorem BRow.text {P : Program} {src e dst : TypeId} (h : BRow w g l) (n c : Nat) (hn : l.length = n) (hs : P.underlying src = some (.slice e)) (he : P.underlying e = some (.int .u8)) (hd : P.underlying dst = some .string) :
    (convert src dst (.slice (some ⟨g, 0, none⟩) n c)).run P w = .ok (.string (strOfNums l)) w :=
  run_convert_bytes_arg w src e hs he g 0 n c l hn (fun i hi => by
    rw [Nat.zero_add, h.2.1 i (l.getD i 0) (by rw [List.getD, List.getElem?_eq_getElem (by omega)]; rfl)]) dst hd
end
/-- The world behind []byte(s). -/
def bytesW (w : World) (e : TypeId) (s : ByteArray) : World := w.drew.alloc (.cells (bytesRow s (grownCap w s.size 0 e)) e ((bytesRow s (grownCap w s.size 0 e)).size, (bytesRow s (grownCap w s.size 0 e)).size + 1))
theorem run_bytes {P : Program} {src dst e : TypeId} (s : ByteArray) (hs : P.underlying src = some .string) (hd : P.underlying dst = some (.slice e)) (he : P.underlying e = some (.int .u8)) :
    ∀ u : World, (convert src dst (.string s)).run P u = .ok (.slice (some ⟨u.heap.size, 0, none⟩) s.size (grownCap u s.size 0 e)) (bytesW u e s) := fun u => run_bytes_of_string u src dst e s hs hd he
theorem bytesW_below (w : World) (e : TypeId) (s : ByteArray) : Below w.heap.size w (bytesW w e s) := below_alloc (Below.drew (Below.refl _ _)) _
theorem bytesW_size (w : World) (e : TypeId) (s : ByteArray) : (bytesW w e s).heap.size = w.heap.size + 1 := by simp [bytesW]
theorem bytesW_row (w : World) (e : TypeId) (s : ByteArray) : BRow (bytesW w e s) w.heap.size (nums s) := by
  have hh : (bytesW w e s).heap[w.heap.size]? = some (.cells (bytesRow s (grownCap w s.size 0 e)) e ((bytesRow s (grownCap w s.size 0 e)).size, (bytesRow s (grownCap w s.size 0 e)).size + 1)) := by
    have := heap_alloc_new w.drew (.cells (bytesRow s (grownCap w s.size 0 e)) e ((bytesRow s (grownCap w s.size 0 e)).size, (bytesRow s (grownCap w s.size 0 e)).size + 1))
    exact this
  refine ⟨by rw [bytesW_size]; omega, fun j z hz => ?_, fun j hj => ?_⟩
  · have hj : j < s.size := by
      have := (List.getElem?_eq_some_iff.1 hz).1
      rwa [nums_len] at this
    rw [nums_at hj] at hz
    injection hz with hz
    subst hz
    have hd : j < s.data.size := hj
    simp [World.cell?, hh, bytesRow, Array.getElem?_append, hd, PlainAid.bt, hj]
    rfl
  · rw [nums_len] at hj
    have : s.size ≤ (bytesRow s (grownCap w s.size 0 e)).size := by
      simp only [bytesRow, Array.size_append, Array.size_map]
      exact Nat.le_add_right _ _
    simp [World.frozen?, hh]
    omega
/-! a fresh row of bytes -/
abbrev byteE (z : Int) : List Value := [.int .u8 z]
theorem byteE_len (z : Int) : (byteE z).length = 1 := rfl
theorem Tryz.elU8 : ElemOk Tryz.prog 86 5 (.int .u8 0) 1 1 := ⟨Tryz.underlying86, by kernel_rfl, rfl, by decide⟩
theorem BRow.of_owned {w : World} {E : TypeId} {base g n c : Nat} {l : List Int} (h : Owned byteE 1 E w base (some ⟨g, 0, none⟩) n c l) : BRow w g l := by
  have hg := h.at_own
  rcases Nat.eq_zero_or_pos n with h0 | h0
  · have hl := h.len
    subst h0
    rw [List.length_eq_zero_iff] at hl
    subst hl
    exact ⟨hg.2, fun j z hz => by simp at hz, fun j hj => absurd hj (by simp)⟩
  · obtain ⟨g', e, _, _, hc, hf⟩ := h.at_ h0
    injection e with e
    injection e with e
    subst e
    exact ⟨hg.2, fun j z hz => by have := hc j z 0 _ hz rfl; simpa using this, fun j _ => hf j⟩
/-! texts and numbers -/
theorem nums_strOf {l : List Int} (h : ∀ x ∈ l, 0 ≤ x ∧ x < 256) : nums (strOfNums l) = l := by
  have hs : (strOfNums l).size = l.length := by simp [strOfNums, ByteArray.size]
  apply List.ext_getElem (by rw [nums_len, hs])
  intro j h1 h2
  have hb := h l[j] (List.getElem_mem h2)
  have : (nums (strOfNums l))[j]? = some l[j] := by
    rw [nums_at (by rw [hs]; exact h2), PlainAid.bt, dif_pos (by rw [hs]; exact h2)]
    congr 1
    have : (strOfNums l)[j]'(by rw [hs]; exact h2) = UInt8.ofNat (l[j]).toNat := by
      show (strOfNums l).data[j]'_ = _
      simp [strOfNums]
    rw [this, UInt8.toNat_ofNat']
    omega
  rw [List.getElem?_eq_getElem h1] at this
  injection this
theorem bt_strOf {l : List Int} (h : ∀ x ∈ l, 0 ≤ x ∧ x < 256) {k : Nat} {z : Int} (hk : l[k]? = some z) : PlainAid.bt (strOfNums l) k = z := by
  have hs : (strOfNums l).size = l.length := by simp [strOfNums, ByteArray.size]
  have h1 := nums_strOf h
  have hkl := (List.getElem?_eq_some_iff.1 hk).1
  have h2 := nums_at (s := strOfNums l) (k := k) (by rw [hs]; exact hkl)
  rw [h1, hk] at h2
  injection h2 with h2
  exact h2.symm
theorem strOf_append (l m : List Int) : strOfNums l ++ strOfNums m = strOfNums (l ++ m) := by
  apply ByteArray.ext
  simp [strOfNums, ByteArray.data_append]
theorem one_byte {a : ByteArray} {j : Nat} (h : j < a.size) : a.extract j (j + 1) = strOfNums [PlainAid.bt a j] := by
  apply ByteArray.ext
  have hd : j < a.data.size := h
  rw [ByteArray.data_extract]
  apply Array.ext'
  simp [strOfNums, PlainAid.bt, h]
  have hl : j < a.data.toList.length := by simpa using hd
  rw [List.drop_eq_getElem_cons hl, List.take_succ_cons, List.take_zero, Array.getElem_toList]
  rfl
end Go.Proofs.YtoheahbkopbmhaaGreat
/- Rows that changes make, as plain functions. -/
namespace Go.Proofs.YtoheahbkopbmhaaGreat
set_option linter.unusedVariables false
set_option linter.unusedSimpArgs false
open Go.ChangeShapes Go.WideShapes Go.ChangeAt Go.RowKit Go.Deep
def roundsS (n : Nat) : ByteArray := (ByteArray.mk #[49, 50, 51, 52, 53, 54, 55, 56]).extract 0 n
def cval (l : List Int) (j : Nat) : Int := if l.contains ((j : Int) + 1) then 50 + j else if l.contains (j : Int) then 48 + j else 49 + j
def rowV (n : Nat) (l : List Int) : List Int := (List.range n).map (cval l)
theorem rowV_len (n : Nat) (l : List Int) : (rowV n l).length = n := by simp [rowV]
theorem rowV_nil : ∀ n, n < 9 → nums (roundsS n) = rowV n [] := of_decide_eq_true (by kernel_rfl)
theorem rounds_size : ∀ n, n < 9 → (roundsS n).size = n := of_decide_eq_true (by kernel_rfl)
theorem rowV_step {n p : Nat} {l : List Int} (hp : 1 ≤ p) (hn : p < n) (hl : ∀ x ∈ l, x + 2 ≤ (p : Int)) :
    rowV n (l ++ [(p : Int)]) = ((rowV n l).set (p - 1) (49 + p)).set p (48 + p) := by
  apply List.ext_getElem (by simp [rowV])
  intro j h1 h2
  simp only [rowV, List.length_map, List.length_range] at h1
  rw [List.getElem_set, List.getElem_set]
  simp only [rowV, List.getElem_map, List.getElem_range]
  have hc : ∀ x : Int, (l ++ [(p : Int)]).contains x = (l.contains x || (x == p)) := fun x => by rw [Bool.eq_iff_iff]; simp
  have hno : ∀ x : Int, (p : Int) ≤ x + 1 → l.contains x = false := fun x hx => by
    rw [Bool.eq_false_iff]
    intro h
    have := hl x (by simpa using h)
    omega
  by_cases e1 : p = j
  · subst e1
    rw [if_pos rfl, cval, hc, hc, hno _ (by omega), hno _ (by omega)]
    have a : (((p : Int) + 1) == (p : Int)) = false := beq_eq_false_iff_ne.2 (by omega)
    rw [a]
    simp
  · rw [if_neg e1]
    by_cases e2 : p - 1 = j
    · rw [if_pos e2, cval, hc]
      have a : (((j : Int) + 1) == (p : Int)) = true := beq_iff_eq.2 (by omega)
      rw [a]
      simp
      omega
    · rw [if_neg e2, cval, cval, hc, hc]
      have a : (((j : Int) + 1) == (p : Int)) = false := beq_eq_false_iff_ne.2 (by omega)
      have b : ((j : Int) == (p : Int)) = false := beq_eq_false_iff_ne.2 (by omega)
      rw [a, b, Bool.or_false, Bool.or_false]
theorem rowV_plain {n q : Nat} {l : List Int} (hn : q + 1 < n) (hl : ∀ x ∈ l, x + 2 ≤ ((q + 1 : Nat) : Int)) :
    (rowV n l)[q]? = some (49 + (q : Int)) ∧ (rowV n l)[q + 1]? = some (49 + ((q : Int) + 1)) := by
  have hno : ∀ x : Int, (q : Int) ≤ x → l.contains x = false := fun x hx => by
    rw [Bool.eq_false_iff]
    intro h
    have := hl x (by simpa using h)
    omega
  constructor
  · rw [rowV, List.getElem?_map, List.getElem?_range (by omega)]
    show some (cval l q) = _
    rw [cval, hno _ (by omega), hno _ (by omega)]
    rfl
  · rw [rowV, List.getElem?_map, List.getElem?_range (by omega)]
    show some (cval l (q + 1)) = _
    rw [cval, hno _ (by omega), hno _ (by omega)]
    rfl
def chRow (n : Nat) (c : ByteArray) : ByteArray := strOfNums (rowV n (swaps n c))
theorem strOfNums_size (l : List Int) : (strOfNums l).size = l.length := by
  simp [strOfNums, ByteArray.size]
theorem chRow_size (n : Nat) (c : ByteArray) : (chRow n c).size = n := by rw [chRow, strOfNums_size, rowV_len]
/-! the swaps' places -/
theorem sws_in (st : Int → Bool) (n : Nat) : ∀ p, ∀ x ∈ sws st n p, (p : Int) ≤ x ∧ x < n := by
  intro p
  induction p using sws.induct st n with
  | case1 p h hs ih => rw [sws_stay h hs]; intro x hx; have := ih x hx; omega
  | case2 p h hs ih =>
    rw [sws_swap h (by simpa using hs)]
    intro x hx
    rcases List.mem_cons.1 hx with rfl | hx
    · omega
    · have := ih x hx; omega
  | case3 p h => rw [sws_end h]; intro x hx; cases hx
theorem sws_far (st : Int → Bool) (n : Nat) : ∀ p, (sws st n p).Pairwise fun x y => x + 2 ≤ y := by
  intro p
  induction p using sws.induct st n with
  | case1 p h hs ih => rw [sws_stay h hs]; exact ih
  | case2 p h hs ih =>
    rw [sws_swap h (by simpa using hs), List.pairwise_cons]
    exact ⟨fun x hx => by have := sws_in st n (p + 2) x hx; omega, ih⟩
  | case3 p h => rw [sws_end h]; exact List.Pairwise.nil
/-! a row through another -/
def timesL (a b : ByteArray) : List Int := (nums b).map fun z => PlainAid.bt a (z - 49).toNat
def timesS (a b : ByteArray) : ByteArray := strOfNums (timesL a b)
theorem timesL_len (a b : ByteArray) : (timesL a b).length = b.size := by rw [timesL, List.length_map, nums_len]
theorem timesL_at {a b : ByteArray} {k : Nat} (h : k < b.size) : (timesL a b)[k]? = some (PlainAid.bt a (PlainAid.bt b k - 49).toNat) := by
  rw [timesL, List.getElem?_map, nums_at h]; rfl
def fits (a b : ByteArray) : Prop := ∀ k, k < b.size → 49 ≤ PlainAid.bt b k ∧ PlainAid.bt b k ≤ 48 + a.size
/-- The swaps before the k-th lie two places or more below it. -/
theorem take_far {l : List Int} (h : l.Pairwise fun x y => x + 2 ≤ y) {k : Nat} {y : Int} (hy : l[k]? = some y) : ∀ x ∈ l.take k, x + 2 ≤ y := by
  intro x hx
  obtain ⟨i, hi⟩ := List.getElem?_of_mem hx
  have hk := (List.getElem?_eq_some_iff.1 hy).1
  have hik : i < k := by
    have := (List.getElem?_eq_some_iff.1 hi).1
    rw [List.length_take] at this
    omega
  rw [List.getElem?_take, if_pos hik] at hi
  rw [List.pairwise_iff_getElem] at h
  have h1 := h i k (by omega) hk hik
  rw [List.getElem?_eq_getElem (by omega)] at hi
  rw [List.getElem?_eq_getElem hk] at hy
  injection hi with hi
  injection hy with hy
  rw [hi, hy] at h1
  exact h1
theorem cval_in {n j : Nat} {l : List Int} (hj : j < n) (hl : ∀ x ∈ l, ((1 : Nat) : Int) ≤ x ∧ x < n) : 49 ≤ cval l j ∧ cval l j ≤ 48 + n := by
  rw [cval]
  rcases h1 : l.contains ((j : Int) + 1)
  · rw [if_neg (by simp)]
    rcases h2 : l.contains (j : Int)
    · rw [if_neg (by simp)]; omega
    · rw [if_pos rfl]
      have := hl _ (by simpa using h2)
      omega
  · rw [if_pos rfl]
    have := hl _ (by simpa using h1)
    omega
theorem chRow_fits {a : ByteArray} (ha : a.size ≤ 8) (c : ByteArray) : fits a (chRow a.size c) := by
  intro k hk
  rw [chRow_size] at hk
  have hc : ∀ j, j < a.size → 49 ≤ cval (swaps a.size c) j ∧ cval (swaps a.size c) j ≤ 48 + (a.size : Int) := fun j hj => cval_in hj (sws_in (stays c) a.size 1)
  have h1 : ∀ x ∈ rowV a.size (swaps a.size c), 0 ≤ x ∧ x < 256 := by
    intro x hx
    simp only [rowV, List.mem_map, List.mem_range] at hx
    obtain ⟨j, hj, rfl⟩ := hx
    have := hc j hj
    omega
  have h2 : (rowV a.size (swaps a.size c))[k]? = some (cval (swaps a.size c) k) := by simp [rowV, hk]
  rw [chRow, bt_strOf h1 h2]
  exact hc k hk
def applyR (a c : ByteArray) : ByteArray := timesS a (chRow a.size c)
theorem applyR_size (a c : ByteArray) : (applyR a c).size = a.size := by rw [applyR, timesS, strOfNums_size, timesL_len, chRow_size]
/-- The row behind the first k changes. -/
def rAt (a : ByteArray) (cs : List ByteArray) : Nat → ByteArray
  | 0 => a
  | k + 1 => applyR (rAt a cs k) (cs.getD k ByteArray.empty)
theorem rAt_size (a : ByteArray) (cs : List ByteArray) : ∀ k, (rAt a cs k).size = a.size
  | 0 => rfl
  | k + 1 => by rw [rAt, applyR_size, rAt_size a cs k]
theorem rAt_succ {a : ByteArray} {cs : List ByteArray} {k : Nat} {c : ByteArray} (h : cs[k]? = some c) : rAt a cs (k + 1) = applyR (rAt a cs k) c := by
  rw [rAt, List.getD, h]; rfl
theorem rAt_take (a : ByteArray) (cs : List ByteArray) (m : Nat) : ∀ k, k ≤ m → rAt a (cs.take m) k = rAt a cs k
  | 0, _ => rfl
  | k + 1, h => by
    rw [rAt, rAt, rAt_take a cs m k (by omega), List.getD, List.getD, List.getElem?_take, if_pos (by omega)]
def rowsL (a : ByteArray) (cs : List ByteArray) (k : Nat) : List ByteArray := (List.range k).map (rAt a cs)
theorem rowsL_len (a : ByteArray) (cs : List ByteArray) (k : Nat) : (rowsL a cs k).length = k := by simp [rowsL]
theorem rowsL_succ (a : ByteArray) (cs : List ByteArray) (k : Nat) : rowsL a cs (k + 1) = rowsL a cs k ++ [rAt a cs k] := by
  rw [rowsL, List.range_succ, List.map_append]; rfl
theorem rowsL_take (a : ByteArray) (cs : List ByteArray) (m : Nat) : rowsL a (cs.take m) (m + 1) = rowsL a cs (m + 1) := by
  apply List.map_congr_left
  intro k hk
  exact rAt_take a cs m k (by have := List.mem_range.1 hk; omega)
def okFrom (n : Int) (cs : List ByteArray) : Bool := allCh n cs && (inB n 3 8 && inB cs.length 1 800)
def fromR (n : Int) (cs : List ByteArray) : List ByteArray := if okFrom n cs = true then rowsL (roundsS n.toNat) cs cs.length else []
theorem fromR_f {n : Int} {cs : List ByteArray} (h : okFrom n cs = false) : fromR n cs = [] := by rw [fromR, if_neg (by rw [h]; simp)]
theorem fromR_t {m : Nat} {cs : List ByteArray} (h : okFrom m cs = true) : fromR m cs = rowsL (roundsS m) cs cs.length := by rw [fromR, if_pos h]; rfl
end Go.Proofs.YtoheahbkopbmhaaGreat
/- The place of a row among all rows of its stage; rows of one stage are told apart by their places. -/
namespace Go.Proofs.YtoheahbkopbmhaaGreat
set_option linter.unusedVariables false
set_option linter.unusedSimpArgs false
open Go.ChangeShapes Go.WideShapes Go.ChangeAt Go.RowKit Go.Deep
def fact : Nat → Nat
  | 0 => 1
  | n + 1 => (n + 1) * fact n
theorem fact_pos : ∀ n, 0 < fact n
  | 0 => by decide
  | n + 1 => by rw [fact]; exact Nat.mul_pos (by omega) (fact_pos n)
def cnt (x : Int) (l : List Int) : Nat := l.countP fun y => decide (y < x)
theorem cnt_le (x : Int) (l : List Int) : cnt x l ≤ l.length := List.countP_le_length
theorem cnt_cons (x y : Int) (l : List Int) : cnt x (y :: l) = cnt x l + (if y < x then 1 else 0) := by
  rw [cnt, List.countP_cons, cnt]
  by_cases h : y < x <;> simp [h]
theorem cnt_mono {x y : Int} (h : x < y) : ∀ l : List Int, cnt x l ≤ cnt y l
  | [] => Nat.le_refl _
  | z :: l => by
    have := cnt_mono h l
    rw [cnt_cons, cnt_cons]
    split <;> split <;> omega
theorem cnt_lt {x y : Int} (h : x < y) : ∀ l : List Int, x ∈ l → cnt x l + 1 ≤ cnt y l
  | [], hx => by cases hx
  | z :: l, hx => by
    rw [cnt_cons, cnt_cons]
    rcases List.mem_cons.1 hx with rfl | hx
    · have := cnt_mono h l
      rw [if_neg (by omega), if_pos h]; omega
    · have := cnt_lt h l hx
      split <;> split <;> omega
def code : List Int → Nat
  | [] => 0
  | x :: r => cnt x r * fact r.length + code r
theorem code_lt : ∀ l : List Int, code l < fact l.length
  | [] => by decide
  | x :: r => by
    have h1 := code_lt r
    have h2 : (cnt x r + 1) * fact r.length ≤ (r.length + 1) * fact r.length := Nat.mul_le_mul_right _ (by have := cnt_le x r; omega)
    rw [Nat.succ_mul] at h2
    rw [code, List.length_cons, fact]
    omega
theorem code_inj : ∀ (l m : List Int), l.Perm m → code l = code m → l = m
  | [], m, h, _ => h.nil_eq
  | x :: r, [], h, _ => by have := h.length_eq; simp at this
  | x :: r, y :: q, h, e => by
    have hl : r.length = q.length := by have := h.length_eq; simpa using this
    rw [code, code, hl] at e
    have b1 := code_lt r
    have b2 := code_lt q
    rw [hl] at b1
    have ec : cnt x r = cnt y q := by
      have d1 : (cnt x r * fact q.length + code r) / fact q.length = cnt x r := by
        rw [Nat.mul_comm, Nat.mul_add_div (fact_pos _), Nat.div_eq_of_lt b1, Nat.add_zero]
      have d2 : (cnt y q * fact q.length + code q) / fact q.length = cnt y q := by
        rw [Nat.mul_comm, Nat.mul_add_div (fact_pos _), Nat.div_eq_of_lt b2, Nat.add_zero]
      rw [← d1, ← d2, e]
    have er : code r = code q := by rw [ec] at e; omega
    have px : cnt x (y :: q) = cnt x r := by
      have := h.countP_eq (fun z => decide (z < x))
      have h2 : cnt x (x :: r) = cnt x r := by rw [cnt_cons, if_neg (by omega)]; rfl
      rw [← h2]; exact this.symm
    have py : cnt y (y :: q) = cnt y q := by rw [cnt_cons, if_neg (by omega)]; rfl
    have exy : x = y := by
      rcases Int.lt_trichotomy x y with h1 | h1 | h1
      · have := cnt_lt h1 (y :: q) (h.subset (List.mem_cons_self ..)); omega
      · exact h1
      · have := cnt_lt h1 (y :: q) (List.mem_cons_self ..); omega
    subst exy
    rw [code_inj r q h.cons_inv er]
/-- Horner's way to the place. -/
def lh : Nat → List Int → Nat
  | k, [] => k
  | k, x :: r => lh (k * (r.length + 1) + cnt x r) r
theorem lh_code : ∀ (l : List Int) (k : Nat), lh k l = k * fact l.length + code l
  | [], k => by simp [lh, fact, code]
  | x :: r, k => by
    rw [lh, lh_code r, code, List.length_cons, fact, Nat.add_mul, Nat.mul_assoc]
    omega
theorem lh_le (l : List Int) (k : Nat) : k ≤ lh k l := by
  rw [lh_code]
  have := Nat.le_mul_of_pos_right k (fact_pos l.length)
  omega
def place (s : ByteArray) : Nat := code (nums s)
theorem place_lh (s : ByteArray) : place s = lh 0 (nums s) := by rw [lh_code, Nat.zero_mul, Nat.zero_add, place]
theorem place_lt (s : ByteArray) : place s < fact s.size := by have := code_lt (nums s); rwa [nums_len] at this
theorem place_rounds : ∀ n, n < 9 → place (roundsS n) = 0 := of_decide_eq_true (by kernel_rfl)
theorem nums_inj {a b : ByteArray} (h : nums a = nums b) : a = b := by
  have hs : a.size = b.size := by have := congrArg List.length h; rwa [nums_len, nums_len] at this
  apply ByteArray.ext_getElem hs
  intro i h1 h2
  have e : (nums a)[i]? = (nums b)[i]? := by rw [h]
  rw [nums_at h1, nums_at h2, PlainAid.bt, PlainAid.bt, dif_pos h1, dif_pos h2] at e
  injection e with e
  exact UInt8.toNat_inj.1 (by omega)
/-! rows as lists without repeats -/
def isRowL (l : List Int) : Prop := l.Nodup ∧ ∀ z ∈ l, 49 ≤ z ∧ z ≤ 48 + (l.length : Int)
theorem goodRow_list {s : ByteArray} (h : goodRow s = true) : isRowL (nums s) := by
  rw [goodRow, Bool.and_eq_true, List.all_eq_true] at h
  have hd : ∀ k, k < s.size → okDig s k = true := fun k hk => h.2 k (List.mem_range.2 hk)
  refine ⟨?_, fun z hz => ?_⟩
  · rw [List.nodup_iff_pairwise_ne, List.pairwise_iff_getElem]
    intro i j hi hj hij e
    rw [nums_len] at hi hj
    have h1 := nums_at hi; have h2 := nums_at hj
    rw [List.getElem?_eq_getElem (by rw [nums_len]; exact hi)] at h1
    rw [List.getElem?_eq_getElem (by rw [nums_len]; exact hj)] at h2
    injection h1 with h1; injection h2 with h2
    have hj2 := hd j hj
    rw [okDig, Bool.and_eq_true, List.all_eq_true] at hj2
    have := hj2.2 i (List.mem_range.2 hij)
    simp only [fresh, Bool.not_eq_true', beq_eq_false_iff_ne, dg] at this
    omega
  · obtain ⟨k, hk⟩ := List.getElem?_of_mem hz
    have hkl := (List.getElem?_eq_some_iff.1 hk).1
    rw [nums_len] at hkl
    rw [nums_at hkl] at hk
    injection hk with hk
    have := hd k hkl
    rw [okDig, Bool.and_eq_true] at this
    have := inB_t this.1
    rw [nums_len]
    simp only [dg] at this
    omega
theorem goodRow_of {s : ByteArray} (hn : 3 ≤ s.size ∧ s.size ≤ 8) (h : isRowL (nums s)) : goodRow s = true := by
  rw [goodRow, Bool.and_eq_true, List.all_eq_true]
  refine ⟨by rw [inB, decide_eq_true_iff]; omega, fun k hk => ?_⟩
  have hk := List.mem_range.1 hk
  rw [okDig, Bool.and_eq_true, List.all_eq_true]
  refine ⟨?_, fun j hj => ?_⟩
  · have := h.2 _ (List.mem_of_getElem? (nums_at hk))
    rw [nums_len] at this
    rw [inB, decide_eq_true_iff, dg]; omega
  · have hj := List.mem_range.1 hj
    have hp := h.1
    rw [List.nodup_iff_pairwise_ne, List.pairwise_iff_getElem] at hp
    have hne := hp j k (by rw [nums_len]; omega) (by rw [nums_len]; omega) hj
    have h1 := nums_at (s := s) (k := j) (by omega); have h2 := nums_at hk
    rw [List.getElem?_eq_getElem (by rw [nums_len]; omega)] at h1
    rw [List.getElem?_eq_getElem (by rw [nums_len]; exact hk)] at h2
    injection h1 with h1; injection h2 with h2
    simp only [fresh, Bool.not_eq_true', beq_eq_false_iff_ne, dg, ne_eq]
    omega
theorem all_of_len {α : Type} [BEq α] [LawfulBEq α] {l R : List α} (hn : l.Nodup) (hs : l ⊆ R) (hl : R.length ≤ l.length) {x : α} (hx : x ∈ R) : x ∈ l := by
  rcases Classical.em (x ∈ l) with h | h
  · exact h
  · have h2 : (x :: l).Nodup := List.nodup_cons.2 ⟨h, hn⟩
    have h3 := h2.length_le_of_subset (l₂ := R) (fun y hy => by
      rcases List.mem_cons.1 hy with rfl | hy
      · exact hx
      · exact hs hy)
    rw [List.length_cons] at h3
    omega
def rowSet (n : Nat) : List Int := (List.range n).map fun k : Nat => 49 + (k : Int)
theorem mem_rowSet {n : Nat} {z : Int} : z ∈ rowSet n ↔ 49 ≤ z ∧ z ≤ 48 + (n : Int) := by
  rw [rowSet, List.mem_map]
  constructor
  · rintro ⟨k, hk, rfl⟩
    have := List.mem_range.1 hk
    omega
  · rintro ⟨h1, h2⟩
    exact ⟨(z - 49).toNat, List.mem_range.2 (by omega), by omega⟩
theorem rowSet_len (n : Nat) : (rowSet n).length = n := by rw [rowSet, List.length_map, List.length_range]
theorem isRowL_mem {l : List Int} (h : isRowL l) {z : Int} : z ∈ l ↔ 49 ≤ z ∧ z ≤ 48 + (l.length : Int) := by
  refine ⟨h.2 z, fun hz => all_of_len (R := rowSet l.length) h.1 (fun y hy => mem_rowSet.2 (h.2 y hy)) (by rw [rowSet_len]; omega) (mem_rowSet.2 hz)⟩
theorem row_perm {l m : List Int} (h : isRowL l) (g : isRowL m) (e : l.length = m.length) : l.Perm m :=
  (List.perm_ext_iff_of_nodup h.1 g.1).2 fun z => by rw [isRowL_mem h, isRowL_mem g, e]
theorem place_inj {a b : ByteArray} (h : goodRow a = true) (g : goodRow b = true) (e : a.size = b.size) (hp : place a = place b) : a = b :=
  nums_inj (code_inj _ _ (row_perm (goodRow_list h) (goodRow_list g) (by rw [nums_len, nums_len, e])) hp)
/-! products and changes of rows are rows -/
theorem rowL_times {a b : ByteArray} (h : isRowL (nums a)) (g : isRowL (nums b)) (e : a.size = b.size) : isRowL (timesL a b) := by
  have hbt : ∀ z ∈ nums b, PlainAid.bt a (z - 49).toNat ∈ nums a ∧ (z - 49).toNat < a.size := fun z hz => by
    have := g.2 z hz
    rw [nums_len] at this
    exact ⟨List.mem_of_getElem? (nums_at (k := (z - 49).toNat) (by omega)), by omega⟩
  refine ⟨?_, fun z hz => ?_⟩
  · rw [timesL, List.nodup_iff_pairwise_ne, List.pairwise_map]
    have hp := g.1
    rw [List.nodup_iff_pairwise_ne] at hp
    refine hp.imp_of_mem fun {x y} hx hy hne he => hne ?_
    have h1 := hbt x hx; have h2 := hbt y hy
    have h3 := h.1
    rw [List.nodup_iff_pairwise_ne, List.pairwise_iff_getElem] at h3
    have bx := g.2 x hx; have by' := g.2 y hy
    have at1 := nums_at h1.2; have at2 := nums_at h2.2
    rw [List.getElem?_eq_getElem (by rw [nums_len]; exact h1.2)] at at1
    rw [List.getElem?_eq_getElem (by rw [nums_len]; exact h2.2)] at at2
    injection at1 with at1; injection at2 with at2
    rcases Nat.lt_trichotomy (x - 49).toNat (y - 49).toNat with q | q | q
    · exact absurd (by rw [at1, at2]; exact he) (h3 _ _ (by rw [nums_len]; exact h1.2) (by rw [nums_len]; exact h2.2) q)
    · omega
    · exact absurd (by rw [at1, at2]; exact he.symm) (h3 _ _ (by rw [nums_len]; exact h2.2) (by rw [nums_len]; exact h1.2) q)
  · rw [timesL, List.mem_map] at hz
    obtain ⟨x, hx, rfl⟩ := hz
    have := h.2 _ (hbt x hx).1
    rw [timesL_len, ← e]
    rw [nums_len] at this
    exact this
theorem rowL_bytes {l : List Int} (h : isRowL l) (hl : l.length ≤ 8) : ∀ x ∈ l, 0 ≤ x ∧ x < 256 := fun x hx => by have := h.2 x hx; omega
theorem good_times {a b : ByteArray} (h : goodRow a = true) (g : goodRow b = true) (e : a.size = b.size) : goodRow (timesS a b) = true := by
  have hn := goodRow_n h
  have hr := rowL_times (goodRow_list h) (goodRow_list g) e
  have hl : (timesL a b).length ≤ 8 := by rw [timesL_len]; omega
  exact goodRow_of (by rw [timesS, strOfNums_size, timesL_len]; omega) (by rw [timesS, nums_strOf (rowL_bytes hr hl)]; exact hr)
theorem cval_ne {l : List Int} (hl : ∀ x ∈ l, x + 1 ∉ l) {i j : Nat} (h : i < j) : cval l i ≠ cval l j := by
  intro e
  have a1 : l.contains ((i : Int) + 1) = true → l.contains ((i : Int) + 2) = false := fun q => by
    rcases q2 : l.contains ((i : Int) + 2)
    · rfl
    · exact absurd (show (i : Int) + 1 + 1 ∈ l by rw [show (i : Int) + 1 + 1 = (i : Int) + 2 by omega]; simpa using q2) (hl _ (by simpa using q))
  have a2 : l.contains ((i : Int) + 1) = true → l.contains (i : Int) = false := fun q => by
    rcases q2 : l.contains (i : Int)
    · rfl
    · exact absurd (show (i : Int) + 1 ∈ l by simpa using q) (hl _ (by simpa using q2))
  have a3 : l.contains ((j : Int) + 1) = true → l.contains (j : Int) = false := fun q => by
    rcases q2 : l.contains (j : Int)
    · rfl
    · exact absurd (show (j : Int) + 1 ∈ l by simpa using q) (hl _ (by simpa using q2))
  rw [cval, cval] at e
  by_cases e1 : j = i + 1
  · subst e1
    rw [show ((i + 1 : Nat) : Int) + 1 = (i : Int) + 2 by omega, show ((i + 1 : Nat) : Int) = (i : Int) + 1 by omega] at e
    rcases q1 : l.contains ((i : Int) + 1)
    · rw [q1] at e
      rcases q2 : l.contains ((i : Int) + 2) <;> rcases q3 : l.contains (i : Int) <;> rw [q2, q3] at e <;> simp at e <;> omega
    · rw [q1, a1 q1] at e
      simp at e; omega
  · by_cases e2 : j = i + 2
    · subst e2
      rw [show ((i + 2 : Nat) : Int) + 1 = (i : Int) + 3 by omega, show ((i + 2 : Nat) : Int) = (i : Int) + 2 by omega] at e
      rcases q1 : l.contains ((i : Int) + 1)
      · rw [q1] at e
        rcases q2 : l.contains ((i : Int) + 2) <;> rcases q3 : l.contains (i : Int) <;> rcases q4 : l.contains ((i : Int) + 3) <;> rw [q2, q3, q4] at e <;> simp at e <;> omega
      · rw [q1, a1 q1] at e
        rcases q4 : l.contains ((i : Int) + 3) <;> rw [q4] at e <;> simp at e <;> omega
    · rcases q1 : l.contains ((i : Int) + 1) <;> rcases q2 : l.contains ((j : Int) + 1) <;> rcases q3 : l.contains (i : Int) <;> rcases q4 : l.contains (j : Int) <;> rw [q1, q2, q3, q4] at e <;> simp at e <;> omega
theorem far_next {l : List Int} (h : l.Pairwise fun x y => x + 2 ≤ y) : ∀ x ∈ l, x + 1 ∉ l := by
  intro x hx hy
  obtain ⟨i, hi⟩ := List.getElem?_of_mem hx
  obtain ⟨j, hj⟩ := List.getElem?_of_mem hy
  rw [List.pairwise_iff_getElem] at h
  have hil := (List.getElem?_eq_some_iff.1 hi).1
  have hjl := (List.getElem?_eq_some_iff.1 hj).1
  rw [List.getElem?_eq_getElem hil] at hi
  rw [List.getElem?_eq_getElem hjl] at hj
  injection hi with hi; injection hj with hj
  rcases Nat.lt_trichotomy i j with q | q | q
  · have := h i j hil hjl q; omega
  · subst q; omega
  · have := h j i hjl hil q; omega
theorem rowL_ch (n : Nat) (c : ByteArray) : isRowL (rowV n (swaps n c)) := by
  have hf := far_next (sws_far (stays c) n 1)
  refine ⟨?_, fun z hz => ?_⟩
  · rw [List.nodup_iff_pairwise_ne, List.pairwise_iff_getElem]
    intro i j hi hj hij
    simp only [rowV, List.getElem_map, List.getElem_range]
    exact cval_ne hf hij
  · rw [rowV, List.mem_map] at hz
    obtain ⟨j, hj, rfl⟩ := hz
    have := cval_in (n := n) (List.mem_range.1 hj) (sws_in (stays c) n 1)
    rw [rowV_len]; exact this
theorem good_ch {n : Nat} (hn : 3 ≤ n ∧ n ≤ 8) (c : ByteArray) : goodRow (chRow n c) = true := by
  have hr := rowL_ch n c
  refine goodRow_of (by rw [chRow_size]; exact hn) ?_
  rw [chRow, nums_strOf (rowL_bytes hr (by rw [rowV_len]; omega))]
  exact hr
theorem good_apply {a : ByteArray} (h : goodRow a = true) (c : ByteArray) : goodRow (applyR a c) = true :=
  good_times h (good_ch (goodRow_n h) c) (chRow_size _ _).symm
theorem good_rounds : ∀ n, n < 9 → 3 ≤ n → goodRow (roundsS n) = true := of_decide_eq_true (by kernel_rfl)
end Go.Proofs.YtoheahbkopbmhaaGreat
