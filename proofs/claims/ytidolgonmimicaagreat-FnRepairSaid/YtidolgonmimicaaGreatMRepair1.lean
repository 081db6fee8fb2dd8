/- Texts 1 of 6 that the claim leans on: plain laws and the walks' contracts, in order. -/
import Derived.WalkKit
import Derived.ProofKit
import Derived.OpenShut
import Derived.Handy
import Derived.Lib.Hide
import Derived.Deep.LoopGhost
import Derived.Deep.OwnRows
import Derived.Laws.OwnMore
import Derived.Deep.Draws
import Derived.Deep.QuietTactic
import Derived.BigQuiet
import Derived.Deep.RegionWith
import Derived.WalkSpells
import Derived.WalkLawsBesides
import Derived.Deep.Slices
import Derived.Deep.Fields
import Derived.ChangeSame
import Derived.Test.YtidolgonmimicaaGreatRows
import Derived.Lib.SmallJoins
import Derived.SliceStrings
import Derived.JoinedCond
import Derived.SizedLaws
import Derived.Deep.RegionHeld3
import Derived.PlainAid
import Derived.Laws.BytesArg
import Derived.Deep.AppendLies
import Derived.StillTailTactics
import Derived.Laws.Bits64b
import Derived.Maps.AppendAt
import Derived.Maps.OwnSet
import Derived.Maps.Views
import Derived.WideKeyPair
import Derived.DeepKeys4
set_option linter.unusedVariables false
set_option linter.unusedSimpArgs false
namespace Go.Proofs.YtidolgonmimicaaGreat
theorem takeH {P : Program} {ops : Array Oper} {Q : Exit → Act → World → Prop} {md : Region.Mode} {S : World → Prop} (i d : Nat) {op : Op} {type : TypeId} {pos : String} {after : Array Edge} {guard : Option (Nat × Bool)} {v : Value} {fuel : Nat} {listed : Array Bool} {a : Act} {w : World} (hi : ops[i]? = some { dst := some d, op := op, type := type, pos := pos, after := after, guard := guard })
    (hs : Region.noSelect ops = true) (hf : Region.free md ops listed i = true) (hr : (Region.ready md ops listed).contains i = true)
    (hQ : ∀ c a w, Q (.panic c) (a.put (some d) v) w → Q (.panic c) a w) (hy : YieldsIf P ops S { dst := some d, op := op, type := type, pos := pos, after := after, guard := guard } v a) (hS : S w)
    (h : wpAnyH P md ops Q S fuel (listed.setIfInBounds i true) (a.put (some d) v) w) : wpAnyH P md ops Q S (fuel + 1) listed a w := wpAnyH_take hi hs hf hr hQ hy hS h
end Go.Proofs.YtidolgonmimicaaGreat
namespace Go.Proofs.YtidolgonmimicaaGreat
open Go.ChangeShapes Go.WideShapes Go.ChangeAt Go.RowKit Go.Deep
def I64 (x : Int) : Prop := -9223372036854775808 ≤ x ∧ x ≤ 9223372036854775807
theorem below_drewN {B : Nat} {a w : World} (h : Below B a w) (n : Nat) : Below B a (w.drewN n) := ⟨h.os, h.tape, h.output, h.size, h.block⟩
theorem below_then {B : Nat} {a W w1 : World} (h1 : Below W.heap.size W w1) (h0 : Below B a W) (hB : B ≤ W.heap.size) : Below B a w1 := h0.trans (h1.mono hB)
theorem below_alloc {a W : World} (h0 : Below a.heap.size a W) (o : Obj) : Below a.heap.size a (W.alloc o) := h0.alloc h0.size o
theorem below_go {a W w1 : World} (h0 : Below a.heap.size a W) (h1 : Below W.heap.size W w1) : Below a.heap.size a w1 := h0.trans (h1.mono h0.size)
def Box (w : World) (b : Nat) (cs : List Value) : Prop := ∀ i v, cs[i]? = some v → w.cell? ⟨b, i, none⟩ = some v
theorem Box.new (w : World) (cs : List Value) (t : TypeId) : Box (w.alloc (.cells ⟨cs⟩ t)) w.heap.size cs := fun i v h => by
 have := cell_of_row (w.alloc (.cells ⟨cs⟩ t)) w.heap.size i ⟨cs⟩ t (0, 0) (heap_alloc_new w _)
 rw [this]
 simpa using h
theorem Box.at_ (w : World) (cs : List Value) (t : TypeId) {b : Nat} (h : b = w.heap.size) : Box (w.alloc (.cells ⟨cs⟩ t)) b cs := by subst h; exact Box.new w cs t
theorem Box.up {w w1 : World} {b : Nat} {cs : List Value} (h : Box w b cs) (hb : Below w.heap.size w w1) : Box w1 b cs := fun i v hv => by
 have h1 := h i v hv
 exact (hb.cell (World.block_lt_of_cell? w _ h1)).trans h1
theorem Box.alloc {w : World} {b : Nat} {cs : List Value} (h : Box w b cs) (o : Obj) : Box (w.alloc o) b cs := h.up ((Below.refl _ _).alloc (Nat.le_refl _) _)
theorem Box.below {B : Nat} {w w1 : World} {b : Nat} {cs : List Value} (h : Box w b cs) (hb : Below B w w1) (hB : b < B) : Box w1 b cs := fun i v hv => (hb.cell (p := ⟨b, i, none⟩) hB).trans (h i v hv)
theorem Box.drewN {w : World} {b : Nat} {cs : List Value} (h : Box w b cs) (n : Nat) : Box (w.drewN n) b cs := h
def Blk (w : World) (g : Nat) (t : TypeId) (cs : List Value) : Prop := w.heap[g]? = some (.cells ⟨cs⟩ t (0, 0))
section
variable {w w' : World} {g : Nat} {t : TypeId} {cs : List Value}
theorem Blk.lt (h : Blk w g t cs) : g < w.heap.size := (Array.getElem?_eq_some_iff.1 h).1
theorem Blk.cell (h : Blk w g t cs) (i : Nat) : w.cell? ⟨g, i, none⟩ = cs[i]? := by
 have := cell_of_row w g i ⟨cs⟩ t (0, 0) h
 rw [this]; simp
theorem Blk.frozen (h : Blk w g t cs) (i : Nat) : w.frozen? ⟨g, i, none⟩ = false := by
 unfold Blk at h
 simp [World.frozen?, h]
theorem Blk.at_ (w : World) (t : TypeId) (cs : List Value) {b : Nat} (h : b = w.heap.size) : Blk (w.alloc (.cells ⟨cs⟩ t)) b t cs := by subst h; exact heap_alloc_new w _
theorem Blk.up (h : Blk w g t cs) (hb : Below w.heap.size w w') : Blk w' g t cs := (hb.block g h.lt).trans h
theorem Blk.below {B : Nat} (h : Blk w g t cs) (hb : Below B w w') (hg : g < B) : Blk w' g t cs := (hb.block g hg).trans h
theorem Blk.alloc (h : Blk w g t cs) (o : Obj) : Blk (w.alloc o) g t cs := h.up ((Below.refl _ _).alloc (Nat.le_refl _) o)
theorem Blk.drewN (h : Blk w g t cs) (n : Nat) : Blk (w.drewN n) g t cs := h
theorem Blk.set_ (h : Blk w g t cs) (i : Nat) (u : Value) : Blk (w.setCell ⟨g, i, none⟩ u) g t (cs.set i u) := by
 unfold Blk at h ⊢
 simp [World.setCell, Array.getElem?_modify, h]
theorem Blk.far (h : Blk w g t cs) {p : Addr} (hp : g ≠ p.block) (u : Value) : Blk (w.setCell p u) g t cs := (Below.heap_setCell w p u g hp).trans h
theorem Blk.grown {row : Option Nat} (h : Blk w g t cs) (hb : w.grownBy w' row) (hg : some g ≠ row) : Blk w' g t cs := (hb.block g h.lt hg).trans h
end
def Rd (w : World) (A : Option Addr) (size n : Nat) (xs : List Value) : Prop :=
 xs.length = n * size ∧ (0 < n → ∃ b off, A = some ⟨b, off, none⟩ ∧ b < w.heap.size ∧ ∀ j u, xs[j]? = some u → w.cell? ⟨b, off + j, none⟩ = some u)
section
variable {w w' : World} {size n : Nat} {A : Option Addr} {xs : List Value}
theorem Rd.none_ (w : World) (A : Option Addr) (size : Nat) : Rd w A size 0 [] := ⟨by simp, fun h => absurd h (by omega)⟩
theorem Rd.below {B : Nat} (h : Rd w A size n xs) (hb : Below B w w') (hB : w.heap.size ≤ B) : Rd w' A size n xs :=
 ⟨h.1, fun hn => by
  obtain ⟨b, off, e, hlt, hc⟩ := h.2 hn
  exact ⟨b, off, e, Nat.lt_of_lt_of_le hlt hb.size, fun j u hu => (hb.cell (p := ⟨b, off + j, none⟩) (by show b < B; omega)).trans (hc j u hu)⟩⟩
theorem Rd.up (h : Rd w A size n xs) (hb : Below w.heap.size w w') : Rd w' A size n xs := h.below hb (Nat.le_refl _)
theorem Rd.at1 {k : Nat} (h : Rd w A 1 n xs) (hk : k < n) : ∃ b off u, A = some ⟨b, off, none⟩ ∧ b < w.heap.size ∧ xs[k]? = some u ∧ w.cell? ⟨b, off + k, none⟩ = some u := by
 obtain ⟨b, off, e, hb, hc⟩ := h.2 (by omega)
 have hl : k < xs.length := by have := h.1; omega
 exact ⟨b, off, xs[k], e, hb, List.getElem?_eq_getElem hl, hc k _ (List.getElem?_eq_getElem hl)⟩
theorem Rd.of_row {b : Nat} {t : TypeId} {f : Nat → Value} (h : w.rowIs b t (n * size) f) (hl : xs.length = n * size) (hf : ∀ j, j < n * size → f j = xs.getD j undef) : Rd w (some ⟨b, 0, none⟩) size n xs := by
 refine ⟨hl, fun _ => ⟨b, 0, rfl, h.lt, fun j u hu => ?_⟩⟩
 have hj : j < n * size := by
  have := (List.getElem?_eq_some_iff.1 hu).1
  omega
 have := h.cell hj
 rw [hf j hj] at this
 rw [Nat.zero_add, this]
 simp [List.getD, hu]
theorem Rd.of_own {base : Nat} {e : TypeId} {c : Nat} (h : w.ownsRow base e size (.slice A n c) n xs) : Rd w A size n xs := by
 refine ⟨h.1, fun hn => ?_⟩
 rcases h.2 with ⟨_, h0⟩ | ⟨g, cap, cur, hv, hg, hh, hnc, hcap, hsz, htake⟩
 ·omega
 ·have hA : A = some ⟨g, 0, none⟩ := by injection hv
  subst hA
  refine ⟨g, 0, rfl, ?_, fun j u hu => ?_⟩
  ·exact (Array.getElem?_eq_some_iff.1 hh).1
  ·have := h.cells (g := g) rfl j u hu
   rwa [Go.WideShapes.add_plain] at this
end
theorem flatMap_at {α : Type} {e : α → List Value} {s : Nat} (he : ∀ x, (e x).length = s) : ∀ (l : List α) (k : Nat) (x : α) (j : Nat), l[k]? = some x → j < s → (l.flatMap e)[k * s + j]? = (e x)[j]?
 | [], k, x, j, h, _ => by simp at h
 | y :: l, 0, x, j, h, hj => by
  simp at h
  subst h
  rw [List.flatMap_cons, Nat.zero_mul, Nat.zero_add, List.getElem?_append_left (by rw [he]; exact hj)]
 | y :: l, k + 1, x, j, h, hj => by
  rw [List.flatMap_cons, List.getElem?_append_right (by rw [he, Nat.succ_mul]; omega), he]
  rw [show (k + 1) * s + j - s = k * s + j by rw [Nat.succ_mul]; omega]
  exact flatMap_at he l k x j (by simpa using h) hj
theorem flatMap_len {α : Type} {e : α → List Value} {s : Nat} (he : ∀ x, (e x).length = s) (l : List α) : (l.flatMap e).length = l.length * s := by
 induction l with
 | nil => simp
 | cons y l ih => rw [List.flatMap_cons, List.length_append, he, ih, List.length_cons, Nat.succ_mul]; omega
def Recs {α : Type} (e : α → List Value) (s : Nat) (w : World) (A : Option Addr) (l : List α) : Prop := (∀ x, (e x).length = s) ∧ Rd w A s l.length (l.flatMap e)
section
variable {α : Type} {e : α → List Value} {s : Nat} {w w' : World} {A : Option Addr} {l : List α}
theorem Recs.up (h : Recs e s w A l) (hb : Below w.heap.size w w') : Recs e s w' A l := ⟨h.1, h.2.up hb⟩
theorem Recs.below {B : Nat} (h : Recs e s w A l) (hb : Below B w w') (hB : w.heap.size ≤ B) : Recs e s w' A l := ⟨h.1, h.2.below hb hB⟩
theorem Recs.cells (h : Recs e s w A l) (hn : 0 < l.length) : ∃ b off, A = some ⟨b, off, none⟩ ∧ b < w.heap.size ∧ ∀ (k : Nat) (x : α) (j : Nat) (u : Value), l[k]? = some x → (e x)[j]? = some u → w.cell? ⟨b, off + k * s + j, none⟩ = some u := by
 obtain ⟨b, off, hA, hb, hc⟩ := h.2.2 hn
 refine ⟨b, off, hA, hb, fun k x j u hk hu => ?_⟩
 have hj : j < s := by rw [← h.1 x]; exact (List.getElem?_eq_some_iff.1 hu).1
 rw [Nat.add_assoc]
 exact hc _ _ ((flatMap_at h.1 l k x j hk hj).trans hu)
theorem some_of_lt {k : Nat} (hk : k < l.length) : ∃ x, l[k]? = some x := ⟨l[k], List.getElem?_eq_getElem hk⟩
end
def intE (z : Int) : List Value := [.int .i64 z]
def strE (s : ByteArray) : List Value := [.string s]
def boolE (b : Bool) : List Value := [.bool b]
theorem intE_len (z : Int) : (intE z).length = 1 := rfl
theorem strE_len (s : ByteArray) : (strE s).length = 1 := rfl
theorem intE_one (z : Int) : ∀ u ∈ intE z, u.oneCell' = true := fun u hu => by simp [intE] at hu; subst hu; rfl
theorem strE_one (z : ByteArray) : ∀ u ∈ strE z, u.oneCell' = true := fun u hu => by simp [strE] at hu; subst hu; rfl
theorem flatMap_one {α : Type} (f : α → Value) (l : List α) : l.flatMap (fun x => [f x]) = l.map f := by
 induction l with
 | nil => rfl
 | cons y l ih => simp [ih]
abbrev Ints := Recs intE 1
abbrev Strs := Recs strE 1
abbrev Bools := Recs boolE 1
section
variable {w : World} {A : Option Addr}
theorem Recs.at_int {l : List Int} {k : Nat} (h : Ints w A l) (hk : k < l.length) : ∃ b off x, A = some ⟨b, off, none⟩ ∧ b < w.heap.size ∧ l[k]? = some x ∧ w.cell? ⟨b, off + k, none⟩ = some (.int .i64 x) := by
 obtain ⟨b, off, hA, hb, hc⟩ := h.cells (by omega)
 obtain ⟨x, hx⟩ := some_of_lt hk
 exact ⟨b, off, x, hA, hb, hx, by simpa using hc k x 0 _ hx rfl⟩
theorem Recs.at_str {l : List ByteArray} {k : Nat} (h : Strs w A l) (hk : k < l.length) : ∃ b off x, A = some ⟨b, off, none⟩ ∧ b < w.heap.size ∧ l[k]? = some x ∧ w.cell? ⟨b, off + k, none⟩ = some (.string x) := by
 obtain ⟨b, off, hA, hb, hc⟩ := h.cells (by omega)
 obtain ⟨x, hx⟩ := some_of_lt hk
 exact ⟨b, off, x, hA, hb, hx, by simpa using hc k x 0 _ hx rfl⟩
end
def Owned {α : Type} (e : α → List Value) (s : Nat) (E : TypeId) (w : World) (base : Nat) (A : Option Addr) (n c : Nat) (l : List α) : Prop :=
 (∀ x, (e x).length = s) ∧ l.length = n ∧ w.ownsRow base E s (.slice A n c) n (l.flatMap e)
theorem flatMap_set {α : Type} {e : α → List Value} {s : Nat} (he : ∀ x, (e x).length = s) {l : List α} {k j : Nat} {x y : α} {u : Value} (hk : l[k]? = some y) (hj : j < s) (hx : e x = (e y).set j u) :
  (l.flatMap e).set (k * s + j) u = (l.set k x).flatMap e := by
 have hkl : k < l.length := (List.getElem?_eq_some_iff.1 hk).1
 have hs : 0 < s := by omega
 apply List.ext_getElem?
 intro i
 by_cases hi : i < l.length * s
 ·have hdm : i / s * s + i % s = i := Nat.div_add_mod' i s
  have hq : i / s < l.length := Nat.div_lt_of_lt_mul (by rw [Nat.mul_comm]; exact hi)
  have hr := Nat.mod_lt i hs
  rw [List.getElem?_set]
  by_cases hik : i / s = k
  ·have h2 : ((l.set k x).flatMap e)[i]? = (e x)[i % s]? := by
    have := flatMap_at he (l.set k x) k x (i % s) (by rw [List.getElem?_set_self hkl]) hr
    rw [← hik, hdm] at this
    rwa [hik] at this
   rw [h2, hx, List.getElem?_set]
   have h3 : (l.flatMap e)[i]? = (e y)[i % s]? := by
    have := flatMap_at he l k y (i % s) hk hr
    rw [← hik, hdm] at this
    exact this
   by_cases hij : j = i % s
   ·rw [if_pos (by rw [hij, ← hik, hdm]), if_pos hij, if_pos (by rw [flatMap_len he, hij, ← hik, hdm]; exact hi), if_pos (by rw [he]; exact hj)]
   ·rw [if_neg (fun e1 => hij (by rw [← hik] at e1; omega)), if_neg hij, h3]
  ·have h1 : k * s + j ≠ i := fun e1 => hik (by
    rw [← e1, Nat.mul_comm, Nat.mul_add_div hs, Nat.div_eq_of_lt hj, Nat.add_zero])
   rw [if_neg h1]
   obtain ⟨z, hz⟩ : ∃ z, l[i / s]? = some z := ⟨l[i / s], List.getElem?_eq_getElem hq⟩
   have a1 := flatMap_at he l (i / s) z (i % s) hz hr
   have a2 := flatMap_at he (l.set k x) (i / s) z (i % s) (by rw [List.getElem?_set_ne (fun e1 => hik e1.symm)]; exact hz) hr
   rw [hdm] at a1 a2
   rw [a1, a2]
 ·rw [List.getElem?_eq_none (by rw [List.length_set, flatMap_len he]; omega), List.getElem?_eq_none (by rw [flatMap_len he, List.length_set]; omega)]
section
variable {α : Type} {e : α → List Value} {s : Nat} {E : TypeId} {w w' : World} {base : Nat} {A : Option Addr} {n c : Nat} {l : List α}
theorem Owned.nil (he : ∀ x, (e x).length = s) (E : TypeId) (w : World) (base : Nat) : Owned e s E w base none 0 0 ([] : List α) := ⟨he, rfl, World.ownsRow_nil _ _ _ _⟩
theorem Owned.empty (he : ∀ x, (e x).length = s) (E : TypeId) (w : World) (hb : base ≤ w.heap.size) : Owned e s E (w.alloc (.cells #[] E)) base (some ⟨w.heap.size, 0, none⟩) 0 0 ([] : List α) :=
 ⟨he, rfl, by simpa using World.ownsRow_lit (e := E) (base := base) (size := s) w #[] 0 hb (Nat.zero_le _) (by simp)⟩
theorem Owned.recs (h : Owned e s E w base A n c l) : Recs e s w A l := ⟨h.1, by rw [h.2.1]; exact Rd.of_own h.2.2⟩
theorem Owned.len (h : Owned e s E w base A n c l) : l.length = n := h.2.1
theorem Owned.blk (h : Owned e s E w base A n c l) {k : Nat} (hk : (Value.slice A n c).ownBlock = some k) : base ≤ k ∧ k < w.heap.size := h.2.2.lt k hk
theorem Owned.kept (h : Owned e s E w base A n c l) {row : Option Nat} (hg : w.grownBy w' row) (hne : ∀ k, (Value.slice A n c).ownBlock = some k → row ≠ some k) : Owned e s E w' base A n c l :=
 ⟨h.1, h.2.1, h.2.2.kept hg (by
  cases hb : (Value.slice A n c).ownBlock with
  | none => exact .inl rfl
  | some k => exact .inr (fun e => hne k hb e.symm))⟩
def InRange (v : Value) (a b : Nat) : Prop := ∀ k, v.ownBlock = some k → a ≤ k ∧ k < b
theorem Owned.range (h : Owned e s E w base A n c l) : InRange (.slice A n c) base w.heap.size := fun k hk => h.blk hk
theorem InRange.ne {v v' : Value} {a b a' b' : Nat} (h : InRange v a b) (h' : InRange v' a' b') (hd : b ≤ a' ∨ b' ≤ a) : ∀ k, v.ownBlock = some k → v'.ownBlock ≠ some k := fun k hk ek => by
 have b1 := h k hk
 have b2 := h' k ek
 omega
theorem Owned.past (h : Owned e s E w base A n c l) {g : Nat} (hg : w.grownBy w' (some g)) (hlt : g < base) : Owned e s E w' base A n c l :=
 h.kept hg fun k hk e => by
  have := (h.blk hk).1
  injection e with e
  omega
theorem grown_of_below (hb : Below w.heap.size w w') : w.grownBy w' none := ⟨hb.os, hb.tape, hb.output, hb.size, fun k hk _ => hb.block k hk⟩
theorem Owned.up (h : Owned e s E w base A n c l) (hb : Below w.heap.size w w') : Owned e s E w' base A n c l := h.kept (grown_of_below hb) (fun k hk e => by cases e)
theorem Owned.alloc (h : Owned e s E w base A n c l) (o : Obj) : Owned e s E (w.alloc o) base A n c l := h.up ((Below.refl _ _).alloc (Nat.le_refl _) o)
theorem Owned.drewN (h : Owned e s E w base A n c l) (k : Nat) : Owned e s E (w.drewN k) base A n c l := h.up (below_drewN (Below.refl _ _) k)
theorem Owned.base_le {base' : Nat} (h : Owned e s E w base A n c l) (hb : base' ≤ base) : Owned e s E w base' A n c l := by
 refine ⟨h.1, h.2.1, h.2.2.1, ?_⟩
 rcases h.2.2.2 with h0 | ⟨g, cap, cur, hv, hg, r⟩
 ·exact .inl h0
 ·exact .inr ⟨g, cap, cur, hv, Nat.le_trans hb hg, r⟩
theorem Owned.of_row {v : Value} {xs : List Value} (he : ∀ x, (e x).length = s) (h : w.ownsRow base E s v n xs) (hx : xs = l.flatMap e) (hl : l.length = n) : ∃ A c, v = .slice A n c ∧ Owned e s E w base A n c l := by
 subst hx
 rcases h.2 with ⟨rfl, h0⟩ | ⟨g, cap, cur, rfl, hg, r⟩
 ·subst h0
  exact ⟨none, 0, rfl, he, hl, h⟩
 ·exact ⟨some ⟨g, 0, none⟩, cap, rfl, he, hl, h⟩
theorem Owned.at_ (h : Owned e s E w base A n c l) (hn : 0 < n) : ∃ g, A = some ⟨g, 0, none⟩ ∧ base ≤ g ∧ g < w.heap.size ∧ (∀ (k : Nat) (x : α) (j : Nat) (u : Value), l[k]? = some x → (e x)[j]? = some u → w.cell? ⟨g, k * s + j, none⟩ = some u) ∧ ∀ i, w.frozen? ⟨g, i, none⟩ = false := by
 rcases h.2.2.2 with ⟨_, h0⟩ | ⟨g, cap, cur, hv, hg, hh, r⟩
 ·omega
 ·injection hv with hA _ hc
  subst hA; subst hc
  refine ⟨g, rfl, hg, (Array.getElem?_eq_some_iff.1 hh).1, fun k x j u hk hu => ?_, fun i => h.2.2.frozenAt i⟩
  have hj : j < s := by rw [← h.1 x]; exact (List.getElem?_eq_some_iff.1 hu).1
  have hkl : k < l.length := (List.getElem?_eq_some_iff.1 hk).1
  have hlt : k * s + j < n * s := by
   rw [← h.2.1]
   calc k * s + j < k * s + s := by omega
    _ = (k + 1) * s := by rw [Nat.succ_mul]
    _ ≤ l.length * s := Nat.mul_le_mul_right _ hkl
  rw [h.2.2.cellAt _ hlt]
  exact (flatMap_at h.1 l k x j hk hj).trans hu
theorem Owned.at_own {g : Nat} (h : Owned e s E w base (some ⟨g, 0, none⟩) n c l) : base ≤ g ∧ g < w.heap.size := h.blk rfl
theorem Owned.put {g : Nat} (h : Owned e s E w base (some ⟨g, 0, none⟩) n c l) {k j : Nat} {x y : α} {u : Value} (hk : l[k]? = some y) (hj : j < s) (hx : e x = (e y).set j u) :
  Owned e s E (w.setCell ⟨g, k * s + j, none⟩ u) base (some ⟨g, 0, none⟩) n c (l.set k x) ∧ w.grownBy (w.setCell ⟨g, k * s + j, none⟩ u) (some g) := by
 obtain ⟨h1, h2⟩ := h.2.2.stored (k * s + j) u
 refine ⟨⟨h.1, by rw [List.length_set]; exact h.2.1, ?_⟩, h2⟩
 rw [← flatMap_set h.1 hk hj hx]
 exact h1
theorem Owned.made (he : ∀ x, (e x).length = s) (w : World) (E : TypeId) (z : α) (n : Nat) (hn : n ≤ 140737488355328) (hb : base ≤ w.heap.size) :
  Owned e s E (w.alloc (.cells (madeCells (e z).toArray (n * s)) E)) base (some ⟨w.heap.size, 0, none⟩) n n (List.replicate n z) := by
 refine ⟨he, by simp, ?_⟩
 have h := World.ownsRow_lit (e := E) (base := base) (size := s) w (madeCells (e z).toArray (n * s)) n hb (by unfold maxLen; omega) (by simp [madeCells])
 have e1 : (madeCells (e z).toArray (n * s)).toList = (List.replicate n z).flatMap e := by
  apply List.ext_getElem?
  intro i
  by_cases hi : i < n * s
  ·have hs : 0 < s := by
    rcases Nat.eq_zero_or_pos s with h | h
    ·subst h; omega
    ·exact h
   have hdm : i / s * s + i % s = i := Nat.div_add_mod' i s
   have hq : i / s < n := Nat.div_lt_of_lt_mul (by rw [Nat.mul_comm]; exact hi)
   have a1 := flatMap_at he (List.replicate n z) (i / s) z (i % s) (by simp [hq]) (Nat.mod_lt i hs)
   rw [hdm] at a1
   rw [a1]
   have hm : i % s < (e z).length := by rw [he]; exact Nat.mod_lt i hs
   simp [madeCells, hi, he, List.getElem?_eq_getElem hm]
  ·rw [List.getElem?_eq_none (by simp [madeCells]; omega), List.getElem?_eq_none (by rw [flatMap_len he]; simp; omega)]
 rw [← e1]
 exact h
end
theorem only_set (w : World) {p : Addr} (u : Value) : w.grownBy (w.setCell p u) (some p.block) :=
 ⟨rfl, rfl, rfl, by simp, fun k _ hk => Below.heap_setCell w p u k (fun e => hk (by rw [e]))⟩
structure ElemOk (P : Program) (t E : TypeId) (z : Value) (s bytes : Nat) : Prop where
 under : P.underlying t = some (.slice E)
 info : (P.info? E).map (fun i => (i.zero, i.size, i.bytes)) = some (some z, s, bytes)
 zs : z.cells.size = s
 pos : 0 < s
theorem wpList_append_rec {P : Program} {α : Type} {e : α → List Value} {s bytes : Nat} {t E : TypeId} {z : Value} (he : ElemOk P t E z s bytes) {ops : Array Oper} {rest : List Oper} {o : Oper} {a : Act} {Q : Exit → Act → World → Prop} {W : World}
  (hgd : o.guard = none) (S X : Operand) (ho : o.op = .call { callee := .builtin .append, args := #[S, X], argTypes := #[t, t] })
  {base : Nat} {A : Option Addr} {n c : Nat} {l : List α} (hs : a.eval S = .slice A n c) (hown : Owned e s E W base A n c l) (x : α) {b cx : Nat} (hx : a.eval X = .slice (some ⟨b, 0, none⟩) 1 cx)
  (hnew : Box W b (e x)) (h1 : ∀ u ∈ e x, u.oneCell' = true) (hn : n ≤ 16777216) (hby : bytes ≤ 4096) (hbase : base ≤ W.heap.size)
  (h : ∀ A' c' w', Owned e s E w' base A' (n + 1) c' (l ++ [x]) → W.grownBy w' (Value.slice A n c).ownBlock → Below base W w' → wpList P ops Q rest (a.put o.dst (.slice A' (n + 1) c')) w') :
  wpList P ops Q (o :: rest) a W := by
 obtain ⟨i0, hi, hz0, hz1, hz2⟩ := info_parts he.info
 refine wpList_append_own W hgd S X t ho base E i0 z s bytes he.under hi hz0 hz1 hz2 he.zs he.pos _ n _ hs hown.2.2 ⟨b, 0, none⟩ 1 cx (e x) hx (by rw [hown.1]; omega)
  (fun j u hu => by rw [Go.WideShapes.add_plain, Nat.zero_add]; exact hnew j u hu) h1 (by unfold maxLen; omega) ?_ hbase ?_
 ·exact Nat.le_trans (Nat.mul_le_mul (show n + 1 ≤ 16777217 by omega) hby) (by decide)
 ·intro v' w' hown' hg _
  obtain ⟨A', c', rfl, ho'⟩ := Owned.of_row (l := l ++ [x]) hown.1 hown' (by simp) (by simp [hown.2.1])
  exact h A' c' w' ho' hg ((Below.refl _ _).grown hg hbase fun k hk => (hown.blk hk).1)
theorem run_make_rec {P : Program} {α : Type} {e : α → List Value} {s bytes : Nat} {t E : TypeId} {z : Value} (he : ElemOk P t E z s bytes) (z0 : α) (hz : z.cells = (e z0).toArray) (n : Nat) (hn : n ≤ 16777216) (hby : bytes ≤ 4096) :
  ∀ u : World, (Instr.makeSlice t (.int .i64 (n : Int)) (.int .i64 (n : Int))).run P u = .ok (.slice (some ⟨u.heap.size, 0, none⟩) n n) (u.alloc (.cells (madeCells (e z0).toArray (n * s)) E)) := fun u => by
 obtain ⟨i0, hi, hz0, hz1, hz2⟩ := info_parts he.info
 have hb : (i0.bytes : Int) * (n : Int) ≤ 281474976710656 := by
  have h : i0.bytes * n ≤ 4096 * 16777216 := Nat.mul_le_mul (by omega) hn
  have h2 : ((i0.bytes * n : Nat) : Int) ≤ 281474976710656 := by omega
  rwa [Int.natCast_mul] at h2
 have h := run_make (P := P) u t E i0 z he.under hi hz0 .i64 .i64 (n : Int) (n : Int) (by omega) (Int.le_refl _) hb (by omega)
 simp only [Int.toNat_natCast, hz1, hz] at h
 exact h
theorem all_bad {p : Nat → Bool} {n k : Nat} (hk : k < n) (h : p k = false) (x : Bool) : ((List.range n).all p && x) = false := by
 have : (List.range n).all p = false := by
  rw [Bool.eq_false_iff]
  intro ha
  rw [List.all_eq_true] at ha
  rw [ha k (List.mem_range.2 hk)] at h
  cases h
 rw [this]; rfl
theorem all_good {p : Nat → Bool} {n : Nat} (h : ∀ j, j < n → p j = true) (x : Bool) : ((List.range n).all p && x) = x := by
 have : (List.range n).all p = true := List.all_eq_true.2 fun j hj => h j (List.mem_range.1 hj)
 rw [this]; rfl
theorem upto_succ {p : Nat → Prop} {k : Nat} (h : ∀ j, j < k → p j) (hk : p k) : ∀ j, j < k + 1 → p j := fun j hj => by
 rcases Nat.lt_succ_iff_lt_or_eq.1 hj with h' | rfl
 ·exact h j h'
 ·exact hk
def sumTo (f : Nat → Int) : Nat → Int
 | 0 => 0
 | k + 1 => sumTo f k + f k
theorem eq_of_upto {α : Type} {l m : List α} {k : Nat} (h : ∀ j, j < k → l[j]? = m[j]?) (h1 : l.length = k) (h2 : m.length = k) : l = m :=
 List.ext_getElem? fun j => by
  by_cases hj : j < k
  ·exact h j hj
  ·rw [List.getElem?_eq_none (by omega), List.getElem?_eq_none (by omega)]
theorem upto_set {α : Type} {l m : List α} {k : Nat} {x : α} (h : ∀ j, j < k → m[j]? = l[j]?) (hx : l[k]? = some x) (hm : k < m.length) : ∀ j, j < k + 1 → (m.set k x)[j]? = l[j]? := fun j hj => by
 by_cases e : j = k
 ·subst e
  rw [List.getElem?_set_self hm, hx]
 ·rw [List.getElem?_set_ne (fun e1 => e e1.symm)]
  exact h j (by omega)
theorem grownBy_trans {a b c : World} {row : Option Nat} (h : a.grownBy b row) (k : b.grownBy c row) : a.grownBy c row :=
 ⟨k.os.trans h.os, k.tape.trans h.tape, k.output.trans h.output, Nat.le_trans h.size k.size, fun i hi hne => (k.block i (Nat.lt_of_lt_of_le hi h.size) hne).trans (h.block i hi hne)⟩
theorem take_succ_some {α : Type} {l : List α} {k : Nat} {x : α} (h : l[k]? = some x) : l.take (k + 1) = l.take k ++ [x] := by
 rw [List.take_add_one, h]; rfl
theorem ret_bool {a b : Bool} (h : a = b) : Ending.returned (.bool a) = .returned (.bool b) := by rw [h]
end Go.Proofs.YtidolgonmimicaaGreat
namespace Go.Proofs.YtidolgonmimicaaGreat
open Go.ChangeShapes Go.WideShapes Go.ChangeAt Go.RowKit Go.Deep Go.Joins
open Go.ChangeMaps (open_string)
theorem Tryz.own : ownKnob Tryz.prog.godebug = none := by kernel_rfl
theorem Tryz.laidOut : laidOutB Tryz.prog = true := by kernel_rfl
section
variable {H : Type} {enc : TypeId × Value → H} {P : Program}
theorem trodAll_below (hl : laidOutB P = true) {W W' : World} {sp : Nat → Bool} (hb : Below W.heap.size W W') : ∀ {ts : List TypeId} {vs : List Value} {ds : List (DataW H)} {ps : List MemPlace},
  (∀ t ∈ ts, P.readableRec t = true ∧ t < P.types.size) → DataW.TrodAll enc P W 0 (fun _ => true) true ts vs ds ps → (∀ x ∈ ps, x.block < W.heap.size) → (∀ x ∈ ps, sp x.block = true) →
  DataW.TrodAll enc P W' 0 sp true ts vs ds ps
 | [], vs, ds, ps, _, h, _, _ => by
  obtain ⟨rfl, rfl, rfl⟩ := trodAll_nil h
  exact trodAll_mk0
 | t :: ts, vs, ds, ps, hr, h, hlt, hsp => by
  obtain ⟨v, vs', d, ds', p, q, rfl, rfl, rfl, h0, r0⟩ := trodAll_cons h
  have ht := hr t (by simp)
  exact trodAll_cons_mk (WideElems.Trod_stays hl ht.1 ht.2 h0 (fun x hx => hb.same (hlt x (by simp [hx]))) (fun x hx => hsp x (by simp [hx])))
   (trodAll_below hl hb (fun t' h' => hr t' (by simp [h'])) r0 (fun x hx => hlt x (by simp [hx])) (fun x hx => hsp x (by simp [hx])))
theorem law_post {f : Func} {s : ChangeSpec} {W W' : World} {args : Array Value} {ds gs : List (DataW H)} {before : List MemPlace} {tb : TypeId}
  (hl : laidOutB P = true) (hW : DataW.Whole enc P f.params.toList s.vars false W args.toList ds gs before) (hv : s.vars = []) (hr : f.resultTypes = #[tb]) (hbool : P.underlying tb = some .bool)
  (hts : ∀ t ∈ f.params.toList, P.readableRec t = true ∧ t < P.types.size)
  (hs : ∀ ds' : List (DataW H), ds'.length = f.params.toList.length → s.fn H ds' = { results := [.lit (.bool true)], args := ds' }) (hb : Below W.heap.size W W') :
  s.post enc P f false true false false W args (.bool true) W' := by
 have hW' := hW
 have hltp : ∀ x ∈ before, x.block < W.heap.size := fun x hx => hW'.lt x hx
 obtain ⟨p, q, hA, hV, hpq, _, _⟩ := hW
 rw [hv] at hV
 obtain ⟨hg, hq⟩ := trodVars_none hV
 subst hg; subst hq
 simp only [List.append_nil] at hpq
 subst hpq
 have hlen : ds.length = f.params.toList.length := by
  have : ∀ {ts : List TypeId} {vs : List Value} {ds : List (DataW H)} {ps : List MemPlace}, DataW.TrodAll enc P W 0 (fun _ => true) true ts vs ds ps → ds.length = ts.length := by
   intro ts
   induction ts with
   | nil => intro vs ds ps h; obtain ⟨rfl, rfl, rfl⟩ := trodAll_nil h; rfl
   | cons t ts ih =>
    intro vs ds ps h
    obtain ⟨v, vs', d, ds', p, q, rfl, rfl, rfl, h0, r0⟩ := trodAll_cons h
    simp [ih r0]
  exact this hA
 have e := hs (ds ++ []) (by simpa using hlen)
 refine ⟨_, _, _, [], before, [], hW', ?_, ?_, ?_, hb.frame _, fun h => by cases h⟩
 ·rw [e, hr]
  exact trodAll_cons_mk (shut_bool hbool true) trodAll_mk0
 ·rw [e]
  have := trodAll_below (sp := fun b => decide (b < W.heap.size)) hl hb hts hA hltp (fun x hx => by simpa using hltp x hx)
  simpa using this
 ·rw [e, hv]
  rfl
theorem lenOk {n c : Nat} (h : n ≤ c) (hm : c ≤ maxLen) : n ≤ 9223372036854775807 := by unfold maxLen at hm; omega
end
section
variable {H : Type} {enc : TypeId × Value → H}
end
end Go.Proofs.YtidolgonmimicaaGreat
namespace Go.Proofs.YtidolgonmimicaaGreat
open Go.ChangeShapes Go.WideShapes Go.ChangeAt Go.RowKit Go.Deep
theorem below_of_drew {w w' : World} (h : Below w.drew.heap.size w.drew w') : Below w.heap.size w w' := ⟨h.os, h.tape, h.output, h.size, h.block⟩
theorem grown_any {w w' : World} (hb : Below w.heap.size w w') (row : Option Nat) : w.grownBy w' row := ⟨hb.os, hb.tape, hb.output, hb.size, fun k hk _ => hb.block k hk⟩
theorem Recs.drew {α : Type} {e : α → List Value} {s : Nat} {w : World} {A : Option Addr} {l : List α} (h : Recs e s w A l) : Recs e s w.drew A l := h.up (Below.drew (Below.refl _ _))
theorem InRange.out {v : Value} {a b x : Nat} (h : InRange v a b) (hd : x < a ∨ b ≤ x) : some x ≠ v.ownBlock := fun e => by
 have := h x e.symm
 omega
end Go.Proofs.YtidolgonmimicaaGreat
namespace Go.Proofs.YtidolgonmimicaaGreat
open Go.ChangeShapes Go.WideShapes Go.ChangeAt Go.RowKit Go.Deep
def nums (s : ByteArray) : List Int := (List.range s.size).map (PlainAid.bt s)
theorem nums_len (s : ByteArray) : (nums s).length = s.size := by simp [nums]
theorem nums_at {s : ByteArray} {k : Nat} (h : k < s.size) : (nums s)[k]? = some (PlainAid.bt s k) := by simp [nums, h]
def BRow (w : World) (g : Nat) (l : List Int) : Prop :=
 g < w.heap.size ∧ (∀ (j : Nat) (z : Int), l[j]? = some z → w.cell? ⟨g, j, none⟩ = some (.int .u8 z)) ∧ ∀ j, j < l.length → w.frozen? ⟨g, j, none⟩ = false
section
variable {w w' : World} {g : Nat} {l : List Int}
theorem BRow.below {B : Nat} (h : BRow w g l) (hb : Below B w w') (hB : g < B) : BRow w' g l :=
 ⟨Nat.lt_of_lt_of_le h.1 hb.size, fun j z hz => (hb.cell (p := ⟨g, j, none⟩) hB).trans (h.2.1 j z hz), fun j hj => (hb.frozen (p := ⟨g, j, none⟩) hB).trans (h.2.2 j hj)⟩
theorem BRow.up (h : BRow w g l) (hb : Below w.heap.size w w') : BRow w' g l := h.below hb h.1
theorem BRow.drewN (h : BRow w g l) (n : Nat) : BRow (w.drewN n) g l := h.up (below_drewN (Below.refl _ _) n)
theorem BRow.set (h : BRow w g l) {k : Nat} (hk : k < l.length) (z : Int) : BRow (w.setCell ⟨g, k, none⟩ (.int .u8 z)) g (l.set k z) := by
 refine ⟨?_, fun j y hy => ?_, fun j hj => ?_⟩
 ·have : (w.setCell ⟨g, k, none⟩ (.int .u8 z)).heap.size = w.heap.size := by simp [World.setCell]
  rw [this]; exact h.1
 ·by_cases hjk : j = k
  ·subst hjk
   rw [List.getElem?_set_self hk] at hy
   injection hy with hy
   subst hy
   exact World.cell?_setCell_same' _ _ _ (by rw [h.2.1 j _ (List.getElem?_eq_getElem hk)]; rfl)
  ·rw [List.getElem?_set_ne (fun e => hjk e.symm)] at hy
   rw [World.cell?_setCell_other]
   ·exact h.2.1 j y hy
   ·intro e; injection e with _ e; exact hjk e.symm
 ·rw [List.length_set] at hj
  rw [World.frozen?_setCell]
  exact h.2.2 j hj
theorem BRow.text {P : Program} {src e dst : TypeId} (h : BRow w g l) (n c : Nat) (hn : l.length = n) (hs : P.underlying src = some (.slice e)) (he : P.underlying e = some (.int .u8)) (hd : P.underlying dst = some .string) :
  (convert src dst (.slice (some ⟨g, 0, none⟩) n c)).run P w = .ok (.string (strOfNums l)) w :=
 run_convert_bytes_arg w src e hs he g 0 n c l hn (fun i hi => by
  rw [Nat.zero_add, h.2.1 i (l.getD i 0) (by rw [List.getD, List.getElem?_eq_getElem (by omega)]; rfl)]) dst hd
end
def bytesW (w : World) (e : TypeId) (s : ByteArray) : World := w.drew.alloc (.cells (bytesRow s (grownCap w s.size 0 e)) e ((bytesRow s (grownCap w s.size 0 e)).size, (bytesRow s (grownCap w s.size 0 e)).size + 1))
theorem run_bytes {P : Program} {src dst e : TypeId} (s : ByteArray) (hs : P.underlying src = some .string) (hd : P.underlying dst = some (.slice e)) (he : P.underlying e = some (.int .u8)) :
  ∀ u : World, (convert src dst (.string s)).run P u = .ok (.slice (some ⟨u.heap.size, 0, none⟩) s.size (grownCap u s.size 0 e)) (bytesW u e s) := fun u => run_bytes_of_string u src dst e s hs hd he
theorem bytesW_below (w : World) (e : TypeId) (s : ByteArray) : Below w.heap.size w (bytesW w e s) := below_alloc (Below.drew (Below.refl _ _)) _
theorem bytesW_size (w : World) (e : TypeId) (s : ByteArray) : (bytesW w e s).heap.size = w.heap.size + 1 := by simp [bytesW]
theorem bytesW_row (w : World) (e : TypeId) (s : ByteArray) : BRow (bytesW w e s) w.heap.size (nums s) := by
 have hh : (bytesW w e s).heap[w.heap.size]? = some (.cells (bytesRow s (grownCap w s.size 0 e)) e ((bytesRow s (grownCap w s.size 0 e)).size, (bytesRow s (grownCap w s.size 0 e)).size + 1)) := by
  have := heap_alloc_new w.drew (.cells (bytesRow s (grownCap w s.size 0 e)) e ((bytesRow s (grownCap w s.size 0 e)).size, (bytesRow s (grownCap w s.size 0 e)).size + 1))
  exact this
 refine ⟨by rw [bytesW_size]; omega, fun j z hz => ?_, fun j hj => ?_⟩
 ·have hj : j < s.size := by
   have := (List.getElem?_eq_some_iff.1 hz).1
   rwa [nums_len] at this
  rw [nums_at hj] at hz
  injection hz with hz
  subst hz
  have hd : j < s.data.size := hj
  simp [World.cell?, hh, bytesRow, Array.getElem?_append, hd, PlainAid.bt, hj]
  rfl
 ·rw [nums_len] at hj
  have : s.size ≤ (bytesRow s (grownCap w s.size 0 e)).size := by
   simp only [bytesRow, Array.size_append, Array.size_map]
   exact Nat.le_add_right _ _
  simp [World.frozen?, hh]
  omega
abbrev byteE (z : Int) : List Value := [.int .u8 z]
theorem byteE_len (z : Int) : (byteE z).length = 1 := rfl
theorem Tryz.elU8 : ElemOk Tryz.prog 22 5 (.int .u8 0) 1 1 := ⟨Tryz.underlying22, by kernel_rfl, rfl, by decide⟩
theorem BRow.of_owned {w : World} {E : TypeId} {base g n c : Nat} {l : List Int} (h : Owned byteE 1 E w base (some ⟨g, 0, none⟩) n c l) : BRow w g l := by
 have hg := h.at_own
 rcases Nat.eq_zero_or_pos n with h0 | h0
 ·have hl := h.len
  subst h0
  rw [List.length_eq_zero_iff] at hl
  subst hl
  exact ⟨hg.2, fun j z hz => by simp at hz, fun j hj => absurd hj (by simp)⟩
 ·obtain ⟨g', e, _, _, hc, hf⟩ := h.at_ h0
  injection e with e
  injection e with e
  subst e
  exact ⟨hg.2, fun j z hz => by have := hc j z 0 _ hz rfl; simpa using this, fun j _ => hf j⟩
theorem nums_strOf {l : List Int} (h : ∀ x ∈ l, 0 ≤ x ∧ x < 256) : nums (strOfNums l) = l := by
 have hs : (strOfNums l).size = l.length := by simp [strOfNums, ByteArray.size]
 apply List.ext_getElem (by rw [nums_len, hs])
 intro j h1 h2
 have hb := h l[j] (List.getElem_mem h2)
 have : (nums (strOfNums l))[j]? = some l[j] := by
  rw [nums_at (by rw [hs]; exact h2), PlainAid.bt, dif_pos (by rw [hs]; exact h2)]
  congr 1
  have : (strOfNums l)[j]'(by rw [hs]; exact h2) = UInt8.ofNat (l[j]).toNat := by
   show (strOfNums l).data[j]'_ = _
   simp [strOfNums]
  rw [this, UInt8.toNat_ofNat']
  omega
 rw [List.getElem?_eq_getElem h1] at this
 injection this
theorem bt_strOf {l : List Int} (h : ∀ x ∈ l, 0 ≤ x ∧ x < 256) {k : Nat} {z : Int} (hk : l[k]? = some z) : PlainAid.bt (strOfNums l) k = z := by
 have hs : (strOfNums l).size = l.length := by simp [strOfNums, ByteArray.size]
 have h1 := nums_strOf h
 have hkl := (List.getElem?_eq_some_iff.1 hk).1
 have h2 := nums_at (s := strOfNums l) (k := k) (by rw [hs]; exact hkl)
 rw [h1, hk] at h2
 injection h2 with h2
 exact h2.symm
theorem strOf_append (l m : List Int) : strOfNums l ++ strOfNums m = strOfNums (l ++ m) := by
 apply ByteArray.ext
 simp [strOfNums, ByteArray.data_append]
theorem one_byte {a : ByteArray} {j : Nat} (h : j < a.size) : a.extract j (j + 1) = strOfNums [PlainAid.bt a j] := by
 apply ByteArray.ext
 have hd : j < a.data.size := h
 rw [ByteArray.data_extract]
 apply Array.ext'
 simp [strOfNums, PlainAid.bt, h]
 have hl : j < a.data.toList.length := by simpa using hd
 rw [List.drop_eq_getElem_cons hl, List.take_succ_cons, List.take_zero, Array.getElem_toList]
 rfl
end Go.Proofs.YtidolgonmimicaaGreat
namespace Go.Proofs.YtidolgonmimicaaGreat
open Go.ChangeShapes Go.WideShapes Go.ChangeAt Go.RowKit Go.Deep Go.Joins
section
variable {H : Type} {enc : TypeId × Value → H} {P : Program}
theorem bounds_u8' {n : Int} (h : (Lit.int .u8 n).wf = true) : 0 ≤ n ∧ n ≤ 255 := bounds_u8 h
theorem in_bytes {W : World} {t e : TypeId} (ht : P.underlying t = some (.slice e)) (he : P.underlying e = some (.int .u8)) (hc : P.cellsOf e = 1) {n : Nat} {cs : List Value} {d : DataW H} {p : List MemPlace}
  (hf : DataW.trod enc P W 0 (fun _ => true) true n t cs = some (d, p)) :
  ∃ (A : Option Addr) (c : Nat) (l : List Int), cs = [.slice A l.length c] ∧ l.length ≤ c ∧ c ≤ maxLen ∧ Recs byteE 1 W A l ∧ ∀ x ∈ l, 0 ≤ x ∧ x ≤ 255 := by
 rcases open_ints ht he hc hf with ⟨hcs, hx⟩ | ⟨a, len, cap, zs, hcs, _, hl, hm, hz, hx, hcell, hwz⟩
 ·exact ⟨none, 0, [], hcs, Nat.le_refl _, Nat.zero_le _, ⟨byteE_len, Rd.none_ _ _ _⟩, fun x hx => by cases hx⟩
 ·simp only [if_true] at hz
  have hlt : (zs.take len).length = len := by simp; omega
  refine ⟨some a, cap, zs.take len, by rw [hlt]; exact hcs, by omega, hm, ⟨byteE_len, ?_, fun hn => ?_⟩, fun x hx => bounds_u8' (hwz x (List.mem_of_mem_take hx))⟩
  ·rw [flatMap_len byteE_len]
  ·obtain ⟨b, off, rfl, hc'⟩ := ints_at hcell (by omega)
   refine ⟨b, off, rfl, World.block_lt_of_cell? W _ (hc' 0 (by omega)), fun j u hu => ?_⟩
   have hj : j < len := by
    have := (List.getElem?_eq_some_iff.1 hu).1
    rw [flatMap_len byteE_len] at this
    omega
   have hx : zs[j]? = some (zs.getD j 0) := by
    rw [List.getD_eq_getElem?_getD, List.getElem?_eq_getElem (by omega)]; rfl
   have h1 := flatMap_at byteE_len (zs.take len) j (zs.getD j 0) 0 (by rw [List.getElem?_take, if_pos hj]; exact hx) (by omega)
   simp only [Nat.mul_one, Nat.add_zero] at h1
   rw [h1] at hu
   injection hu with hu
   rw [← hu]
   exact hc' j (by omega)
end
end Go.Proofs.YtidolgonmimicaaGreat
namespace Go.Proofs.YtidolgonmimicaaGreat
open Go.ChangeShapes Go.WideShapes Go.ChangeAt Go.RowKit Go.Deep
theorem Owned.drew {α : Type} {e : α → List Value} {s : Nat} {E : TypeId} {w : World} {base : Nat} {A : Option Addr} {n c : Nat} {l : List α} (h : Owned e s E w base A n c l) : Owned e s E w.drew base A n c l := h.up (Below.drew (Below.refl _ _))
theorem Box.drew {w : World} {b : Nat} {cs : List Value} (h : Box w b cs) : Box w.drew b cs := h
theorem step_append_rec {P : Program} {α : Type} {e : α → List Value} {s bytes : Nat} {t E : TypeId} {z : Value} (he : ElemOk P t E z s bytes) {ops : Array Oper} {o : Oper} {a : Act} {K : Act → World → Prop} {Q : Exit → Act → World → Prop} {E' : Prop} {W : World}
  (hgd : o.guard = none) (S X : Operand) (ho : o.op = .call { callee := .builtin .append, args := #[S, X], argTypes := #[t, t] })
  {base : Nat} {A : Option Addr} {n c : Nat} {l : List α} (hs : a.eval S = .slice A n c) (hown : Owned e s E W base A n c l) (x : α) {b cx : Nat} (hx : a.eval X = .slice (some ⟨b, 0, none⟩) 1 cx)
  (hnew : Box W b (e x)) (h1 : ∀ u ∈ e x, u.oneCell' = true) (hn : n ≤ 16777216) (hby : bytes ≤ 4096) (hbase : base ≤ W.heap.size)
  (h : ∀ A' c' w', Owned e s E w' base A' (n + 1) c' (l ++ [x]) → W.grownBy w' (Value.slice A n c).ownBlock → Below base W w' → K (a.put o.dst (.slice A' (n + 1) c')) w') :
  if Region.wanted o (yielded ops a.tmps) = true then Oper.wp P o a W K Q else E' := by
 obtain ⟨i0, hi, hz0, hz1, hz2⟩ := info_parts he.info
 refine step_append_lies W hgd S X t ho base E i0 z s bytes he.under hi hz0 hz1 hz2 he.zs he.pos _ n _ hs hown.2.2 ⟨b, 0, none⟩ 1 cx (e x) hx (by rw [hown.1]; omega)
  (fun j u hu => by rw [Go.WideShapes.add_plain, Nat.zero_add]; exact hnew j u hu) h1 (by omega) (by unfold maxLen; omega) ?_ hbase W.heap.size rfl ?_
 ·exact Nat.le_trans (Nat.mul_le_mul (show n + 1 ≤ 16777217 by omega) hby) (by decide)
 ·intro g cap w' hown' hg _ _
  have ho' : Owned e s E w' base (some ⟨g, 0, none⟩) (n + 1) cap (l ++ [x]) := ⟨hown.1, by simp [hown.2.1], by simpa using hown'⟩
  exact h _ _ w' ho' hg ((Below.refl _ _).grown hg hbase fun k hk => (hown.blk hk).1)
end Go.Proofs.YtidolgonmimicaaGreat
namespace Go.Proofs.YtidolgonmimicaaGreat
open Go.ChangeShapes Go.WideShapes Go.ChangeAt Go.RowKit Go.Deep
theorem Tryz.elInt : ElemOk Tryz.prog 134 3 (.int .i64 0) 1 8 := ⟨Tryz.underlying134, by kernel_rfl, rfl, by decide⟩
theorem Tryz.elStr : ElemOk Tryz.prog 23 9 (.string ByteArray.empty) 1 16 := ⟨Tryz.underlying23, by kernel_rfl, rfl, by decide⟩
end Go.Proofs.YtidolgonmimicaaGreat
namespace Go.Proofs.YtidolgonmimicaaGreat
open Go.ChangeShapes Go.WideShapes Go.ChangeAt Go.RowKit Go.Deep
theorem wrap_id {x : Int} (h : -9223372036854775808 ≤ x ∧ x ≤ 9223372036854775807) : IntKind.i64.wrap x = x := by
 rw [PlainAid.i64_is]; unfold wrap64; omega
abbrev Hd := Option Addr × Nat × Nat
def slcE (v : Hd) : List Value := [.slice v.1 v.2.1 v.2.2]
theorem slcE_len (v : Hd) : (slcE v).length = 1 := rfl
theorem slcE_one (v : Hd) : ∀ u ∈ slcE v, u.oneCell' = true := fun u hu => by simp [slcE] at hu; subst hu; rfl
theorem Tryz.elInts : ElemOk Tryz.prog 160 134 (.slice none 0 0) 1 24 := ⟨Tryz.underlying160, by kernel_rfl, rfl, by decide⟩
theorem Recs.at_slc {w : World} {A : Option Addr} {l : List Hd} {k : Nat} (h : Recs slcE 1 w A l) (hk : k < l.length) : ∃ b off x, A = some ⟨b, off, none⟩ ∧ b < w.heap.size ∧ l[k]? = some x ∧ w.cell? ⟨b, off + k, none⟩ = some (.slice x.1 x.2.1 x.2.2) := by
 obtain ⟨b, off, hA, hb, hc⟩ := h.cells (by omega)
 obtain ⟨x, hx⟩ := some_of_lt hk
 exact ⟨b, off, x, hA, hb, hx, by simpa using hc k x 0 _ hx rfl⟩
theorem Owned.same {α : Type} {e : α → List Value} {s : Nat} {E : TypeId} {w w' : World} {base : Nat} {A : Option Addr} {n c : Nat} {l : List α} (h : Owned e s E w base A n c l)
  (hk : ∀ g, (Value.slice A n c).ownBlock = some g → w'.heap[g]? = w.heap[g]?) : Owned e s E w' base A n c l := by
 refine ⟨h.1, h.2.1, h.2.2.1, ?_⟩
 rcases h.2.2.2 with h0 | ⟨g, cap, cur, hv, hg, hh, r⟩
 ·exact .inl h0
 ·refine .inr ⟨g, cap, cur, hv, hg, ?_, r⟩
  rw [hk g (by rw [hv]; rfl)]
  exact hh
def TabR (vs : List Hd) (w : World) (A : Option Addr) (T : List (List Int)) : Prop :=
 vs.length = T.length ∧ Recs slcE 1 w A vs ∧ ∀ (k : Nat) (v : Hd) (r : List Int), vs[k]? = some v → T[k]? = some r → v.2.1 = r.length ∧ Ints w v.1 r
theorem TabR.below {vs : List Hd} {w w' : World} {A : Option Addr} {T : List (List Int)} {B : Nat} (h : TabR vs w A T) (hb : Below B w w') (hB : w.heap.size ≤ B) : TabR vs w' A T :=
 ⟨h.1, h.2.1.below hb hB, fun k v r hv hr => ⟨(h.2.2 k v r hv hr).1, (h.2.2 k v r hv hr).2.below hb hB⟩⟩
theorem TabR.up {vs : List Hd} {w w' : World} {A : Option Addr} {T : List (List Int)} (h : TabR vs w A T) (hb : Below w.heap.size w w') : TabR vs w' A T := h.below hb (Nat.le_refl _)
theorem TabR.row {vs : List Hd} {w : World} {A : Option Addr} {T : List (List Int)} {k : Nat} (h : TabR vs w A T) (hk : k < T.length) :
  ∃ b off v r, A = some ⟨b, off, none⟩ ∧ b < w.heap.size ∧ T[k]? = some r ∧ w.cell? ⟨b, off + k, none⟩ = some (.slice v r.length (v, r.length, (vs[k]?.getD (none, 0, 0)).2.2).2.2) ∧ Ints w v r := by
 obtain ⟨b, off, v, hA, hb, hv, hc⟩ := h.2.1.at_slc (k := k) (by rw [h.1]; exact hk)
 obtain ⟨r, hr⟩ := some_of_lt hk
 obtain ⟨h1, h2⟩ := h.2.2 k v r hv hr
 refine ⟨b, off, v.1, r, hA, hb, hr, ?_, h2⟩
 rw [hc, h1, hv]; rfl
structure Tab (vs : List Hd) (w : World) (base : Nat) (A : Option Addr) (n c : Nat) (T : List (List Int)) : Prop where
 len : T.length = n
 top : Owned slcE 1 134 w base A n c vs
 row : ∀ (k : Nat) (v : Hd) (r : List Int), vs[k]? = some v → T[k]? = some r → Owned intE 1 3 w base v.1 v.2.1 v.2.2 r
 off : ∀ (k : Nat) (v : Hd), vs[k]? = some v → ∀ g, (Value.slice v.1 v.2.1 v.2.2).ownBlock = some g → (Value.slice A n c).ownBlock ≠ some g
 two : ∀ (j k : Nat) (v u : Hd), j ≠ k → vs[j]? = some v → vs[k]? = some u → ∀ g, (Value.slice v.1 v.2.1 v.2.2).ownBlock = some g → (Value.slice u.1 u.2.1 u.2.2).ownBlock ≠ some g
def TabIn (vs : List Hd) (A : Option Addr) (n c lo hi : Nat) : Prop := InRange (.slice A n c) lo hi ∧ ∀ (k : Nat) (v : Hd), vs[k]? = some v → InRange (.slice v.1 v.2.1 v.2.2) lo hi
section
variable {vs : List Hd} {w w' : World} {base : Nat} {A : Option Addr} {n c : Nat} {T : List (List Int)}
theorem Tab.vlen (h : Tab vs w base A n c T) : vs.length = T.length := by rw [h.top.len, h.len]
theorem Tab.recs (h : Tab vs w base A n c T) : TabR vs w A T := ⟨h.vlen, h.top.recs, fun k v r hv hr => ⟨(h.row k v r hv hr).len.symm, (h.row k v r hv hr).recs⟩⟩
theorem Tab.rowAt (h : Tab vs w base A n c T) {k : Nat} {v : Hd} (hv : vs[k]? = some v) : ∃ r, T[k]? = some r ∧ Owned intE 1 3 w base v.1 v.2.1 v.2.2 r := by
 have hk := (List.getElem?_eq_some_iff.1 hv).1
 obtain ⟨r, hr⟩ := some_of_lt (l := T) (k := k) (by rw [← h.vlen]; exact hk)
 exact ⟨r, hr, h.row k v r hv hr⟩
theorem Tab.range (h : Tab vs w base A n c T) : TabIn vs A n c base w.heap.size := ⟨h.top.range, fun k v hv => by
 obtain ⟨r, _, ho⟩ := h.rowAt hv
 exact ho.range⟩
theorem Tab.same {lo hi : Nat} (h : Tab vs w base A n c T) (hi_ : TabIn vs A n c lo hi) (hk : ∀ g, lo ≤ g → g < hi → w'.heap[g]? = w.heap[g]?) : Tab vs w' base A n c T where
 len := h.len
 top := h.top.same fun g hg => hk g (hi_.1 g hg).1 (hi_.1 g hg).2
 row := fun k v r hv hr => (h.row k v r hv hr).same fun g hg => hk g (hi_.2 k v hv g hg).1 (hi_.2 k v hv g hg).2
 off := h.off
 two := h.two
theorem Tab.up (h : Tab vs w base A n c T) (hb : Below w.heap.size w w') : Tab vs w' base A n c T := h.same h.range fun g _ hg => hb.block g hg
theorem Tab.base_le {base' : Nat} (h : Tab vs w base A n c T) (hb : base' ≤ base) : Tab vs w base' A n c T :=
 ⟨h.len, h.top.base_le hb, fun k v r hv hr => (h.row k v r hv hr).base_le hb, h.off, h.two⟩
theorem Tab.kept {lo hi a b : Nat} {v : Value} (h : Tab vs w base A n c T) (hi_ : TabIn vs A n c lo hi) (hlt : hi ≤ w.heap.size) (hg : w.grownBy w' v.ownBlock) (hv : InRange v a b) (hd : hi ≤ a ∨ b ≤ lo) : Tab vs w' base A n c T :=
 h.same hi_ fun g g1 g2 => hg.block g (by omega) fun e => by
  have := hv g e.symm
  omega
theorem Tab.nil (w : World) (base : Nat) : Tab [] w base none 0 0 [] :=
 ⟨rfl, Owned.nil slcE_len _ _ _, fun k v r hv _ => by simp at hv, fun k v hv => by simp at hv, fun j k v u _ hv => by simp at hv⟩
end
def hBlk (vs : List Hd) (i : Nat) : Nat := match vs[i]? with | some (some a, _, _) => a.block | _ => 0
structure Part (vs : List Hd) (w : World) (base g n : Nat) (F : Nat → Prop) (R : Nat → List Int) : Prop where
 gb : base ≤ g
 top : Owned slcE 1 134 w base (some ⟨g, 0, none⟩) n n vs
 row : ∀ i, F i → i < n → vs[i]? = some (some ⟨hBlk vs i, 0, none⟩, (R i).length, (R i).length) ∧ g < hBlk vs i ∧ hBlk vs i < w.heap.size ∧ Owned intE 1 3 w base (some ⟨hBlk vs i, 0, none⟩) (R i).length (R i).length (R i)
 two : ∀ i j, F i → F j → i < n → j < n → i ≠ j → hBlk vs i ≠ hBlk vs j
section
variable {vs : List Hd} {w w' : World} {base g n : Nat} {F F' : Nat → Prop} {R : Nat → List Int}
theorem Part.up (h : Part vs w base g n F R) (hB : Below w.heap.size w w') : Part vs w' base g n F R :=
 ⟨h.gb, h.top.up hB, fun i hi hn => ⟨(h.row i hi hn).1, (h.row i hi hn).2.1, Nat.lt_of_lt_of_le (h.row i hi hn).2.2.1 hB.size, (h.row i hi hn).2.2.2.up hB⟩, h.two⟩
theorem Part.drew (h : Part vs w base g n F R) : Part vs w.drew base g n F R := h.up (Below.drew (Below.refl _ _))
theorem Part.less (h : Part vs w base g n F R) (hF : ∀ i, F' i → F i) : Part vs w base g n F' R :=
 ⟨h.gb, h.top, fun i hi hn => h.row i (hF i hi) hn, fun i j hi hj => h.two i j (hF i hi) (hF j hj)⟩
theorem Part.past {p : Nat} (h : Part vs w base g n F R) (hg : w.grownBy w' (some p)) (h1 : p ≠ g) (h2 : ∀ i, F i → i < n → hBlk vs i ≠ p) : Part vs w' base g n F R := by
 have key : ∀ {A : Option Addr} {m c q : Nat}, q < w.heap.size → q ≠ p → (Value.slice (some ⟨q, 0, none⟩) m c).ownBlock = some q → w'.heap[q]? = w.heap[q]? := fun hq hne _ => hg.block _ hq (fun e => hne (by injection e))
 refine ⟨h.gb, h.top.same fun q hq => ?_, fun i hi hn => ⟨(h.row i hi hn).1, (h.row i hi hn).2.1, Nat.lt_of_lt_of_le (h.row i hi hn).2.2.1 hg.size, (h.row i hi hn).2.2.2.same fun q hq => ?_⟩, h.two⟩
 ·have := (h.top.blk hq).2
  injection hq with hq
  subst hq
  exact hg.block _ this (fun e => h1 (by injection e with e; exact e.symm))
 ·have := ((h.row i hi hn).2.2.2.blk hq).2
  injection hq with hq
  subst hq
  exact hg.block _ this (fun e => h2 i hi hn (by injection e))
theorem hb_some {i : Nat} {a : Addr} {m c : Nat} (h : vs[i]? = some (some a, m, c)) : hBlk vs i = a.block := by simp [hBlk, h]
theorem hb_set {i j : Nat} {v : Hd} (h : i ≠ j) : hBlk (vs.set j v) i = hBlk vs i := by
 unfold hBlk
 rw [List.getElem?_set_ne (fun e => h e.symm)]
theorem Part.head {i0 q m c : Nat} (h : Part vs w base g n F R) (h0 : ¬ F i0) (hi0 : i0 < n) : Part (vs.set i0 (some ⟨q, 0, none⟩, m, c)) (w.setCell ⟨g, i0, none⟩ (.slice (some ⟨q, 0, none⟩) m c)) base g n F R := by
 obtain ⟨y, hy⟩ := some_of_lt (l := vs) (k := i0) (by rw [h.top.len]; exact hi0)
 have p0 := h.top.put (j := 0) (x := ((some ⟨q, 0, none⟩, m, c) : Hd)) (u := .slice (some ⟨q, 0, none⟩) m c) hy (by decide) rfl
 simp only [Nat.mul_one, Nat.add_zero] at p0
 refine ⟨h.gb, p0.1, fun i hi hn => ?_, fun i j hi hj hn hm hne => ?_⟩
 ·have hne : i ≠ i0 := fun e => h0 (e ▸ hi)
  obtain ⟨r1, r2, r3, r4⟩ := h.row i hi hn
  rw [hb_set hne, List.getElem?_set_ne (fun e => hne e.symm)]
  refine ⟨r1, r2, by simpa using r3, r4.kept (p0.2) fun k hk e => ?_⟩
  injection hk with hk
  injection e with e
  dsimp only at hk e
  omega
 ·have e1 : i ≠ i0 := fun e => h0 (by rw [← e]; exact hi)
  have e2 : j ≠ i0 := fun e => h0 (by rw [← e]; exact hj)
  rw [hb_set e1, hb_set e2]
  exact h.two i j hi hj hn hm hne
theorem Part.add {i0 q : Nat} (h : Part vs w base g n F R) (hv : vs[i0]? = some (some ⟨q, 0, none⟩, (R i0).length, (R i0).length)) (hq : g < q) (hr : Owned intE 1 3 w base (some ⟨q, 0, none⟩) (R i0).length (R i0).length (R i0))
  (hne : ∀ i, F i → i < n → i ≠ i0 → hBlk vs i ≠ q) (hF : ∀ i, F' i → F i ∨ i = i0) : Part vs w base g n F' R := by
 have e0 : hBlk vs i0 = q := hb_some hv
 refine ⟨h.gb, h.top, fun i hi hn => ?_, fun i j hi hj hn hm hij => ?_⟩
 ·by_cases e : i = i0
  ·subst e
   rw [e0]
   exact ⟨hv, hq, (hr.blk rfl).2, hr⟩
  ·exact h.row i ((hF i hi).resolve_right e) hn
 ·by_cases e : i = i0
  ·subst e
   rw [e0]
   exact fun e2 => hne j ((hF j hj).resolve_right (fun e3 => hij e3.symm)) hm (fun e3 => hij e3.symm) e2.symm
  ·by_cases e' : j = i0
   ·subst e'
    rw [e0]
    exact hne i ((hF i hi).resolve_right e) hn e
   ·exact h.two i j ((hF i hi).resolve_right e) ((hF j hj).resolve_right e') hn hm hij
theorem Part.tab (h : Part vs w base g n F R) (hF : ∀ i, i < n → F i) : Tab vs w base (some ⟨g, 0, none⟩) n n ((List.range n).map R) := by
 have hl := h.top.len
 have hk : ∀ {k : Nat} {v : Hd}, vs[k]? = some v → k < n := fun hv => by rw [← hl]; exact (List.getElem?_eq_some_iff.1 hv).1
 refine ⟨by simp, h.top, fun k v r hv hr => ?_, fun k v hv q hq => ?_, fun j k v u hne hv hu q hq => ?_⟩
 ·have hn := hk hv
  obtain ⟨r1, r2, r3, r4⟩ := h.row k (hF k hn) hn
  rw [hv] at r1
  injection r1 with r1
  subst r1
  have er : R k = r := by simpa [hn] using hr
  subst er
  exact r4
 ·have hn := hk hv
  obtain ⟨r1, r2, r3, r4⟩ := h.row k (hF k hn) hn
  rw [hv] at r1
  injection r1 with r1
  subst r1
  injection hq with hq
  dsimp only at hq
  intro e
  injection e with e
  dsimp only at e
  omega
 ·have hn := hk hv
  have hm := hk hu
  obtain ⟨r1, _⟩ := h.row j (hF j hn) hn
  obtain ⟨s1, _⟩ := h.row k (hF k hm) hm
  rw [hv] at r1; injection r1 with r1; subst r1
  rw [hu] at s1; injection s1 with s1; subst s1
  injection hq with hq
  dsimp only at hq
  intro e
  injection e with e
  dsimp only at e
  exact h.two j k (hF j hn) (hF k hm) hn hm hne (by omega)
theorem Part.at_ {i j : Nat} {x : Int} (h : Part vs w base g n F R) (hi : F i) (hn : i < n) (hx : (R i)[j]? = some x) :
  w.cell? ⟨g, i, none⟩ = some (.slice (some ⟨hBlk vs i, 0, none⟩) (R i).length (R i).length) ∧ w.cell? ⟨hBlk vs i, j, none⟩ = some (.int .i64 x) := by
 obtain ⟨r1, r2, r3, r4⟩ := h.row i hi hn
 obtain ⟨b, eb, _, _, hc, _⟩ := h.top.at_ (by omega)
 injection eb with eb; injection eb with eb; subst eb
 have hj : j < (R i).length := (List.getElem?_eq_some_iff.1 hx).1
 obtain ⟨b2, eb2, _, _, hc2, _⟩ := r4.at_ (by omega)
 injection eb2 with eb2; injection eb2 with eb2
 have c1 := hc i _ 0 _ r1 rfl
 have c2 := hc2 j x 0 _ hx rfl
 simp only [Nat.mul_one, Nat.add_zero] at c1 c2
 rw [← eb2] at c2
 exact ⟨c1, c2⟩
end
end Go.Proofs.YtidolgonmimicaaGreat
namespace Go.Proofs.YtidolgonmimicaaGreat
open Go.ChangeShapes Go.WideShapes Go.ChangeAt Go.RowKit Go.Deep
def Cur (w : World) (p : Nat) (A : Option Addr) (n c a : Nat) : Prop := ∃ (k : Nat) (s : Int), Blk w p 87 [.slice A n c, .int .i64 k, .int .u64 s] ∧ k ≤ a ∧ 0 ≤ s ∧ s ≤ 18446744073709551615
def Src (w0 : World) (A : Option Addr) (n : Nat) : Prop := ∃ l : List Int, l.length = n ∧ n ≤ 9223372036854775807 ∧ (∀ x ∈ l, 0 ≤ x ∧ x ≤ 255) ∧ Recs byteE 1 w0 A l
theorem Cur.mono {w : World} {p : Nat} {A : Option Addr} {n c a b : Nat} (h : Cur w p A n c a) (hb : a ≤ b) : Cur w p A n c b := by
 obtain ⟨k, s, h1, h2, h3⟩ := h
 exact ⟨k, s, h1, by omega, h3⟩
theorem Cur.lt {w : World} {p : Nat} {A : Option Addr} {n c a : Nat} (h : Cur w p A n c a) : p < w.heap.size := by
 obtain ⟨k, s, h1, _⟩ := h
 exact h1.lt
theorem Cur.grown {w w' : World} {p : Nat} {A : Option Addr} {n c a : Nat} {row : Option Nat} (h : Cur w p A n c a) (hg : w.grownBy w' row) (hne : some p ≠ row) : Cur w' p A n c a := by
 obtain ⟨k, s, h1, h2⟩ := h
 exact ⟨k, s, h1.grown hg hne, h2⟩
theorem Cur.up {w w' : World} {p : Nat} {A : Option Addr} {n c a : Nat} (h : Cur w p A n c a) (hb : Below w.heap.size w w') : Cur w' p A n c a := h.grown (grown_of_below hb) (by simp)
theorem Recs.at_byte {w : World} {A : Option Addr} {l : List Int} {k : Nat} (h : Recs byteE 1 w A l) (hk : k < l.length) : ∃ b off x, A = some ⟨b, off, none⟩ ∧ b < w.heap.size ∧ l[k]? = some x ∧ w.cell? ⟨b, off + k, none⟩ = some (.int .u8 x) := by
 obtain ⟨b, off, hA, hb, hc⟩ := h.cells (by omega)
 obtain ⟨x, hx⟩ := some_of_lt hk
 exact ⟨b, off, x, hA, hb, hx, by simpa using hc k x 0 _ hx rfl⟩
theorem u64_bd (x : Int) : 0 ≤ IntKind.u64.wrap x ∧ IntKind.u64.wrap x ≤ 18446744073709551615 := by rw [IntKind.wrap_u64]; omega
theorem and255 {x : Int} (h0 : 0 ≤ x) (h1 : x ≤ 18446744073709551615) : 0 ≤ bits .and .u64 x 255 ∧ bits .and .u64 x 255 ≤ 255 := by
 obtain ⟨n, rfl⟩ := Int.eq_ofNat_of_zero_le h0
 have e : bits .and .u64 (n : Int) ((255 : Nat) : Int) = ((n &&& 255 : Nat) : Int) := bits_and_u64_nat n 255 (by omega) (by omega)
 have h := Nat.and_le_right (n := n) (m := 255)
 rw [show ((255 : Int)) = ((255 : Nat) : Int) from rfl, e]
 omega
set_option maxRecDepth 100000 in
theorem cur_next {A : Option Addr} {n c a p : Nat} {w0 w : World} (hS : Src w0 A n) (hb : Below w0.heap.size w0 w) (hp : w0.heap.size ≤ p) (hc : Cur w p A n c a) (ha : a ≤ 16777216) :
  Calls Tryz.prog 166 #[.pointer (some ⟨p, 0, none⟩)] w fun e w' => ∃ x : Int, e = .returned (.int .i64 x) ∧ 0 ≤ x ∧ x ≤ 255 ∧ Cur w' p A n c (a + 1) ∧ w.grownBy w' (some p) := by
 obtain ⟨l, rfl, hn, hlb, hR⟩ := hS
 obtain ⟨k, s, K, hk, s0, s1⟩ := hc
 have k0 := K.cell 0; have k1 := K.cell 1; have k2 := K.cell 2
 have f1 := K.frozen 1; have f2 := K.frozen 2
 simp only [List.getElem?_cons_zero, List.getElem?_cons_succ] at k0 k1 k2
 have HK := Lib.hid K
 clear K
 by_cases hlt : k < l.length
 ·have hI : (k : Int) < (l.length : Int) := by omega
  have hJ : (k : Int) + 1 ≤ (l.length : Int) := by omega
  obtain ⟨b, o, x, rfl, _, hx, hcx⟩ := (hR.below hb (Nat.le_refl _)).at_byte hlt
  have hxb := hlb x (List.mem_of_getElem? hx)
  have gx : IntKind.i64.wrap x = x := wrap_id (by omega)
  clear hx hR hlb
  go_in
  go_wp2
  go_quiet (fail)
  go_wp2
  go_quiet (fail)
  go_wp2
  go_quiet (fail)
  go_wp2
  go_ret
  refine ⟨_, rfl, hxb.1, hxb.2, ⟨k + 1, _, ((HK.out.drewN _).set_ 1 _).set_ 2 _, by omega, (u64_bd _).1, (u64_bd _).2⟩, ?_⟩
  exact grownBy_trans (grownBy_trans (grown_any (below_drewN (Below.refl _ _) _) _) (only_set _ (p := ⟨p, 1, none⟩) _)) (grownBy_trans (only_set _ (p := ⟨p, 2, none⟩) _) (grown_any (below_drewN (Below.refl _ _) _) _))
 ·have hI : ¬ (k : Int) < (l.length : Int) := by omega
  have hJ : ¬ (k : Int) + 1 ≤ (l.length : Int) := by omega
  clear hR hlb
  go_in
  go_wp2
  go_quiet (fail)
  go_wp2
  go_quiet (fail)
  go_wp2
  obtain ⟨T, hT⟩ : ∃ T, T = IntKind.u64.wrap (IntKind.u64.wrap (IntKind.u64.wrap (s * 6364136223846793005)) + 1442695040888963407) := ⟨_, rfl⟩
  have hTb : 0 ≤ T ∧ T ≤ 18446744073709551615 := by rw [hT]; exact u64_bd _
  rw [← hT]
  clear hT
  have hA := and255 (x := T / 1099511627776) (by omega) (by omega)
  obtain ⟨v, hv⟩ : ∃ v, v = bits BinOp.and IntKind.u64 (T / 1099511627776) 255 := ⟨_, rfl⟩
  rw [← hv] at hA ⊢
  clear hv
  have hwv : wrap64 v = v := by unfold wrap64; omega
  rw [hwv]
  clear hwv
  go_ret
  refine ⟨_, rfl, hA.1, hA.2, ⟨k + 1, _, ((HK.out.drewN _).set_ 1 _).set_ 2 _, by omega, hTb.1, hTb.2⟩, ?_⟩
  exact grownBy_trans (grownBy_trans (grown_any (below_drewN (Below.refl _ _) _) _) (only_set _ (p := ⟨p, 1, none⟩) _)) (grownBy_trans (only_set _ (p := ⟨p, 2, none⟩) _) (grown_any (below_drewN (Below.refl _ _) _) _))
theorem grown_below {w0 w w' : World} {p : Nat} (hb : Below w0.heap.size w0 w) (hp : w0.heap.size ≤ p) (hg : w.grownBy w' (some p)) : Below w0.heap.size w0 w' := hb.grown hg hb.size fun k hk => by injection hk with hk; omega
def upTo (n x : Int) : Prop := 0 ≤ x ∧ (x < n ∨ x = 0)
set_option maxRecDepth 100000 in
theorem cur_pick {A : Option Addr} {n c a p : Nat} {N : Int} {w0 w : World} (hS : Src w0 A n) (hb : Below w0.heap.size w0 w) (hp : w0.heap.size ≤ p) (hc : Cur w p A n c a) (ha : a ≤ 16777216) (hN : N ≤ 200) (hN0 : -1000 ≤ N) :
  Calls Tryz.prog 72 #[.pointer (some ⟨p, 0, none⟩), .int .i64 N] w fun e w' => ∃ x : Int, e = .returned (.int .i64 x) ∧ upTo N x ∧ Cur w' p A n c (a + 1) ∧ w.grownBy w' (some p) := by
 by_cases h1 : N ≤ 1
 ·go_in
  go_wp2
  go_ret
  exact ⟨0, rfl, ⟨Int.le_refl _, .inr rfl⟩, hc.mono (by omega), grown_any (Below.refl _ _) _⟩
 ·go_in
  go_wp2_with fail
  refine (cur_next hS hb hp hc ha).mono ?_; rintro e w1 ⟨x, rfl, x0, x1, hc1, hg1⟩
  have hm : x.tmod N = x % N := Int.tmod_eq_emod_of_nonneg x0
  have m0 := Int.emod_nonneg x (show N ≠ 0 by omega)
  have m1 := Int.emod_lt_of_pos x (show 0 < N by omega)
  have hN1 : ¬ N = 0 := by omega
  go_wp2
  go_ret
  exact ⟨_, rfl, ⟨by omega, .inl (by omega)⟩, hc1, hg1⟩
theorem cur_one {A : Option Addr} {n c a p : Nat} {N : Int} {w0 w : World} (hS : Src w0 A n) (hb : Below w0.heap.size w0 w) (hp : w0.heap.size ≤ p) (hc : Cur w p A n c a) (ha : a ≤ 16777216) (hN : N ≤ 200) (hN0 : -1000 ≤ N) :
  Calls Tryz.prog 95 #[.pointer (some ⟨p, 0, none⟩), .int .i64 N] w fun e w' => ∃ b : Bool, e = .returned (.bool b) ∧ Cur w' p A n c (a + 1) ∧ w.grownBy w' (some p) := by
 go_in
 go_wp2_with fail
 refine (cur_pick hS hb hp hc ha hN hN0).mono ?_; rintro e w1 ⟨x, rfl, _, hc1, hg1⟩
 go_wp2
 go_ret
 exact ⟨_, rfl, hc1, hg1⟩
theorem lit_ints (w : World) (t : TypeId) (l : List Int) : Ints (w.alloc (.cells ⟨l.map fun x => Value.int .i64 x⟩ t)) (some ⟨w.heap.size, 0, none⟩) l := by
 refine ⟨intE_len, by rw [flatMap_len intE_len], fun hn => ⟨w.heap.size, 0, rfl, by simp, fun j u hu => ?_⟩⟩
 have h := Box.new w (l.map fun x => Value.int .i64 x) t
 rw [Nat.zero_add]
 refine h j u ?_
 rw [← hu]
 congr 1
 exact (flatMap_one (fun x => Value.int .i64 x) l).symm
theorem cur_among {A B : Option Addr} {n c a p m d : Nat} {l : List Int} {w0 w : World} (hS : Src w0 A n) (hb : Below w0.heap.size w0 w) (hp : w0.heap.size ≤ p) (hc : Cur w p A n c a) (ha : a ≤ 16777216) (hm : l.length = m) (hl : Ints w B l) (hm0 : 0 < m) (hm1 : m ≤ 200) (hne : ∀ b o, B = some ⟨b, o, none⟩ → b ≠ p) :
  Calls Tryz.prog 149 #[.pointer (some ⟨p, 0, none⟩), .slice B m d] w fun e w' => ∃ x ∈ l, e = .returned (.int .i64 x) ∧ Cur w' p A n c (a + 1) ∧ w.grownBy w' (some p) := by
 subst hm
 go_in
 go_wp2_with fail
 refine (cur_pick hS hb hp hc ha (by omega) (by omega)).mono ?_; rintro e w1 ⟨x, rfl, ⟨x0, x1⟩, hc1, hg1⟩
 obtain ⟨k, rfl⟩ := Int.eq_ofNat_of_zero_le x0
 have hk : k < l.length := by omega
 obtain ⟨b, o, y, rfl, hbb, hy, hcy⟩ := hl.at_int hk
 have hcz : w1.cell? ⟨b, o + k, none⟩ = some (.int .i64 y) := (hg1.cell_far ⟨b, o + k, none⟩ hbb (fun e => hne b o rfl (by injection e))).trans hcy
 have HY := Lib.hid hy
 clear hy hl hcy x1
 go_wp2
 go_ret
 exact ⟨y, List.mem_of_getElem? HY.out, rfl, hc1, hg1⟩
end Go.Proofs.YtidolgonmimicaaGreat
namespace Go.Proofs.YtidolgonmimicaaGreat
open Go.ChangeShapes Go.WideShapes Go.ChangeAt Go.RowKit Go.Deep
theorem grow_own {w u v : World} {r row : Option Nat} (h : w.grownBy u r) (hg : u.grownBy v row) (hrow : ∀ k, row = some k → w.heap.size ≤ k) : w.grownBy v r :=
 ⟨hg.os.trans h.os, hg.tape.trans h.tape, hg.output.trans h.output, Nat.le_trans h.size hg.size, fun i hi hne => (hg.block i (Nat.lt_of_lt_of_le hi h.size) (fun e => by have := hrow i e.symm; omega)).trans (h.block i hi hne)⟩
structure TL (w wr : World) (p : Nat) (A1 : Option Addr) (n1 c1 : Nat) (l1 : List Int) (A2 : Option Addr) (n2 c2 : Nat) (l2 : List Int) : Prop where
 own1 : Owned intE 1 3 wr w.heap.size A1 n1 c1 l1
 own2 : Owned intE 1 3 wr w.heap.size A2 n2 c2 l2
 two : ∀ k, (Value.slice A1 n1 c1).ownBlock = some k → (Value.slice A2 n2 c2).ownBlock ≠ some k
 gr : w.grownBy wr (some p)
section
variable {w wr wv : World} {p : Nat} {A1 A2 A' : Option Addr} {n1 c1 n2 c2 c' : Nat} {l1 l2 : List Int} {x : Int}
theorem TL.grown (h : TL w wr p A1 n1 c1 l1 A2 n2 c2 l2) (hp : p < w.heap.size) (hg : wr.grownBy wv (some p)) : TL w wv p A1 n1 c1 l1 A2 n2 c2 l2 :=
 ⟨h.own1.kept hg (fun k hk e => by have := (h.own1.blk hk).1; injection e with e; omega), h.own2.kept hg (fun k hk e => by have := (h.own2.blk hk).1; injection e with e; omega), h.two, grownBy_trans h.gr hg⟩
theorem TL.alloc (h : TL w wr p A1 n1 c1 l1 A2 n2 c2 l2) (o : Obj) : TL w (wr.alloc o) p A1 n1 c1 l1 A2 n2 c2 l2 :=
 ⟨h.own1.alloc o, h.own2.alloc o, h.two, grownBy_trans h.gr (World.grownBy_alloc _ _ _)⟩
end
theorem Cur.app {wr wv : World} {p : Nat} {A B : Option Addr} {n c a m d base : Nat} {l : List Int} (h : Cur wr p A n c a) (ho : Owned intE 1 3 wr base B m d l) (hp : p < base) (hg : wr.grownBy wv (Value.slice B m d).ownBlock) : Cur wv p A n c a :=
 h.grown hg (fun e => by have := (ho.blk e.symm).1; omega)
end Go.Proofs.YtidolgonmimicaaGreat
namespace Go.Proofs.YtidolgonmimicaaGreat
def inB (n a b : Int) : Bool := decide (a ≤ n ∧ n ≤ b)
theorem inB_t {n a b : Int} (h : inB n a b = true) : a ≤ n ∧ n ≤ b := by simpa [inB] using h
def goodBeatB (x y z : Int) : Bool := inB x 0 1000000 && inB y 1 2000 && inB z 0 2000
def blowAtZ (x y z n r p : Int) : Int := x + y * (n * r + p - 1) + z * (r / 2)
def okBlow (x y z n r p : Int) : Bool := goodBeatB x y z && inB n 3 8 && inB r 0 800 && inB p 1 n
def blowV (x y z n r p : Int) : Int := if okBlow x y z n r p = true then blowAtZ x y z n r p else 0
def okTime (l : List Int) (i : Nat) : Bool := inB (l.getD i 0) 0 1000000 && !(decide (0 < i) && decide (l.getD i 0 < l.getD (i - 1) 0))
def goodTimes (l : List Int) : Bool := (List.range l.length).all (okTime l) && decide (l.length ≤ 60)
abbrev strikeE : Int × Int → List Value := fun s => [.int .i64 s.1, .int .i64 s.2]
abbrev blowE : Int × Int × Int → List Value := fun s => [.int .i64 s.1, .int .i64 s.2.1, .int .i64 s.2.2]
def okStrike (l : List (Int × Int)) (i : Nat) : Bool := inB (l.getD i (0, 0)).1 1 8 && inB (l.getD i (0, 0)).2 0 1000000 && !(decide (0 < i) && decide ((l.getD i (0, 0)).2 < (l.getD (i - 1) (0, 0)).2))
def goodStrikes (l : List (Int × Int)) : Bool := (List.range l.length).all (okStrike l) && decide (l.length ≤ 2000)
def shiftOk (l : List (Int × Int)) (by_ : Int) : Bool := goodStrikes l && inB by_ (-1000000) 1000000 && goodStrikes (l.map fun s => (s.1, s.2 + by_))
def shiftR (l : List (Int × Int)) (by_ : Int) : List (Int × Int) := if shiftOk l by_ = true then l.map fun s => (s.1, s.2 + by_) else []
def ofBellR (l : List (Int × Int)) (b : Int) : List Int := (l.filter fun s => s.1 == b).map fun s => s.2
def bellOk (l : List (Int × Int)) (b : Int) : Bool := goodStrikes l && inB b 1 8
def bellR (l : List (Int × Int)) (b : Int) : List Int := if bellOk l b = true then ofBellR l b else []
def pick (p : Nat → Bool) (n : Nat) : List Int := ((List.range n).filter p).map fun (k : Nat) => (k : Int)
def soon (l : List (Int × Int)) (d : Int) (k : Nat) : Bool := decide (0 < k) && decide ((l.getD k (0, 0)).2 - (l.getD (k - 1) (0, 0)).2 < d)
def clipOk (l : List (Int × Int)) (d : Int) : Bool := goodStrikes l && inB d 0 10000
def clipR (l : List (Int × Int)) (d : Int) : List Int := if clipOk l d = true then pick (soon l d) l.length else []
end Go.Proofs.YtidolgonmimicaaGreat
namespace Go.Proofs.YtidolgonmimicaaGreat
open Go.ChangeShapes Go.WideShapes Go.ChangeAt Go.RowKit Go.Deep
def dg (s : ByteArray) (k : Nat) : Int := PlainAid.bt s k - 48
def digs (s : ByteArray) : List Int := (List.range s.size).map (dg s)
theorem digs_len (s : ByteArray) : (digs s).length = s.size := by simp [digs]
theorem digs_at {s : ByteArray} {k : Nat} (h : k < s.size) : (digs s)[k]? = some (dg s k) := by simp [digs, h]
theorem digs_drop {s : ByteArray} {k : Nat} (h : k < s.size) : (digs s).drop k = dg s k :: (digs s).drop (k + 1) := by
 rw [List.drop_eq_getElem_cons (by rw [digs_len]; exact h)]
 have := digs_at h
 rw [List.getElem?_eq_getElem (by rw [digs_len]; exact h)] at this
 injection this with e
 rw [e]
theorem wrap_bt (s : ByteArray) (k : Nat) : wrap64 (PlainAid.bt s k) = PlainAid.bt s k := by
 have := PlainAid.bt_nonneg s k
 have := PlainAid.bt_le s k
 unfold wrap64; omega
theorem wrap_dg (s : ByteArray) (k : Nat) : wrap64 (PlainAid.bt s k - 48) = dg s k := by
 have := PlainAid.bt_nonneg s k
 have := PlainAid.bt_le s k
 unfold wrap64 dg; omega
theorem dg_in (s : ByteArray) (k : Nat) : -48 ≤ dg s k ∧ dg s k ≤ 207 := by
 have := PlainAid.bt_nonneg s k
 have := PlainAid.bt_le s k
 simp only [dg]
 omega
def stepOk (n last p : Int) : Bool := inB p (last + 1) n && !((p - last) % 2 == 0)
def chain (n : Int) : Int → List Int → Bool
 | last, [] => (n - last) % 2 == 0
 | last, p :: r => stepOk n last p && chain n p r
def isDash (c : ByteArray) : Bool := c.toList == [45]
theorem some_bytes {c : ByteArray} (h : 0 < c.size) : c.toList.isEmpty = false ∧ ¬ c.toList = [] := by
 have : ¬ c.toList = [] := fun e => by
  rw [ByteArray.toList_eq] at e
  have h1 := congrArg List.length e
  have h2 : c.data.toList.length = c.size := Array.length_toList
  rw [List.length_nil] at h1
  omega
 exact ⟨by simpa [List.isEmpty_eq_false_iff] using this, this⟩
theorem no_bytes {c : ByteArray} (h : ¬ 0 < c.size) : c.toList.isEmpty = true ∧ c.toList = [] := by
 have : c.toList = [] := by
  rw [ByteArray.toList_eq]
  apply List.eq_nil_of_length_eq_zero
  have h2 : c.data.toList.length = c.size := Array.length_toList
  omega
 exact ⟨by rw [this]; rfl, this⟩
def evenN (n : Int) : Bool := n % 2 == 0
def sizeOk (n : Int) (c : ByteArray) : Bool := decide (0 < c.size) && decide ((c.size : Int) ≤ n - 2)
def goodChange (n : Int) (c : ByteArray) : Bool :=
 inB n 3 8 && sizeOk n c && (if isDash c = true then evenN n else chain n 0 (digs c))
theorem goodChange_stage {n : Int} {c : ByteArray} (h : inB n 3 8 = false) : goodChange n c = false := by simp [goodChange, h]
theorem goodChange_size {n : Int} {c : ByteArray} (h : sizeOk n c = false) : goodChange n c = false := by simp [goodChange, h]
theorem goodChange_dash {n : Int} {c : ByteArray} (h : inB n 3 8 = true) (h1 : sizeOk n c = true) (h2 : isDash c = true) : goodChange n c = evenN n := by rw [goodChange, h, h1, if_pos h2]; rfl
theorem goodChange_chain {n : Int} {c : ByteArray} (h : inB n 3 8 = true) (h1 : sizeOk n c = true) (h2 : isDash c = false) : goodChange n c = chain n 0 (digs c) := by rw [goodChange, h, h1, if_neg (by rw [h2]; simp)]; rfl
theorem sizeOk_t {n : Int} {c : ByteArray} (h : sizeOk n c = true) : 0 < c.size ∧ (c.size : Int) ≤ n - 2 := by simpa [sizeOk] using h
theorem sizeOk_f {n : Int} {c : ByteArray} (h : sizeOk n c = false) : 0 < c.size → n - 2 < (c.size : Int) := by
 intro h0
 simp only [sizeOk, h0, decide_true, Bool.true_and, decide_eq_false_iff_not] at h
 omega
def sws (st : Int → Bool) (n : Nat) (p : Nat) : List Int :=
 if p < n then (if st p then sws st n (p + 1) else (p : Int) :: sws st n (p + 2)) else []
termination_by n - p
theorem sws_end {st : Int → Bool} {n p : Nat} (h : ¬ p < n) : sws st n p = [] := by rw [sws, if_neg h]
theorem sws_stay {st : Int → Bool} {n p : Nat} (h : p < n) (hs : st p = true) : sws st n p = sws st n (p + 1) := by rw [sws, if_pos h, if_pos hs]
theorem sws_swap {st : Int → Bool} {n p : Nat} (h : p < n) (hs : st p = false) : sws st n p = (p : Int) :: sws st n (p + 2) := by rw [sws, if_pos h, if_neg (by rw [hs]; simp)]
def stays (c : ByteArray) (p : Int) : Bool := (digs c).contains p
def swaps (n : Nat) (c : ByteArray) : List Int := sws (stays c) n 1
theorem sws_len (st : Int → Bool) (n : Nat) : ∀ p, (sws st n p).length ≤ n - p := by
 intro p
 induction p using sws.induct st n with
 | case1 p h hs ih => rw [sws_stay h hs]; omega
 | case2 p h hs ih => rw [sws_swap h (by simpa using hs), List.length_cons]; omega
 | case3 p h => rw [sws_end h]; simp
def evenSwaps (n : Nat) (c : ByteArray) : Bool := decide ((swaps n c).length % 2 = 0)
def adj : Int → List Int → Bool
 | _, [] => true
 | p, q :: r => decide (p < q) && !((q - p) % 2 == 0) && adj q r
def lastOf : Int → List Int → Int
 | p, [] => p
 | _, q :: r => lastOf q r
theorem lastOf_get : ∀ (p : Int) (r : List Int), (p :: r)[r.length]? = some (lastOf p r)
 | p, [] => rfl
 | p, q :: r => by
  rw [List.length_cons, List.getElem?_cons_succ]
  exact lastOf_get q r
theorem adj_le : ∀ (p : Int) (r : List Int), adj p r = true → p ≤ lastOf p r
 | p, [], _ => by simp [lastOf]
 | p, q :: r, h => by
  simp only [adj, Bool.and_eq_true, decide_eq_true_eq] at h
  have := adj_le q r h.2
  simp only [lastOf]
  omega
theorem chain_adj (n : Int) : ∀ (r : List Int) (x p : Int), chain n x (p :: r) = true ↔ (x < p ∧ ¬ (p - x) % 2 = 0) ∧ adj p r = true ∧ lastOf p r ≤ n ∧ (n - lastOf p r) % 2 = 0
 | [], x, p => by
  simp only [chain, stepOk, inB, adj, lastOf, Bool.and_eq_true, decide_eq_true_eq, Bool.not_eq_true', beq_eq_false_iff_ne, beq_iff_eq, ne_eq]
  constructor
  ·rintro ⟨⟨⟨h1, h2⟩, h3⟩, h4⟩
   exact ⟨⟨by omega, h3⟩, trivial, h2, h4⟩
  ·rintro ⟨⟨h1, h3⟩, -, h2, h4⟩
   exact ⟨⟨⟨by omega, h2⟩, h3⟩, h4⟩
 | q :: r, x, p => by
  have ih := chain_adj n r p q
  rw [chain, Bool.and_eq_true, ih]
  simp only [stepOk, inB, adj, lastOf, Bool.and_eq_true, decide_eq_true_eq, Bool.not_eq_true', beq_eq_false_iff_ne, beq_iff_eq, ne_eq]
  constructor
  ·rintro ⟨⟨h1, h2⟩, ⟨h3, h4⟩, h5, h6, h7⟩
   exact ⟨⟨by omega, h2⟩, ⟨⟨h3, h4⟩, h5⟩, h6, h7⟩
  ·rintro ⟨⟨h1, h2⟩, ⟨⟨h3, h4⟩, h5⟩, h6, h7⟩
   have := adj_le q r h5
   exact ⟨⟨⟨by omega, by omega⟩, h2⟩, ⟨h3, h4⟩, h5, h6, h7⟩
theorem chain_len (n : Int) : ∀ (l : List Int) (x : Int), x ≤ n → chain n x l = true → (l.length : Int) ≤ n - x ∧ (n - x - l.length) % 2 = 0
 | [], x, hx, h => by
  simp only [chain, beq_iff_eq] at h
  simp only [List.length_nil]
  omega
 | p :: r, x, hx, h => by
  simp only [chain, stepOk, inB, Bool.and_eq_true, decide_eq_true_eq, Bool.not_eq_true', beq_eq_false_iff_ne, ne_eq] at h
  have := chain_len n r p (by omega) h.2
  simp only [List.length_cons]
  omega
theorem chain_in (n : Int) : ∀ (l : List Int) (x : Int), 0 ≤ x → n ≤ 8 → chain n x l = true → (l.all fun p => inB p 1 8) = true
 | [], x, hx, hn, h => rfl
 | p :: r, x, hx, hn, h => by
  simp only [chain, stepOk, Bool.and_eq_true] at h
  have h1 := inB_t h.1.1
  rw [List.all_cons, chain_in n r p (by omega) hn h.2]
  simp [inB]
  omega
def validD (c : ByteArray) : Bool := (digs c).all fun p => inB p 1 8
def arePl (n : Int) (l : List Int) : Bool :=
 decide (0 < l.length) && !((l.length : Int) == n) && !(l.getD 0 0 % 2 == 0) && (l.getD (l.length - 1) 0 % 2 == n % 2) && decide (l.getD (l.length - 1) 0 ≤ n) && adj (l.getD 0 0) (l.drop 1)
theorem good_impl {n : Int} {c : ByteArray} (hn : 3 ≤ n ∧ n ≤ 8) (hd : isDash c = false) : goodChange n c = (validD c && arePl n (digs c)) := by
 have hs : inB n 3 8 = true := by simp [inB]; omega
 have key : (sizeOk n c && chain n 0 (digs c)) = (validD c && arePl n (digs c)) := by
  have hl := digs_len c
  rcases hg : digs c with _ | ⟨p, r⟩
  ·rw [hg] at hl
   simp only [List.length_nil] at hl
   simp [sizeOk, ← hl, arePl]
  ·have hl' : r.length + 1 = c.size := by rw [← hl, hg]; rfl
   have hlast : (p :: r).getD ((p :: r).length - 1) 0 = lastOf p r := by
    rw [List.length_cons, Nat.add_sub_cancel, List.getD, lastOf_get]; rfl
   rw [Bool.eq_iff_iff]
   constructor
   ·intro h
    rw [Bool.and_eq_true] at h
    have h1 := sizeOk_t h.1
    have h2 := (chain_adj n r 0 p).1 h.2
    have h3 := chain_in n _ 0 (by omega) hn.2 h.2
    have hv : validD c = true := by rw [validD, hg]; exact h3
    rw [hv, Bool.true_and, arePl, hlast]
    simp only [List.length_cons, Bool.and_eq_true, decide_eq_true_eq, Bool.not_eq_true', beq_eq_false_iff_ne, ne_eq, beq_iff_eq, List.getD_cons_zero, List.drop_succ_cons, List.drop_zero]
    refine ⟨⟨⟨⟨⟨by omega, by omega⟩, by omega⟩, by omega⟩, h2.2.2.1⟩, h2.2.1⟩
   ·intro h
    rw [Bool.and_eq_true, arePl, hlast] at h
    simp only [List.length_cons, Bool.and_eq_true, decide_eq_true_eq, Bool.not_eq_true', beq_eq_false_iff_ne, ne_eq, beq_iff_eq, List.getD_cons_zero, List.drop_succ_cons, List.drop_zero] at h
    obtain ⟨hv, ⟨⟨⟨⟨h1, h2⟩, h3⟩, h4⟩, h5⟩, h6⟩ := h
    have hp : 1 ≤ p := by
     rw [validD, hg, List.all_cons, Bool.and_eq_true] at hv
     exact (inB_t hv.1).1
    have hc : chain n 0 (p :: r) = true := (chain_adj n r 0 p).2 ⟨⟨by omega, by omega⟩, h6, h5, by omega⟩
    have h7 := chain_len n _ 0 (by omega) hc
    rw [List.length_cons] at h7
    rw [hc, Bool.and_true]
    simp only [sizeOk, Bool.and_eq_true, decide_eq_true_eq]
    omega
 rw [goodChange, hs, if_neg (by rw [hd]; simp), Bool.true_and, key]
theorem dash_size {n : Int} {c : ByteArray} (hn : 3 ≤ n) (hd : isDash c = true) : sizeOk n c = true := by
 have h1 : c.toList = [45] := by simpa [isDash] using hd
 rw [ByteArray.toList_eq] at h1
 have h2 : c.data.toList.length = c.size := Array.length_toList
 rw [h1] at h2
 simp only [List.length_cons, List.length_nil] at h2
 simp only [sizeOk, ← h2, Bool.and_eq_true, decide_eq_true_eq]
 omega
def plsOf (c : ByteArray) : List Int := if isDash c = true then [] else digs c
theorem plsOf_dash {c : ByteArray} (h : isDash c = true) : plsOf c = [] := by rw [plsOf, if_pos h]
theorem plsOf_digs {c : ByteArray} (h : isDash c = false) : plsOf c = digs c := by rw [plsOf, if_neg (by rw [h]; simp)]
theorem dash_digs {c : ByteArray} (h : isDash c = true) : digs c = [-3] := by
 have h1 : c.toList = [45] := by simpa [isDash] using h
 have hc : c = ⟨#[45]⟩ := by
  rw [ByteArray.toList_eq] at h1
  cases c with
  | mk d =>
   have : d = #[45] := by
    apply Array.ext'
    exact h1
   rw [this]
 subst hc
 rfl
theorem pls_has {c : ByteArray} {p : Int} (hp : 1 ≤ p) : (plsOf c).contains p = stays c p := by
 rcases h : isDash c
 ·rw [plsOf_digs h]; rfl
 ·rw [plsOf_dash h, stays, dash_digs h]
  simp
  omega
def plR (c : ByteArray) : List Int := if validD c = true then digs c else []
theorem plR_t {c : ByteArray} (h : validD c = true) : plR c = digs c := by rw [plR, if_pos h]
theorem plR_f {c : ByteArray} (h : validD c = false) : plR c = [] := by rw [plR, if_neg (by rw [h]; simp)]
theorem valid_bad {c : ByteArray} {k : Nat} (hk : k < c.size) (h : inB (dg c k) 1 8 = false) : validD c = false := by
 rcases hv : validD c
 ·rfl
 ·rw [validD, List.all_eq_true] at hv
  have := hv _ (List.mem_of_getElem? (digs_at hk))
  rw [h] at this
  cases this
theorem valid_good {c : ByteArray} (h : ∀ k, k < c.size → inB (dg c k) 1 8 = true) : validD c = true := by
 rw [validD, List.all_eq_true]
 intro x hx
 simp only [digs, List.mem_map, List.mem_range] at hx
 obtain ⟨k, hk, rfl⟩ := hx
 exact h k hk
theorem valid_at {c : ByteArray} (h : validD c = true) : ∀ x ∈ digs c, 1 ≤ x ∧ x ≤ 8 := by
 intro x hx
 rw [validD, List.all_eq_true] at h
 exact inB_t (h x hx)
theorem dg_low {c : ByteArray} {k : Nat} (h : PlainAid.bt c k < 49) : inB (dg c k) 1 8 = false := by
 rw [inB, decide_eq_false_iff_not, dg]
 omega
theorem dg_high {c : ByteArray} {k : Nat} (h : 56 < PlainAid.bt c k) : inB (dg c k) 1 8 = false := by
 rw [inB, decide_eq_false_iff_not, dg]
 omega
theorem dg_mid {c : ByteArray} {k : Nat} (h : ¬ PlainAid.bt c k < 49) (h' : ¬ 56 < PlainAid.bt c k) : inB (dg c k) 1 8 = true := by
 rw [inB, decide_eq_true_iff, dg]
 omega
theorem digs_take {c : ByteArray} {k : Nat} (hk : k < c.size) : (digs c).take (k + 1) = (digs c).take k ++ [dg c k] := by
 rw [List.take_add_one, digs_at hk]; rfl
theorem goodChange_n {n : Int} {c : ByteArray} (h : goodChange n c = true) : 3 ≤ n ∧ n ≤ 8 := by
 rcases hs : inB n 3 8
 ·rw [goodChange_stage hs] at h; cases h
 ·exact inB_t hs
theorem good_valid {n : Int} {c : ByteArray} (h : goodChange n c = true) : isDash c = true ∨ validD c = true := by
 rcases hd : isDash c
 ·right
  rcases hs : inB n 3 8
  ·rw [goodChange_stage hs] at h; cases h
  ·rw [good_impl (inB_t hs) hd, Bool.and_eq_true] at h
   exact h.1
 ·left; rfl
end Go.Proofs.YtidolgonmimicaaGreat
namespace Go.Proofs.YtidolgonmimicaaGreat
open Go.ChangeShapes Go.WideShapes Go.ChangeAt Go.RowKit Go.Deep
theorem all_no {f : Nat → Bool} {n k : Nat} (hk : k < n) (h : f k = false) : (List.range n).all f = false := by
 have := all_bad hk h true
 simpa using this
theorem all_yes {f : Nat → Bool} {n : Nat} (h : ∀ j, j < n → f j = true) : (List.range n).all f = true := by
 rw [List.all_eq_true]
 exact fun j hj => h j (List.mem_range.1 hj)
def less (a b : ByteArray) : Bool := Op.bytesLess a.toList b.toList
theorem u8_tri (a b : UInt8) : (decide (a < b) = true ∧ (a == b) = false ∧ decide (b < a) = false) ∨ (decide (a < b) = false ∧ (a == b) = true ∧ decide (b < a) = false) ∨ (decide (a < b) = false ∧ (a == b) = false ∧ decide (b < a) = true) := by
 rcases Nat.lt_trichotomy a.toNat b.toNat with h | h | h
 ·left
  refine ⟨decide_eq_true (UInt8.lt_iff_toNat_lt.2 h), ?_, decide_eq_false fun h' => by have := UInt8.lt_iff_toNat_lt.1 h'; omega⟩
  exact beq_eq_false_iff_ne.2 fun e => by subst e; omega
 ·right; left
  have e : a = b := UInt8.toNat_inj.1 h
  subst e
  refine ⟨decide_eq_false fun h' => by have := UInt8.lt_iff_toNat_lt.1 h'; omega, by simp, decide_eq_false fun h' => by have := UInt8.lt_iff_toNat_lt.1 h'; omega⟩
 ·right; right
  refine ⟨decide_eq_false fun h' => by have := UInt8.lt_iff_toNat_lt.1 h'; omega, ?_, decide_eq_true (UInt8.lt_iff_toNat_lt.2 h)⟩
  exact beq_eq_false_iff_ne.2 fun e => by subst e; omega
theorem bytes_tri : ∀ (a b : List UInt8), (Op.bytesLess a b = true ∧ (a == b) = false ∧ Op.bytesLess b a = false) ∨ (Op.bytesLess a b = false ∧ (a == b) = true ∧ Op.bytesLess b a = false) ∨ (Op.bytesLess a b = false ∧ (a == b) = false ∧ Op.bytesLess b a = true)
 | [], [] => by simp [Op.bytesLess]
 | [], b :: y => by simp [Op.bytesLess]
 | a :: x, [] => by simp [Op.bytesLess]
 | a :: x, b :: y => by
  have hc : (b == a) = (a == b) := Bool.beq_comm ..
  simp only [Op.bytesLess, List.cons_beq_cons, hc]
  rcases u8_tri a b with ⟨h1, h2, h3⟩ | ⟨h1, h2, h3⟩ | ⟨h1, h2, h3⟩
  ·rw [h1, h2, h3]; simp
  ·rw [h1, h2, h3]
   simpa using bytes_tri x y
  ·rw [h1, h2, h3]; simp
theorem less_yes {a b : ByteArray} (h : less a b = true) : Op.bytesLess a.toList b.toList = true ∧ Op.bytesLess b.toList a.toList = false ∧ (b.toList == a.toList) = false := by
 rcases bytes_tri a.toList b.toList with ⟨h1, h2, h3⟩ | ⟨h1, h2, h3⟩ | ⟨h1, h2, h3⟩
 ·exact ⟨h1, h3, by rw [← h2]; exact Bool.beq_comm ..⟩
 ·rw [less, h1] at h; cases h
 ·rw [less, h1] at h; cases h
theorem less_no {a b : ByteArray} (h : less a b = false) : Op.bytesLess a.toList b.toList = false ∧ (Op.bytesLess b.toList a.toList = true ∨ (Op.bytesLess b.toList a.toList = false ∧ (b.toList == a.toList) = true)) := by
 rcases bytes_tri a.toList b.toList with ⟨h1, h2, h3⟩ | ⟨h1, h2, h3⟩ | ⟨h1, h2, h3⟩
 ·rw [less, h1] at h; cases h
 ·exact ⟨h1, Or.inr ⟨h3, by rw [← h2]; exact Bool.beq_comm ..⟩⟩
 ·exact ⟨h1, Or.inl h3⟩
def okInc (l : List ByteArray) (k : Nat) : Bool := decide (k = 0) || less (l.getD (k - 1) ByteArray.empty) (l.getD k ByteArray.empty)
def incB (l : List ByteArray) : Bool := (List.range l.length).all (okInc l)
def okCh (n : Int) (l : List ByteArray) (k : Nat) : Bool := goodChange n (l.getD k ByteArray.empty)
theorem okCh_at {n : Int} {l : List ByteArray} {k : Nat} {y : ByteArray} (hy : l[k]? = some y) : okCh n l k = goodChange n y := by simp [okCh, List.getD, hy]
def allCh (n : Int) (l : List ByteArray) : Bool := (List.range l.length).all (okCh n l)
def okWith (n : Int) (l : List ByteArray) (k : Nat) : Bool := okCh n l k && okInc l k
def goodWith (n : Int) (l : List ByteArray) : Bool := (List.range l.length).all (okWith n l) && inB l.length 1 30
theorem allCh_mem {n : Int} {l : List ByteArray} (h : allCh n l = true) : ∀ c ∈ l, goodChange n c = true := by
 intro c hc
 obtain ⟨k, hk⟩ := List.getElem?_of_mem hc
 rw [allCh, List.all_eq_true] at h
 have := h k (List.mem_range.2 (List.getElem?_eq_some_iff.1 hk).1)
 rwa [okCh_at hk] at this
def isOdd (m : Nat) (c : ByteArray) : Bool := !evenSwaps m c
def odds (m : Nat) (l : List ByteArray) (k : Nat) : Nat := ((l.take k).filter (isOdd m)).length
def oddsR (n : Int) (l : List ByteArray) : Int := if goodWith n l = true then odds n.toNat l l.length else 0
end Go.Proofs.YtidolgonmimicaaGreat
namespace Go.Proofs.YtidolgonmimicaaGreat
open Go.ChangeShapes Go.WideShapes Go.ChangeAt Go.RowKit Go.Deep
def fresh (s : ByteArray) (i : Nat) (k : Nat) : Bool := !(dg s k == dg s i)
def okDig (s : ByteArray) (i : Nat) : Bool := inB (dg s i) 1 s.size && (List.range i).all (fresh s i)
def goodRow (s : ByteArray) : Bool := inB s.size 3 8 && (List.range s.size).all (okDig s)
theorem goodRow_stage {s : ByteArray} (h : inB s.size 3 8 = false) : goodRow s = false := by simp [goodRow, h]
theorem goodRow_all {s : ByteArray} (h : inB s.size 3 8 = true) : goodRow s = (List.range s.size).all (okDig s) := by simp [goodRow, h]
theorem goodRow_n {s : ByteArray} (h : goodRow s = true) : 3 ≤ s.size ∧ s.size ≤ 8 := by
 rcases hs : inB (s.size : Int) 3 8
 ·rw [goodRow_stage hs] at h; cases h
 ·have := inB_t hs; omega
def tg (s : ByteArray) (i : Nat) : Nat → Bool → Bool
 | 0, b => b
 | k + 1, b => if dg s i < dg s k then !(tg s i k b) else tg s i k b
def evo (s : ByteArray) : Nat → Bool
 | 0 => true
 | i + 1 => tg s i i (evo s i)
def evenRow (s : ByteArray) : Bool := evo s s.size
def okRow (l : List ByteArray) (k : Nat) : Bool := goodRow (l.getD k ByteArray.empty) && ((l.getD k ByteArray.empty).size == (l.getD 0 ByteArray.empty).size)
def goodRows (l : List ByteArray) : Bool := (List.range l.length).all (okRow l) && decide (l.length ≤ 800)
def signsR (l : List ByteArray) : List Bool := if goodRows l = true then l.map evenRow else []
def mask (s : ByteArray) : Nat → Nat
 | 0 => 0
 | k + 1 => mask s k ||| (1 <<< (dg s k - 1).toNat)
theorem mask_0 (s : ByteArray) : mask s 0 = 0 := rfl
theorem mask_bit {s : ByteArray} {i : Nat} : ∀ (k : Nat), (∀ j, j < k → 1 ≤ dg s j) → 1 ≤ dg s i → (mask s k).testBit (dg s i - 1).toNat = !(List.range k).all (fresh s i)
 | 0, _, _ => by simp [mask]
 | k + 1, h, hi => by
  have ih := mask_bit (s := s) (i := i) k (fun j hj => h j (by omega)) hi
  have hk := h k (by omega)
  rw [mask, Nat.testBit_or, ih, List.range_succ, List.all_append, Nat.one_shiftLeft, Nat.testBit_two_pow]
  have : decide ((dg s k - 1).toNat = (dg s i - 1).toNat) = !(fresh s i k) := by
   rw [Bool.eq_iff_iff]
   simp only [fresh, decide_eq_true_eq, Bool.not_not, beq_iff_eq]
   omega
  rw [this]
  simp
theorem bits_and : ∀ m : Nat, m < 256 → ∀ b : Nat, b < 8 → (bits BinOp.and IntKind.i64 ((m : Int) / 2 ^ b) 1 == 1) = Nat.testBit m b :=
 of_decide_eq_true (by kernel_rfl)
theorem bits_or : ∀ m : Nat, m < 256 → ∀ b : Nat, b < 8 → bits BinOp.or IntKind.i64 (m : Int) (wrap64 (2 ^ b)) = ((m ||| (1 <<< b) : Nat) : Int) ∧ (m ||| (1 <<< b)) < 256 :=
 of_decide_eq_true (by kernel_rfl)
end Go.Proofs.YtidolgonmimicaaGreat
namespace Go.Proofs.YtidolgonmimicaaGreat
open Go.ChangeShapes Go.WideShapes Go.ChangeAt Go.RowKit Go.Deep
def roundsS (n : Nat) : ByteArray := (ByteArray.mk #[49, 50, 51, 52, 53, 54, 55, 56]).extract 0 n
def cval (l : List Int) (j : Nat) : Int := if l.contains ((j : Int) + 1) then 50 + j else if l.contains (j : Int) then 48 + j else 49 + j
def rowV (n : Nat) (l : List Int) : List Int := (List.range n).map (cval l)
theorem rowV_len (n : Nat) (l : List Int) : (rowV n l).length = n := by simp [rowV]
theorem rowV_nil : ∀ n, n < 9 → nums (roundsS n) = rowV n [] := of_decide_eq_true (by kernel_rfl)
theorem rounds_size : ∀ n, n < 9 → (roundsS n).size = n := of_decide_eq_true (by kernel_rfl)
theorem rowV_step {n p : Nat} {l : List Int} (hp : 1 ≤ p) (hn : p < n) (hl : ∀ x ∈ l, x + 2 ≤ (p : Int)) :
  rowV n (l ++ [(p : Int)]) = ((rowV n l).set (p - 1) (49 + p)).set p (48 + p) := by
 apply List.ext_getElem (by simp [rowV])
 intro j h1 h2
 simp only [rowV, List.length_map, List.length_range] at h1
 rw [List.getElem_set, List.getElem_set]
 simp only [rowV, List.getElem_map, List.getElem_range]
 have hc : ∀ x : Int, (l ++ [(p : Int)]).contains x = (l.contains x || (x == p)) := fun x => by rw [Bool.eq_iff_iff]; simp
 have hno : ∀ x : Int, (p : Int) ≤ x + 1 → l.contains x = false := fun x hx => by
  rw [Bool.eq_false_iff]
  intro h
  have := hl x (by simpa using h)
  omega
 by_cases e1 : p = j
 ·subst e1
  rw [if_pos rfl, cval, hc, hc, hno _ (by omega), hno _ (by omega)]
  have a : (((p : Int) + 1) == (p : Int)) = false := beq_eq_false_iff_ne.2 (by omega)
  rw [a]
  simp
 ·rw [if_neg e1]
  by_cases e2 : p - 1 = j
  ·rw [if_pos e2, cval, hc]
   have a : (((j : Int) + 1) == (p : Int)) = true := beq_iff_eq.2 (by omega)
   rw [a]
   simp
   omega
  ·rw [if_neg e2, cval, cval, hc, hc]
   have a : (((j : Int) + 1) == (p : Int)) = false := beq_eq_false_iff_ne.2 (by omega)
   have b : ((j : Int) == (p : Int)) = false := beq_eq_false_iff_ne.2 (by omega)
   rw [a, b, Bool.or_false, Bool.or_false]
theorem rowV_plain {n q : Nat} {l : List Int} (hn : q + 1 < n) (hl : ∀ x ∈ l, x + 2 ≤ ((q + 1 : Nat) : Int)) :
  (rowV n l)[q]? = some (49 + (q : Int)) ∧ (rowV n l)[q + 1]? = some (49 + ((q : Int) + 1)) := by
 have hno : ∀ x : Int, (q : Int) ≤ x → l.contains x = false := fun x hx => by
  rw [Bool.eq_false_iff]
  intro h
  have := hl x (by simpa using h)
  omega
 constructor
 ·rw [rowV, List.getElem?_map, List.getElem?_range (by omega)]
  show some (cval l q) = _
  rw [cval, hno _ (by omega), hno _ (by omega)]
  rfl
 ·rw [rowV, List.getElem?_map, List.getElem?_range (by omega)]
  show some (cval l (q + 1)) = _
  rw [cval, hno _ (by omega), hno _ (by omega)]
  rfl
def chRow (n : Nat) (c : ByteArray) : ByteArray := strOfNums (rowV n (swaps n c))
theorem strOfNums_size (l : List Int) : (strOfNums l).size = l.length := by
 simp [strOfNums, ByteArray.size]
theorem chRow_size (n : Nat) (c : ByteArray) : (chRow n c).size = n := by rw [chRow, strOfNums_size, rowV_len]
theorem sws_in (st : Int → Bool) (n : Nat) : ∀ p, ∀ x ∈ sws st n p, (p : Int) ≤ x ∧ x < n := by
 intro p
 induction p using sws.induct st n with
 | case1 p h hs ih => rw [sws_stay h hs]; intro x hx; have := ih x hx; omega
 | case2 p h hs ih =>
  rw [sws_swap h (by simpa using hs)]
  intro x hx
  rcases List.mem_cons.1 hx with rfl | hx
  ·omega
  ·have := ih x hx; omega
 | case3 p h => rw [sws_end h]; intro x hx; cases hx
theorem sws_far (st : Int → Bool) (n : Nat) : ∀ p, (sws st n p).Pairwise fun x y => x + 2 ≤ y := by
 intro p
 induction p using sws.induct st n with
 | case1 p h hs ih => rw [sws_stay h hs]; exact ih
 | case2 p h hs ih =>
  rw [sws_swap h (by simpa using hs), List.pairwise_cons]
  exact ⟨fun x hx => by have := sws_in st n (p + 2) x hx; omega, ih⟩
 | case3 p h => rw [sws_end h]; exact List.Pairwise.nil
def timesL (a b : ByteArray) : List Int := (nums b).map fun z => PlainAid.bt a (z - 49).toNat
def timesS (a b : ByteArray) : ByteArray := strOfNums (timesL a b)
theorem timesL_len (a b : ByteArray) : (timesL a b).length = b.size := by rw [timesL, List.length_map, nums_len]
theorem timesL_at {a b : ByteArray} {k : Nat} (h : k < b.size) : (timesL a b)[k]? = some (PlainAid.bt a (PlainAid.bt b k - 49).toNat) := by
 rw [timesL, List.getElem?_map, nums_at h]; rfl
def fits (a b : ByteArray) : Prop := ∀ k, k < b.size → 49 ≤ PlainAid.bt b k ∧ PlainAid.bt b k ≤ 48 + a.size
theorem take_far {l : List Int} (h : l.Pairwise fun x y => x + 2 ≤ y) {k : Nat} {y : Int} (hy : l[k]? = some y) : ∀ x ∈ l.take k, x + 2 ≤ y := by
 intro x hx
 obtain ⟨i, hi⟩ := List.getElem?_of_mem hx
 have hk := (List.getElem?_eq_some_iff.1 hy).1
 have hik : i < k := by
  have := (List.getElem?_eq_some_iff.1 hi).1
  rw [List.length_take] at this
  omega
 rw [List.getElem?_take, if_pos hik] at hi
 rw [List.pairwise_iff_getElem] at h
 have h1 := h i k (by omega) hk hik
 rw [List.getElem?_eq_getElem (by omega)] at hi
 rw [List.getElem?_eq_getElem hk] at hy
 injection hi with hi
 injection hy with hy
 rw [hi, hy] at h1
 exact h1
theorem cval_in {n j : Nat} {l : List Int} (hj : j < n) (hl : ∀ x ∈ l, ((1 : Nat) : Int) ≤ x ∧ x < n) : 49 ≤ cval l j ∧ cval l j ≤ 48 + n := by
 rw [cval]
 rcases h1 : l.contains ((j : Int) + 1)
 ·rw [if_neg (by simp)]
  rcases h2 : l.contains (j : Int)
  ·rw [if_neg (by simp)]; omega
  ·rw [if_pos rfl]
   have := hl _ (by simpa using h2)
   omega
 ·rw [if_pos rfl]
  have := hl _ (by simpa using h1)
  omega
theorem chRow_fits {a : ByteArray} (ha : a.size ≤ 8) (c : ByteArray) : fits a (chRow a.size c) := by
 intro k hk
 rw [chRow_size] at hk
 have hc : ∀ j, j < a.size → 49 ≤ cval (swaps a.size c) j ∧ cval (swaps a.size c) j ≤ 48 + (a.size : Int) := fun j hj => cval_in hj (sws_in (stays c) a.size 1)
 have h1 : ∀ x ∈ rowV a.size (swaps a.size c), 0 ≤ x ∧ x < 256 := by
  intro x hx
  simp only [rowV, List.mem_map, List.mem_range] at hx
  obtain ⟨j, hj, rfl⟩ := hx
  have := hc j hj
  omega
 have h2 : (rowV a.size (swaps a.size c))[k]? = some (cval (swaps a.size c) k) := by simp [rowV, hk]
 rw [chRow, bt_strOf h1 h2]
 exact hc k hk
def applyR (a c : ByteArray) : ByteArray := timesS a (chRow a.size c)
theorem applyR_size (a c : ByteArray) : (applyR a c).size = a.size := by rw [applyR, timesS, strOfNums_size, timesL_len, chRow_size]
def rAt (a : ByteArray) (cs : List ByteArray) : Nat → ByteArray
 | 0 => a
 | k + 1 => applyR (rAt a cs k) (cs.getD k ByteArray.empty)
theorem rAt_size (a : ByteArray) (cs : List ByteArray) : ∀ k, (rAt a cs k).size = a.size
 | 0 => rfl
 | k + 1 => by rw [rAt, applyR_size, rAt_size a cs k]
theorem rAt_succ {a : ByteArray} {cs : List ByteArray} {k : Nat} {c : ByteArray} (h : cs[k]? = some c) : rAt a cs (k + 1) = applyR (rAt a cs k) c := by
 rw [rAt, List.getD, h]; rfl
theorem rAt_take (a : ByteArray) (cs : List ByteArray) (m : Nat) : ∀ k, k ≤ m → rAt a (cs.take m) k = rAt a cs k
 | 0, _ => rfl
 | k + 1, h => by
  rw [rAt, rAt, rAt_take a cs m k (by omega), List.getD, List.getD, List.getElem?_take, if_pos (by omega)]
def rowsL (a : ByteArray) (cs : List ByteArray) (k : Nat) : List ByteArray := (List.range k).map (rAt a cs)
theorem rowsL_succ (a : ByteArray) (cs : List ByteArray) (k : Nat) : rowsL a cs (k + 1) = rowsL a cs k ++ [rAt a cs k] := by
 rw [rowsL, List.range_succ, List.map_append]; rfl
def okFrom (n : Int) (cs : List ByteArray) : Bool := allCh n cs && (inB n 3 8 && inB cs.length 1 800)
def fromR (n : Int) (cs : List ByteArray) : List ByteArray := if okFrom n cs = true then rowsL (roundsS n.toNat) cs cs.length else []
end Go.Proofs.YtidolgonmimicaaGreat
namespace Go.Proofs.YtidolgonmimicaaGreat
open Go.ChangeShapes Go.WideShapes Go.ChangeAt Go.RowKit Go.Deep
def fact : Nat → Nat
 | 0 => 1
 | n + 1 => (n + 1) * fact n
theorem fact_pos : ∀ n, 0 < fact n
 | 0 => by decide
 | n + 1 => by rw [fact]; exact Nat.mul_pos (by omega) (fact_pos n)
def cnt (x : Int) (l : List Int) : Nat := l.countP fun y => decide (y < x)
theorem cnt_le (x : Int) (l : List Int) : cnt x l ≤ l.length := List.countP_le_length
theorem cnt_cons (x y : Int) (l : List Int) : cnt x (y :: l) = cnt x l + (if y < x then 1 else 0) := by
 rw [cnt, List.countP_cons, cnt]
 by_cases h : y < x <;> simp [h]
theorem cnt_mono {x y : Int} (h : x < y) : ∀ l : List Int, cnt x l ≤ cnt y l
 | [] => Nat.le_refl _
 | z :: l => by
  have := cnt_mono h l
  rw [cnt_cons, cnt_cons]
  split <;> split <;> omega
theorem cnt_lt {x y : Int} (h : x < y) : ∀ l : List Int, x ∈ l → cnt x l + 1 ≤ cnt y l
 | [], hx => by cases hx
 | z :: l, hx => by
  rw [cnt_cons, cnt_cons]
  rcases List.mem_cons.1 hx with rfl | hx
  ·have := cnt_mono h l
   rw [if_neg (by omega), if_pos h]; omega
  ·have := cnt_lt h l hx
   split <;> split <;> omega
def code : List Int → Nat
 | [] => 0
 | x :: r => cnt x r * fact r.length + code r
theorem code_lt : ∀ l : List Int, code l < fact l.length
 | [] => by decide
 | x :: r => by
  have h1 := code_lt r
  have h2 : (cnt x r + 1) * fact r.length ≤ (r.length + 1) * fact r.length := Nat.mul_le_mul_right _ (by have := cnt_le x r; omega)
  rw [Nat.succ_mul] at h2
  rw [code, List.length_cons, fact]
  omega
theorem code_inj : ∀ (l m : List Int), l.Perm m → code l = code m → l = m
 | [], m, h, _ => h.nil_eq
 | x :: r, [], h, _ => by have := h.length_eq; simp at this
 | x :: r, y :: q, h, e => by
  have hl : r.length = q.length := by have := h.length_eq; simpa using this
  rw [code, code, hl] at e
  have b1 := code_lt r
  have b2 := code_lt q
  rw [hl] at b1
  have ec : cnt x r = cnt y q := by
   have d1 : (cnt x r * fact q.length + code r) / fact q.length = cnt x r := by
    rw [Nat.mul_comm, Nat.mul_add_div (fact_pos _), Nat.div_eq_of_lt b1, Nat.add_zero]
   have d2 : (cnt y q * fact q.length + code q) / fact q.length = cnt y q := by
    rw [Nat.mul_comm, Nat.mul_add_div (fact_pos _), Nat.div_eq_of_lt b2, Nat.add_zero]
   rw [← d1, ← d2, e]
  have er : code r = code q := by rw [ec] at e; omega
  have px : cnt x (y :: q) = cnt x r := by
   have := h.countP_eq (fun z => decide (z < x))
   have h2 : cnt x (x :: r) = cnt x r := by rw [cnt_cons, if_neg (by omega)]; rfl
   rw [← h2]; exact this.symm
  have py : cnt y (y :: q) = cnt y q := by rw [cnt_cons, if_neg (by omega)]; rfl
  have exy : x = y := by
   rcases Int.lt_trichotomy x y with h1 | h1 | h1
   ·have := cnt_lt h1 (y :: q) (h.subset (List.mem_cons_self ..)); omega
   ·exact h1
   ·have := cnt_lt h1 (y :: q) (List.mem_cons_self ..); omega
  subst exy
  rw [code_inj r q h.cons_inv er]
def lh : Nat → List Int → Nat
 | k, [] => k
 | k, x :: r => lh (k * (r.length + 1) + cnt x r) r
def place (s : ByteArray) : Nat := code (nums s)
theorem place_lt (s : ByteArray) : place s < fact s.size := by have := code_lt (nums s); rwa [nums_len] at this
theorem nums_inj {a b : ByteArray} (h : nums a = nums b) : a = b := by
 have hs : a.size = b.size := by have := congrArg List.length h; rwa [nums_len, nums_len] at this
 apply ByteArray.ext_getElem hs
 intro i h1 h2
 have e : (nums a)[i]? = (nums b)[i]? := by rw [h]
 rw [nums_at h1, nums_at h2, PlainAid.bt, PlainAid.bt, dif_pos h1, dif_pos h2] at e
 injection e with e
 exact UInt8.toNat_inj.1 (by omega)
def isRowL (l : List Int) : Prop := l.Nodup ∧ ∀ z ∈ l, 49 ≤ z ∧ z ≤ 48 + (l.length : Int)
theorem goodRow_list {s : ByteArray} (h : goodRow s = true) : isRowL (nums s) := by
 rw [goodRow, Bool.and_eq_true, List.all_eq_true] at h
 have hd : ∀ k, k < s.size → okDig s k = true := fun k hk => h.2 k (List.mem_range.2 hk)
 refine ⟨?_, fun z hz => ?_⟩
 ·rw [List.nodup_iff_pairwise_ne, List.pairwise_iff_getElem]
  intro i j hi hj hij e
  rw [nums_len] at hi hj
  have h1 := nums_at hi; have h2 := nums_at hj
  rw [List.getElem?_eq_getElem (by rw [nums_len]; exact hi)] at h1
  rw [List.getElem?_eq_getElem (by rw [nums_len]; exact hj)] at h2
  injection h1 with h1; injection h2 with h2
  have hj2 := hd j hj
  rw [okDig, Bool.and_eq_true, List.all_eq_true] at hj2
  have := hj2.2 i (List.mem_range.2 hij)
  simp only [fresh, Bool.not_eq_true', beq_eq_false_iff_ne, dg] at this
  omega
 ·obtain ⟨k, hk⟩ := List.getElem?_of_mem hz
  have hkl := (List.getElem?_eq_some_iff.1 hk).1
  rw [nums_len] at hkl
  rw [nums_at hkl] at hk
  injection hk with hk
  have := hd k hkl
  rw [okDig, Bool.and_eq_true] at this
  have := inB_t this.1
  rw [nums_len]
  simp only [dg] at this
  omega
theorem goodRow_of {s : ByteArray} (hn : 3 ≤ s.size ∧ s.size ≤ 8) (h : isRowL (nums s)) : goodRow s = true := by
 rw [goodRow, Bool.and_eq_true, List.all_eq_true]
 refine ⟨by rw [inB, decide_eq_true_iff]; omega, fun k hk => ?_⟩
 have hk := List.mem_range.1 hk
 rw [okDig, Bool.and_eq_true, List.all_eq_true]
 refine ⟨?_, fun j hj => ?_⟩
 ·have := h.2 _ (List.mem_of_getElem? (nums_at hk))
  rw [nums_len] at this
  rw [inB, decide_eq_true_iff, dg]; omega
 ·have hj := List.mem_range.1 hj
  have hp := h.1
  rw [List.nodup_iff_pairwise_ne, List.pairwise_iff_getElem] at hp
  have hne := hp j k (by rw [nums_len]; omega) (by rw [nums_len]; omega) hj
  have h1 := nums_at (s := s) (k := j) (by omega); have h2 := nums_at hk
  rw [List.getElem?_eq_getElem (by rw [nums_len]; omega)] at h1
  rw [List.getElem?_eq_getElem (by rw [nums_len]; exact hk)] at h2
  injection h1 with h1; injection h2 with h2
  simp only [fresh, Bool.not_eq_true', beq_eq_false_iff_ne, dg, ne_eq]
  omega
theorem all_of_len {α : Type} [BEq α] [LawfulBEq α] {l R : List α} (hn : l.Nodup) (hs : l ⊆ R) (hl : R.length ≤ l.length) {x : α} (hx : x ∈ R) : x ∈ l := by
 rcases Classical.em (x ∈ l) with h | h
 ·exact h
 ·have h2 : (x :: l).Nodup := List.nodup_cons.2 ⟨h, hn⟩
  have h3 := h2.length_le_of_subset (l₂ := R) (fun y hy => by
   rcases List.mem_cons.1 hy with rfl | hy
   ·exact hx
   ·exact hs hy)
  rw [List.length_cons] at h3
  omega
def rowSet (n : Nat) : List Int := (List.range n).map fun k : Nat => 49 + (k : Int)
theorem mem_rowSet {n : Nat} {z : Int} : z ∈ rowSet n ↔ 49 ≤ z ∧ z ≤ 48 + (n : Int) := by
 rw [rowSet, List.mem_map]
 constructor
 ·rintro ⟨k, hk, rfl⟩
  have := List.mem_range.1 hk
  omega
 ·rintro ⟨h1, h2⟩
  exact ⟨(z - 49).toNat, List.mem_range.2 (by omega), by omega⟩
theorem rowSet_len (n : Nat) : (rowSet n).length = n := by rw [rowSet, List.length_map, List.length_range]
theorem isRowL_mem {l : List Int} (h : isRowL l) {z : Int} : z ∈ l ↔ 49 ≤ z ∧ z ≤ 48 + (l.length : Int) := by
 refine ⟨h.2 z, fun hz => all_of_len (R := rowSet l.length) h.1 (fun y hy => mem_rowSet.2 (h.2 y hy)) (by rw [rowSet_len]; omega) (mem_rowSet.2 hz)⟩
theorem row_perm {l m : List Int} (h : isRowL l) (g : isRowL m) (e : l.length = m.length) : l.Perm m :=
 (List.perm_ext_iff_of_nodup h.1 g.1).2 fun z => by rw [isRowL_mem h, isRowL_mem g, e]
theorem place_inj {a b : ByteArray} (h : goodRow a = true) (g : goodRow b = true) (e : a.size = b.size) (hp : place a = place b) : a = b :=
 nums_inj (code_inj _ _ (row_perm (goodRow_list h) (goodRow_list g) (by rw [nums_len, nums_len, e])) hp)
theorem rowL_times {a b : ByteArray} (h : isRowL (nums a)) (g : isRowL (nums b)) (e : a.size = b.size) : isRowL (timesL a b) := by
 have hbt : ∀ z ∈ nums b, PlainAid.bt a (z - 49).toNat ∈ nums a ∧ (z - 49).toNat < a.size := fun z hz => by
  have := g.2 z hz
  rw [nums_len] at this
  exact ⟨List.mem_of_getElem? (nums_at (k := (z - 49).toNat) (by omega)), by omega⟩
 refine ⟨?_, fun z hz => ?_⟩
 ·rw [timesL, List.nodup_iff_pairwise_ne, List.pairwise_map]
  have hp := g.1
  rw [List.nodup_iff_pairwise_ne] at hp
  refine hp.imp_of_mem fun {x y} hx hy hne he => hne ?_
  have h1 := hbt x hx; have h2 := hbt y hy
  have h3 := h.1
  rw [List.nodup_iff_pairwise_ne, List.pairwise_iff_getElem] at h3
  have bx := g.2 x hx; have by' := g.2 y hy
  have at1 := nums_at h1.2; have at2 := nums_at h2.2
  rw [List.getElem?_eq_getElem (by rw [nums_len]; exact h1.2)] at at1
  rw [List.getElem?_eq_getElem (by rw [nums_len]; exact h2.2)] at at2
  injection at1 with at1; injection at2 with at2
  rcases Nat.lt_trichotomy (x - 49).toNat (y - 49).toNat with q | q | q
  ·exact absurd (by rw [at1, at2]; exact he) (h3 _ _ (by rw [nums_len]; exact h1.2) (by rw [nums_len]; exact h2.2) q)
  ·omega
  ·exact absurd (by rw [at1, at2]; exact he.symm) (h3 _ _ (by rw [nums_len]; exact h2.2) (by rw [nums_len]; exact h1.2) q)
 ·rw [timesL, List.mem_map] at hz
  obtain ⟨x, hx, rfl⟩ := hz
  have := h.2 _ (hbt x hx).1
  rw [timesL_len, ← e]
  rw [nums_len] at this
  exact this
theorem rowL_bytes {l : List Int} (h : isRowL l) (hl : l.length ≤ 8) : ∀ x ∈ l, 0 ≤ x ∧ x < 256 := fun x hx => by have := h.2 x hx; omega
theorem good_times {a b : ByteArray} (h : goodRow a = true) (g : goodRow b = true) (e : a.size = b.size) : goodRow (timesS a b) = true := by
 have hn := goodRow_n h
 have hr := rowL_times (goodRow_list h) (goodRow_list g) e
 have hl : (timesL a b).length ≤ 8 := by rw [timesL_len]; omega
 exact goodRow_of (by rw [timesS, strOfNums_size, timesL_len]; omega) (by rw [timesS, nums_strOf (rowL_bytes hr hl)]; exact hr)
theorem cval_ne {l : List Int} (hl : ∀ x ∈ l, x + 1 ∉ l) {i j : Nat} (h : i < j) : cval l i ≠ cval l j := by
 intro e
 have a1 : l.contains ((i : Int) + 1) = true → l.contains ((i : Int) + 2) = false := fun q => by
  rcases q2 : l.contains ((i : Int) + 2)
  ·rfl
  ·exact absurd (show (i : Int) + 1 + 1 ∈ l by rw [show (i : Int) + 1 + 1 = (i : Int) + 2 by omega]; simpa using q2) (hl _ (by simpa using q))
 have a2 : l.contains ((i : Int) + 1) = true → l.contains (i : Int) = false := fun q => by
  rcases q2 : l.contains (i : Int)
  ·rfl
  ·exact absurd (show (i : Int) + 1 ∈ l by simpa using q) (hl _ (by simpa using q2))
 have a3 : l.contains ((j : Int) + 1) = true → l.contains (j : Int) = false := fun q => by
  rcases q2 : l.contains (j : Int)
  ·rfl
  ·exact absurd (show (j : Int) + 1 ∈ l by simpa using q) (hl _ (by simpa using q2))
 rw [cval, cval] at e
 by_cases e1 : j = i + 1
 ·subst e1
  rw [show ((i + 1 : Nat) : Int) + 1 = (i : Int) + 2 by omega, show ((i + 1 : Nat) : Int) = (i : Int) + 1 by omega] at e
  rcases q1 : l.contains ((i : Int) + 1)
  ·rw [q1] at e
   rcases q2 : l.contains ((i : Int) + 2) <;> rcases q3 : l.contains (i : Int) <;> rw [q2, q3] at e <;> simp at e <;> omega
  ·rw [q1, a1 q1] at e
   simp at e; omega
 ·by_cases e2 : j = i + 2
  ·subst e2
   rw [show ((i + 2 : Nat) : Int) + 1 = (i : Int) + 3 by omega, show ((i + 2 : Nat) : Int) = (i : Int) + 2 by omega] at e
   rcases q1 : l.contains ((i : Int) + 1)
   ·rw [q1] at e
    rcases q2 : l.contains ((i : Int) + 2) <;> rcases q3 : l.contains (i : Int) <;> rcases q4 : l.contains ((i : Int) + 3) <;> rw [q2, q3, q4] at e <;> simp at e <;> omega
   ·rw [q1, a1 q1] at e
    rcases q4 : l.contains ((i : Int) + 3) <;> rw [q4] at e <;> simp at e <;> omega
  ·rcases q1 : l.contains ((i : Int) + 1) <;> rcases q2 : l.contains ((j : Int) + 1) <;> rcases q3 : l.contains (i : Int) <;> rcases q4 : l.contains (j : Int) <;> rw [q1, q2, q3, q4] at e <;> simp at e <;> omega
theorem far_next {l : List Int} (h : l.Pairwise fun x y => x + 2 ≤ y) : ∀ x ∈ l, x + 1 ∉ l := by
 intro x hx hy
 obtain ⟨i, hi⟩ := List.getElem?_of_mem hx
 obtain ⟨j, hj⟩ := List.getElem?_of_mem hy
 rw [List.pairwise_iff_getElem] at h
 have hil := (List.getElem?_eq_some_iff.1 hi).1
 have hjl := (List.getElem?_eq_some_iff.1 hj).1
 rw [List.getElem?_eq_getElem hil] at hi
 rw [List.getElem?_eq_getElem hjl] at hj
 injection hi with hi; injection hj with hj
 rcases Nat.lt_trichotomy i j with q | q | q
 ·have := h i j hil hjl q; omega
 ·subst q; omega
 ·have := h j i hjl hil q; omega
theorem rowL_ch (n : Nat) (c : ByteArray) : isRowL (rowV n (swaps n c)) := by
 have hf := far_next (sws_far (stays c) n 1)
 refine ⟨?_, fun z hz => ?_⟩
 ·rw [List.nodup_iff_pairwise_ne, List.pairwise_iff_getElem]
  intro i j hi hj hij
  simp only [rowV, List.getElem_map, List.getElem_range]
  exact cval_ne hf hij
 ·rw [rowV, List.mem_map] at hz
  obtain ⟨j, hj, rfl⟩ := hz
  have := cval_in (n := n) (List.mem_range.1 hj) (sws_in (stays c) n 1)
  rw [rowV_len]; exact this
theorem good_ch {n : Nat} (hn : 3 ≤ n ∧ n ≤ 8) (c : ByteArray) : goodRow (chRow n c) = true := by
 have hr := rowL_ch n c
 refine goodRow_of (by rw [chRow_size]; exact hn) ?_
 rw [chRow, nums_strOf (rowL_bytes hr (by rw [rowV_len]; omega))]
 exact hr
theorem good_apply {a : ByteArray} (h : goodRow a = true) (c : ByteArray) : goodRow (applyR a c) = true :=
 good_times h (good_ch (goodRow_n h) c) (chRow_size _ _).symm
theorem good_rounds : ∀ n, n < 9 → 3 ≤ n → goodRow (roundsS n) = true := of_decide_eq_true (by kernel_rfl)
end Go.Proofs.YtidolgonmimicaaGreat
namespace Go.Proofs.YtidolgonmimicaaGreat
open Go.ChangeShapes Go.WideShapes Go.ChangeAt Go.RowKit Go.Deep
def fromK : Nat → Nat → List (List Int)
 | _, 0 => [[]]
 | p, 1 => [[(p : Int)]]
 | p, k + 2 => (fromK (p + 1) (k + 1)).map (fun r => (p : Int) :: r) ++ fromK (p + 2) k
def fibK : Nat → Nat
 | 0 => 1
 | 1 => 1
 | k + 2 => fibK (k + 1) + fibK k
theorem fromK_len : ∀ (k p : Nat), (fromK p k).length = fibK k
 | 0, _ => rfl
 | 1, _ => rfl
 | k + 2, p => by rw [fromK, List.length_append, List.length_map, fromK_len (k + 1), fromK_len k, fibK]
theorem fib_le : ∀ k, k < 9 → fibK k ≤ 34 := of_decide_eq_true (by kernel_rfl)
theorem fromK_le {k : Nat} (h : k ≤ 8) (p : Nat) : (fromK p k).length ≤ 34 := by rw [fromK_len]; exact fib_le k (by omega)
theorem fromK_row : ∀ (k p : Nat), ∀ r ∈ fromK p k, r.length ≤ k ∧ ∀ x ∈ r, (p : Int) ≤ x ∧ x < (p : Int) + k
 | 0, p, r, h => by
  simp only [fromK, List.mem_singleton] at h
  subst h; exact ⟨Nat.le_refl _, fun x hx => by cases hx⟩
 | 1, p, r, h => by
  simp only [fromK, List.mem_singleton] at h
  subst h
  refine ⟨Nat.le_refl _, fun x hx => ?_⟩
  rw [List.mem_singleton.1 hx]; omega
 | k + 2, p, r, h => by
  rw [fromK, List.mem_append, List.mem_map] at h
  rcases h with ⟨q, hq, rfl⟩ | h
  ·have ih := fromK_row (k + 1) (p + 1) q hq
   refine ⟨by rw [List.length_cons]; omega, fun x hx => ?_⟩
   rcases List.mem_cons.1 hx with rfl | hx
   ·omega
   ·have := ih.2 x hx; omega
  ·have ih := fromK_row k (p + 2) r h
   exact ⟨by omega, fun x hx => by have := ih.2 x hx; omega⟩
def dig1 (x : Int) : ByteArray := strOfNums [48 + x]
def placesS (l : List Int) : ByteArray := strOfNums (l.map fun x => 48 + x)
theorem placesS_snoc (l : List Int) (x : Int) : placesS (l ++ [x]) = placesS l ++ dig1 x := by
 rw [placesS, placesS, dig1, strOf_append, List.map_append]; rfl
theorem placesS_size (l : List Int) : (placesS l).size = l.length := by rw [placesS, strOfNums_size, List.length_map]
def ofPl (l : List Int) : ByteArray := if l.length = 0 then ⟨#[45]⟩ else placesS l
theorem ofPl_0 {l : List Int} (h : l.length = 0) : ofPl l = ⟨#[45]⟩ := by rw [ofPl, if_pos h]
theorem ofPl_pos {l : List Int} (h : 0 < l.length) : ofPl l = placesS l := by rw [ofPl, if_neg (by omega)]
theorem ofPl_size {l : List Int} (h : l.length ≤ 8) : (ofPl l).size ≤ 8 := by
 by_cases h0 : l.length = 0
 ·rw [ofPl_0 h0]; decide
 ·rw [ofPl_pos (by omega), placesS_size]; exact h
def chsRaw (n : Nat) : List ByteArray := ((fromK 1 n).map ofPl).filter fun c => goodChange n c
end Go.Proofs.YtidolgonmimicaaGreat
namespace Go.Proofs.YtidolgonmimicaaGreat
open Go.ChangeShapes Go.WideShapes Go.ChangeAt Go.RowKit Go.Deep
theorem flatMap_nil_of {α : Type} {e : α → List Value} {s : Nat} {l : List α} (h : l.length = 0) : l.flatMap e = [] := by
 rw [List.length_eq_zero_iff] at h
 subst h; rfl
theorem run_append_recs {P : Program} {α : Type} {e : α → List Value} {s bytes : Nat} {t E : TypeId} {z : Value} (he : ElemOk P t E z s bytes) (h1 : ∀ x, ∀ u ∈ e x, u.oneCell' = true) {W : World} {base : Nat} {A : Option Addr} {n c : Nat} {l : List α} (hown : Owned e s E W base A n c l)
  {B : Option Addr} {m d : Nat} {l2 : List α} (hr : Recs e s W B l2) (hm : l2.length = m) (hn : n + m ≤ 16777216) (hby : bytes ≤ 4096) (hbase : base ≤ W.heap.size) (ty : TypeId) :
  ∃ A' c' w', (Builtin.append_ #[t, t] ty #[.slice A n c, .slice B m d]).run P W = .ok (.slice A' (n + m) c') w' ∧ Owned e s E w' base A' (n + m) c' (l ++ l2) ∧ W.grownBy w' (Value.slice A n c).ownBlock ∧
   (∀ k, (Value.slice A' (n + m) c').ownBlock = some k → (Value.slice A n c).ownBlock = some k ∨ W.heap.size ≤ k) := by
 obtain ⟨i0, hi, hz0, hz1, hz2⟩ := info_parts he.info
 subst hm
 rcases B with _ | ad
 ·have hm : l2.length = 0 := by
   rcases Nat.eq_zero_or_pos l2.length with h | h
   ·exact h
   ·obtain ⟨b, o, e1, _⟩ := hr.2.2 h
    cases e1
  have e2 : l2 = [] := List.eq_nil_of_length_eq_zero hm
  subst e2
  refine ⟨A, c, W, ?_, by simpa using hown, World.grownBy.refl W _, fun k hk => .inl hk⟩
  rcases hown.2.2.2 with ⟨hv, h0⟩ | ⟨g, cap, cur, hv, _, _, hnc, _⟩
  ·injection hv with a1 a2 a3
   subst a1 a2 a3
   simp [Builtin.append_, run_underlying he.under, sizeOf, typeInfo, hi, Builtin.lenOf, Builtin.firstCells]
  ·injection hv with a1 a2 a3
   subst a1 a3
   simp [Builtin.append_, run_underlying he.under, sizeOf, typeInfo, hi, Builtin.lenOf, Builtin.firstCells, hnc, storeCells]
 ·have hcells : ∀ j u, (l2.flatMap e)[j]? = some u → W.cell? (ad.add j) = some u := by
   intro j u hu
   rcases Nat.eq_zero_or_pos l2.length with h0 | h0
   ·rw [flatMap_nil_of (e := e) (s := s) h0] at hu; simp at hu
   ·obtain ⟨b, o, e1, _, hc⟩ := hr.2.2 h0
    injection e1 with e1
    subst e1
    rw [Go.WideShapes.add_plain]
    exact hc j u hu
  obtain ⟨v', w', hrun, h2, h3, _, h5⟩ := run_append_own_at (P := P) W base t ty E i0 z s bytes he.under hi hz0 hz1 hz2 he.zs he.pos _ n _ hown.2.2 ad l2.length d (l2.flatMap e) (flatMap_len hown.1 l2) hcells
   (fun u hu => by obtain ⟨x, _, hx⟩ := List.mem_flatMap.1 hu; exact h1 x u hx) (by unfold maxLen; omega) (Nat.le_trans (Nat.mul_le_mul hn hby) (by decide)) hbase
  obtain ⟨A', c', rfl, ho⟩ := Owned.of_row (l := l ++ l2) hown.1 h2 (by simp) (by rw [List.length_append, hown.2.1])
  refine ⟨A', c', w', hrun, ho, h3, fun k hk => ?_⟩
  rcases h5 with h5 | h5
  ·exact .inl (by rw [← h5]; exact hk)
  ·right
   rw [h5] at hk
   injection hk with hk
   omega
theorem wp_append_recs {P : Program} {α : Type} {e : α → List Value} {s bytes : Nat} {t E : TypeId} {z : Value} (he : ElemOk P t E z s bytes) (h1 : ∀ x, ∀ u ∈ e x, u.oneCell' = true) {o : Oper} {a : Act} {K : Act → World → Prop} {Q : Exit → Act → World → Prop} {W : World}
  (S X : Operand) (ho : o.op = .call { callee := .builtin .append, args := #[S, X], argTypes := #[t, t] })
  {base : Nat} {A : Option Addr} {n c : Nat} {l : List α} (hs : a.eval S = .slice A n c) (hown : Owned e s E W base A n c l) {B : Option Addr} {m d : Nat} {l2 : List α} (hx : a.eval X = .slice B m d) (hr : Recs e s W B l2) (hm : l2.length = m)
  (hn : n + m ≤ 16777216) (hby : bytes ≤ 4096) (hbase : base ≤ W.heap.size)
  (h : ∀ A' c' w', Owned e s E w' base A' (n + m) c' (l ++ l2) → W.grownBy w' (Value.slice A n c).ownBlock → (∀ k, (Value.slice A' (n + m) c').ownBlock = some k → (Value.slice A n c).ownBlock = some k ∨ W.heap.size ≤ k) → K (a.put o.dst (.slice A' (n + m) c')) w') : o.wp P a W K Q := by
 obtain ⟨A', c', w', hrun, h2, h3, h4⟩ := run_append_recs he h1 hown hr hm hn hby hbase o.type
 unfold Oper.wp execOp
 simp only [ho, resolve, invoke, builtin, Sem.run_bind, Sem.run_pure, Result.andThen_ok, List.map_toArray, List.map_cons, List.map_nil, hs, hx]
 rw [hrun]
 exact h A' c' w' h2 h3 h4
theorem wpList_append_recs {P : Program} {α : Type} {e : α → List Value} {s bytes : Nat} {t E : TypeId} {z : Value} (he : ElemOk P t E z s bytes) (h1 : ∀ x, ∀ u ∈ e x, u.oneCell' = true) {ops : Array Oper} {rest : List Oper} {o : Oper} {a : Act} {Q : Exit → Act → World → Prop} {W : World}
  (hgd : o.guard = none) (S X : Operand) (ho : o.op = .call { callee := .builtin .append, args := #[S, X], argTypes := #[t, t] })
  {base : Nat} {A : Option Addr} {n c : Nat} {l : List α} (hs : a.eval S = .slice A n c) (hown : Owned e s E W base A n c l) {B : Option Addr} {m d : Nat} {l2 : List α} (hx : a.eval X = .slice B m d) (hr : Recs e s W B l2) (hm : l2.length = m)
  (hn : n + m ≤ 16777216) (hby : bytes ≤ 4096) (hbase : base ≤ W.heap.size)
  (h : ∀ A' c' w', Owned e s E w' base A' (n + m) c' (l ++ l2) → W.grownBy w' (Value.slice A n c).ownBlock → (∀ k, (Value.slice A' (n + m) c').ownBlock = some k → (Value.slice A n c).ownBlock = some k ∨ W.heap.size ≤ k) → wpList P ops Q rest (a.put o.dst (.slice A' (n + m) c')) w') :
  wpList P ops Q (o :: rest) a W :=
 wpList_plain hgd fun _ hK => wp_append_recs he h1 S X ho hs hown hx hr hm hn hby hbase fun A' c' w' h2 h3 h4 => hK _ _ (h A' c' w' h2 h3 h4)
theorem step_append_recs {P : Program} {α : Type} {e : α → List Value} {s bytes : Nat} {t E : TypeId} {z : Value} (he : ElemOk P t E z s bytes) (h1 : ∀ x, ∀ u ∈ e x, u.oneCell' = true) {ops : Array Oper} {o : Oper} {a : Act} {K : Act → World → Prop} {Q : Exit → Act → World → Prop} {E' : Prop} {W : World}
  (hgd : o.guard = none) (S X : Operand) (ho : o.op = .call { callee := .builtin .append, args := #[S, X], argTypes := #[t, t] })
  {base : Nat} {A : Option Addr} {n c : Nat} {l : List α} (hs : a.eval S = .slice A n c) (hown : Owned e s E W base A n c l) {B : Option Addr} {m d : Nat} {l2 : List α} (hx : a.eval X = .slice B m d) (hr : Recs e s W B l2) (hm : l2.length = m)
  (hn : n + m ≤ 16777216) (hby : bytes ≤ 4096) (hbase : base ≤ W.heap.size)
  (h : ∀ A' c' w', Owned e s E w' base A' (n + m) c' (l ++ l2) → W.grownBy w' (Value.slice A n c).ownBlock → (∀ k, (Value.slice A' (n + m) c').ownBlock = some k → (Value.slice A n c).ownBlock = some k ∨ W.heap.size ≤ k) → K (a.put o.dst (.slice A' (n + m) c')) w') :
  if Region.wanted o (yielded ops a.tmps) = true then Oper.wp P o a W K Q else E' := by
 have hw : Region.wanted o (yielded ops a.tmps) = true := by simp [Region.wanted, hgd]
 rw [if_pos hw]
 exact wp_append_recs he h1 S X ho hs hown hx hr hm hn hby hbase h
theorem grown_base {w w' : World} {v : Value} {base : Nat} (hg : w.grownBy w' v.ownBlock) (hb : base ≤ w.heap.size) (hr : ∀ k, v.ownBlock = some k → base ≤ k) : Below base w w' := (Below.refl _ _).grown hg hb fun k hk => hr k hk
theorem lit_app {w w' : World} {o : Obj} {n c : Nat} (hg : (w.alloc o).grownBy w' (Value.slice (some ⟨w.heap.size, 0, none⟩) n c).ownBlock) : Below w.heap.size w w' :=
 ((Below.refl _ _).alloc (Nat.le_refl _) _).trans (grown_base hg (by simp) (fun k hk => by injection hk with hk; dsimp only at hk; omega))
theorem Recs.alloc {α : Type} {e : α → List Value} {s : Nat} {w : World} {A : Option Addr} {l : List α} (h : Recs e s w A l) (o : Obj) : Recs e s (w.alloc o) A l := h.up ((Below.refl _ _).alloc (Nat.le_refl _) o)
theorem Owned.ne {α β : Type} {e : α → List Value} {s : Nat} {E : TypeId} {e' : β → List Value} {s' : Nat} {E' : TypeId} {w : World} {base base' : Nat} {A B : Option Addr} {n c m d : Nat} {l : List α} {l' : List β}
  (h : Owned e s E w base A n c l) (h' : Owned e' s' E' w base' B m d l') (hE : E ≠ E') : ∀ k, (Value.slice A n c).ownBlock = some k → (Value.slice B m d).ownBlock ≠ some k := by
 intro k hk hk'
 rcases h.2.2.2 with ⟨hv, _⟩ | ⟨g, cap, cur, hv, _, hh, _⟩
 ·rw [hv] at hk; cases hk
 ·rcases h'.2.2.2 with ⟨hv', _⟩ | ⟨g', cap', cur', hv', _, hh', _⟩
  ·rw [hv'] at hk'; cases hk'
  ·rw [hv] at hk; rw [hv'] at hk'
   injection hk with hk; injection hk' with hk'
   dsimp only at hk hk'
   subst hk; subst hk'
   rw [hh] at hh'
   injection hh' with hh'
   injection hh' with _ e2 _
   exact hE e2
structure LT {α : Type} (e : α → List Value) (s : Nat) (E F : TypeId) (vs : List Hd) (w : World) (base : Nat) (A : Option Addr) (n c : Nat) (T : List (List α)) : Prop where
 len : T.length = n
 top : Owned slcE 1 F w base A n c vs
 row : ∀ (k : Nat) (v : Hd) (r : List α), vs[k]? = some v → T[k]? = some r → Owned e s E w base v.1 v.2.1 v.2.2 r
section
variable {α : Type} {e : α → List Value} {s : Nat} {E F : TypeId} {vs us : List Hd} {w w' : World} {base : Nat} {A : Option Addr} {n c : Nat} {T : List (List α)}
theorem LT.nil (w : World) (base : Nat) : LT e s E F [] w base none 0 0 ([] : List (List α)) := ⟨rfl, Owned.nil slcE_len _ _ _, fun k v r hv _ => by simp at hv⟩
theorem LT.up (h : LT e s E F vs w base A n c T) (hb : Below w.heap.size w w') : LT e s E F vs w' base A n c T := ⟨h.len, h.top.up hb, fun k v r hv hr => (h.row k v r hv hr).up hb⟩
theorem LT.base_le {base' : Nat} (h : LT e s E F vs w base A n c T) (hb : base' ≤ base) : LT e s E F vs w base' A n c T := ⟨h.len, h.top.base_le hb, fun k v r hv hr => (h.row k v r hv hr).base_le hb⟩
theorem LT.alloc (h : LT e s E F vs w base A n c T) (o : Obj) : LT e s E F vs (w.alloc o) base A n c T := h.up ((Below.refl _ _).alloc (Nat.le_refl _) o)
theorem LT.vlen (h : LT e s E F vs w base A n c T) : vs.length = T.length := by rw [h.top.len, h.len]
theorem LT.add {A' : Option Addr} {c' : Nat} {v : Hd} {r : List α} (h : LT e s E F vs w base A n c T) (hEF : E ≠ F) (hr : Owned e s E w base v.1 v.2.1 v.2.2 r) (ho : Owned slcE 1 F w' base A' (n + 1) c' (vs ++ [v])) (hg : w.grownBy w' (Value.slice A n c).ownBlock) :
  LT e s E F (vs ++ [v]) w' base A' (n + 1) c' (T ++ [r]) := by
 have hne : ∀ {v : Hd} {r : List α}, Owned e s E w base v.1 v.2.1 v.2.2 r → Owned e s E w' base v.1 v.2.1 v.2.2 r := fun hq => hq.kept hg fun k hk e2 => hq.ne h.top hEF k hk e2
 refine ⟨by rw [List.length_append, h.len]; rfl, ho, fun k u q hu hq => ?_⟩
 rw [List.getElem?_append] at hu hq
 by_cases hk : k < vs.length
 ·rw [if_pos hk] at hu
  rw [if_pos (by rw [← h.vlen]; exact hk)] at hq
  exact hne (h.row k u q hu hq)
 ·rw [if_neg hk] at hu
  rw [if_neg (by rw [← h.vlen]; exact hk)] at hq
  have hk0 : k - vs.length = 0 := by
   have := (List.getElem?_eq_some_iff.1 hu).1
   simp at this; omega
  rw [hk0] at hu
  rw [← h.vlen, hk0] at hq
  simp at hu hq
  subst hu hq
  exact hne hr
theorem LT.join {A' B : Option Addr} {c' m d : Nat} {T' : List (List α)} (h : LT e s E F vs w base A n c T) (hEF : E ≠ F) (h' : LT e s E F us w base B m d T') (ho : Owned slcE 1 F w' base A' (n + m) c' (vs ++ us)) (hg : w.grownBy w' (Value.slice A n c).ownBlock) :
  LT e s E F (vs ++ us) w' base A' (n + m) c' (T ++ T') := by
 have hne : ∀ {v : Hd} {r : List α}, Owned e s E w base v.1 v.2.1 v.2.2 r → Owned e s E w' base v.1 v.2.1 v.2.2 r := fun hq => hq.kept hg fun k hk e2 => hq.ne h.top hEF k hk e2
 refine ⟨by rw [List.length_append, h.len, h'.len], ho, fun k u q hu hq => ?_⟩
 rw [List.getElem?_append] at hu hq
 by_cases hk : k < vs.length
 ·rw [if_pos hk] at hu
  rw [if_pos (by rw [← h.vlen]; exact hk)] at hq
  exact hne (h.row k u q hu hq)
 ·rw [if_neg hk] at hu
  rw [if_neg (by rw [← h.vlen]; exact hk)] at hq
  rw [← h.vlen] at hq
  exact hne (h'.row _ u q hu hq)
theorem LT.at_ (h : LT e s E F vs w base A n c T) {k : Nat} (hk : k < n) : ∃ b off v r, A = some ⟨b, off, none⟩ ∧ b < w.heap.size ∧ T[k]? = some r ∧ vs[k]? = some v ∧ w.cell? ⟨b, off + k, none⟩ = some (.slice v.1 r.length v.2.2) ∧ Owned e s E w base v.1 r.length v.2.2 r := by
 obtain ⟨b, off, v, hA, hb, hv, hc⟩ := h.top.recs.at_slc (k := k) (by rw [h.top.len]; exact hk)
 obtain ⟨r, hr⟩ := some_of_lt (l := T) (k := k) (by rw [h.len]; exact hk)
 have ho := h.row k v r hv hr
 have hl := ho.len
 rw [← hl] at ho hc
 exact ⟨b, off, v, r, hA, hb, hr, hv, hc, ho⟩
end
end Go.Proofs.YtidolgonmimicaaGreat
namespace Go.Proofs.YtidolgonmimicaaGreat
open Go.ChangeShapes Go.WideShapes Go.ChangeAt Go.RowKit Go.Deep
theorem own_lit1 {α : Type} {e : α → List Value} {s : Nat} (he : ∀ x, (e x).length = s) (w : World) (E : TypeId) (x : α) {base : Nat} (hb : base ≤ w.heap.size) : Owned e s E (w.alloc (.cells ⟨e x⟩ E)) base (some ⟨w.heap.size, 0, none⟩) 1 1 [x] :=
 ⟨he, rfl, by simpa using World.ownsRow_lit (e := E) (base := base) (size := s) w ⟨e x⟩ 1 hb (by unfold maxLen; omega) (by simp [he])⟩
set_option maxHeartbeats 1000000 in
set_option maxRecDepth 100000 in
theorem spec_l2From : ∀ (k n p : Nat) (w : World), k ≤ 8 → n ≤ 8 → n + 1 = p + k → 1 ≤ p →
  Calls Tryz.prog 250 #[.int .i64 n, .int .i64 p] w fun e w' => ∃ vs A c, e = .returned (.slice A (fromK p k).length c) ∧ LT intE 1 3 134 vs w' w.heap.size A (fromK p k).length c (fromK p k) ∧ Below w.heap.size w w' := by
 intro k
 induction k using Nat.strongRecOn with
 | ind k ih =>
  intro n p w hk hn8 hn hp
  by_cases h0 : k = 0
  ·subst h0
   have hI : (n : Int) < (p : Int) := by omega
   have hl : LT intE 1 3 134 [(none, 0, 0)] (w.alloc (.cells #[.slice none 0 0] 134)) w.heap.size (some ⟨w.heap.size, 0, none⟩) 1 1 [[]] := ⟨rfl, own_lit1 slcE_len w 134 (none, 0, 0) (Nat.le_refl _), fun j v r hv hr => by
    have hj : j = 0 := by have := (List.getElem?_eq_some_iff.1 hv).1; simp at this; exact this
    subst hj
    simp at hv hr
    subst hv hr
    exact Owned.nil intE_len _ _ _⟩
   go_in
   go_wp2
   go_ret
   exact ⟨_, _, _, rfl, hl, by (repeat' (first | (with_reducible exact Below.refl _ _) | (with_reducible assumption) | (with_reducible refine below_drewN ?_ _) | (with_reducible refine Below.drew ?_) | (with_reducible refine below_alloc ?_ _) | (with_reducible refine Below.alloc ?_ ?_ _) | (with_reducible refine Below.setCell ?_ ?_ _) | (with_reducible refine below_go ?_ (by with_reducible assumption)) | (with_reducible refine below_then (by with_reducible assumption) ?_ ?_) | go_size))⟩
  ·obtain ⟨q, rfl⟩ : ∃ q, k = q + 1 := ⟨k - 1, by omega⟩
   have hI : ¬ (n : Int) < (p : Int) := by omega
   have IH := Lib.hid (ih q (by omega))
   have IH2 := Lib.hid (fun m (hm : m + 1 = q) => ih m (by omega))
   have hlen := Lib.hid (fromK_le (k := q) (by omega) (p + 1))
   have hrow := Lib.hid (fromK_row q (p + 1))
   have hT : Hid (fromK p (q + 1) = (fromK (p + 1) q).map (fun r => (p : Int) :: r) ++ (if q = 0 then [] else fromK (p + 2) (q - 1))) := Lib.hid (by rcases q with _ | q <;> simp [fromK])
   clear ih
   go_in
   go_wp2_with fail
   rw [show ((p : Int) + 1) = ((p + 1 : Nat) : Int) by omega]
   refine (IH.out n (p + 1) w (by omega) (by omega) (by omega) (by omega)).mono ?_; rintro e w1 ⟨vs1, A1, c1, rfl, L1, hb1⟩
   have HW1 := hb1.size
   go_wp2
   go_loopw [5, 17] (fun v i wr => ∃ (j : Nat) (us : List Hd) (A' : Option Addr) (c' : Nat), j ≤ (fromK (p + 1) q).length ∧ i = .int .i64 j ∧ v = .slice A' j c' ∧ Hid (LT intE 1 3 134 us wr w1.heap.size A' j c' (((fromK (p + 1) q).take j).map fun r => (p : Int) :: r)) ∧ Below w1.heap.size w1 wr) (fun _ i _ => (fromK (p + 1) q).length - (intOf i).toNat)
   case atStart => exact ⟨0, [], none, 0, Nat.zero_le _, rfl, rfl, Lib.hid (LT.nil _ _), Below.refl _ _⟩
   case round =>
    obtain ⟨j, us, A', c', hj, rfl, rfl, HL, hb⟩ := hrel
    by_cases hlt : j < (fromK (p + 1) q).length
    ·obtain ⟨b3, o3, v, r, rfl, hbb, hr, hv, hc, ho⟩ := (L1.up hb).at_ hlt
     have hrl := hrow.out r (List.mem_of_getElem? hr)
     have HR := Lib.hid hr
     have HO := Lib.hid ho
     have hsz := hb.size
     have hl := hlen.out
     clear hr hv ho
     go_wp2_with (first | (at_builtin; ((refine wpList_append_recs Tryz.elInt intE_one rfl (.tmp 23) (.tmp 24) rfl rfl (own_lit1 intE_len _ _ (p : Int) (base := wr.heap.size) (Nat.le_refl _)) rfl (HO.out.recs.alloc _) rfl ?_ (by decide) ?_ ?_; (focus (first | omega | (simp only [World.size_alloc]; done) | (simp only [World.size_alloc]; omega) | (simp; done) | (simp; omega))); (focus (first | omega | (simp only [World.size_alloc]; done) | (simp only [World.size_alloc]; omega) | (simp; done) | (simp; omega))); intro A2 c2 w2 ho2 hg2 hl2; have hb2 := lit_app hg2; have HL2 := Lib.hid (HL.out.up hb2); have hsz2 := hb2.size))) | (at_builtin; go_must ((refine wpList_append_recs Tryz.elInts slcE_one rfl (.tmp 21) (.tmp 26) rfl rfl (HL2.out.top.alloc _) rfl (own_lit1 slcE_len _ _ ((A2, 1 + r.length, c2) : Hd) (Nat.le_refl _)).recs rfl ?_ (by decide) ?_ ?_; (focus (first | omega | (simp only [World.size_alloc]; done) | (simp only [World.size_alloc]; omega) | (simp; done) | (simp; omega))); (focus (first | omega | (simp only [World.size_alloc]; done) | (simp only [World.size_alloc]; omega) | (simp; done) | (simp; omega))); intro A3 c3 w3 ho3 hg3 hl3))))
     have hL3 := (HL2.out.alloc (.cells #[.slice A2 (1 + r.length) c2] 134)).add (by decide) ((ho2.base_le hsz).alloc _) ho3 hg3
     have hb3 : Below w1.heap.size w1 w3 := ((hb.trans (hb2.mono hsz)).alloc (by omega) _).trans (grown_base hg3 (by simp; omega) (fun k hk => (HL2.out.top.blk hk).1))
     go_roundw
     case rel => exact ⟨j + 1, _, A3, c3, by omega, by go_num, by go_num, Lib.hid (by rw [take_succ_some HR.out, List.map_append]; exact hL3), hb3⟩
     case measure => simp [intOf]; omega
    ·obtain rfl : j = (fromK (p + 1) q).length := by omega
     have e1 := Lib.hid (show ((fromK (p + 1) q).take (fromK (p + 1) q).length).map (fun r => (p : Int) :: r) = (fromK (p + 1) q).map fun r => (p : Int) :: r by rw [List.take_of_length_le (Nat.le_refl _)])
     have hsz := hb.size
     rcases Nat.eq_zero_or_pos q with hq | hq
     ·subst hq
      have hI2 : ¬ (p : Int) < (n : Int) := by omega
      have e2 := Lib.hid (show fromK p (0 + 1) = (fromK (p + 1) 0).map (fun r => (p : Int) :: r) by rw [hT.out]; simp)
      have e3 := Lib.hid (show (fromK (p + 1) 0).length = 1 from rfl)
      go_wp2
      go_ret
      have hl := HL.out
      rw [e1.out, ← e2.out] at hl
      exact ⟨_, _, _, rfl, hl.base_le HW1, below_go hb1 hb⟩
     ·obtain ⟨m, rfl⟩ : ∃ m, q = m + 1 := ⟨q - 1, by omega⟩
      have hI2 : (p : Int) < (n : Int) := by omega
      go_wp2_with fail
      rw [show ((p : Int) + 2) = ((p + 2 : Nat) : Int) by omega]
      refine (IH2.out m rfl n (p + 2) wr (by omega) (by omega) (by omega) (by omega)).mono ?_; rintro e w4 ⟨vs4, A4, c4, rfl, L4, hb4⟩
      have HL4 := Lib.hid (HL.out.up hb4)
      have hl2 := Lib.hid (fromK_le (k := m) (by omega) (p + 2))
      have hl3 := hl2.out
      have hl1 := hlen.out
      have hsz4 := hb4.size
      have e2 := Lib.hid (show fromK p (m + 1 + 1) = (fromK (p + 1) (m + 1)).map (fun r => (p : Int) :: r) ++ fromK (p + 2) m by rw [hT.out, if_neg (by omega)]; rfl)
      have e3 := Lib.hid (show (fromK p (m + 1 + 1)).length = (fromK (p + 1) (m + 1)).length + (fromK (p + 2) m).length by rw [e2.out, List.length_append, List.length_map])
      go_wp2_with (first | (at_builtin; go_must ((refine wpList_append_recs Tryz.elInts slcE_one rfl (.tmp 32) (.tmp 36) rfl rfl HL4.out.top rfl L4.top.recs L4.top.len ?_ (by decide) ?_ ?_; (focus (first | omega | (simp only [World.size_alloc]; done) | (simp only [World.size_alloc]; omega) | (simp; done) | (simp; omega))); (focus (first | omega | (simp only [World.size_alloc]; done) | (simp only [World.size_alloc]; omega) | (simp; done) | (simp; omega))); intro A5 c5 w5 ho5 hg5 hl5))))
      go_ret
      have hL5 := HL4.out.join (by decide) (L4.base_le hsz) ho5 hg5
      rw [e1.out, ← e2.out, ← e3.out] at hL5
      rw [e3.out]
      rw [e3.out] at hL5
      exact ⟨_, _, _, rfl, hL5.base_le HW1, below_go hb1 ((hb.trans (hb4.mono hsz)).trans (grown_base hg5 (by omega) (fun k hk => (HL4.out.top.blk hk).1)))⟩
end Go.Proofs.YtidolgonmimicaaGreat
namespace Go.Proofs.YtidolgonmimicaaGreat
open Go.ChangeShapes Go.WideShapes Go.ChangeAt Go.RowKit Go.Deep
theorem spec_l1In (n a b : Int) (w : World) :
  Calls Tryz.prog 81 #[.int .i64 n, .int .i64 a, .int .i64 b] w fun e w' => e = .returned (.bool (inB n a b)) ∧ w = w' := by
 by_cases h : a ≤ n
 all_goals
  go_in
  go_wp2
  all_goals go_ret
  all_goals (refine ⟨?_, rfl⟩; simp only [inB]; simp_all <;> omega)
theorem impl_isStage (n : Int) (w : World) :
  Calls Tryz.prog 225 #[.int .i64 n] w fun e w' => e = .returned (.bool (inB n 3 8)) ∧ w = w' := by
 by_cases h : 3 ≤ n
 all_goals
  go_in
  go_wp2
  all_goals go_ret
  all_goals (refine ⟨?_, rfl⟩; simp only [inB]; simp_all <;> omega)
end Go.Proofs.YtidolgonmimicaaGreat
namespace Go.Proofs.YtidolgonmimicaaGreat
open Go.ChangeShapes Go.WideShapes Go.ChangeAt Go.RowKit Go.Deep
theorem spec_l2Stays {c : ByteArray} {p : Int} {w : World} (hz : c.size ≤ 16777216) (hp : I64 p) :
  Calls Tryz.prog 262 #[.string c, .int .i64 p] w fun e w' => e = .returned (.bool (stays c p)) ∧ w = w' := by
 have hb := PlainAid.get_bt c
 go_in
 go_wp2
 go_loopw [5] (fun i wr => ∃ k : Nat, k ≤ c.size ∧ i = .int .i64 k ∧ Hid (stays c p = ((digs c).drop k).contains p) ∧ w = wr) (fun i _ => c.size - (intOf i).toNat)
 case atStart => exact ⟨0, Nat.zero_le _, rfl, Lib.hid rfl, rfl⟩
 case round =>
  obtain ⟨k, hk, rfl, HK, rfl⟩ := hrel
  by_cases hlt : k < c.size
  ·have hw := wrap_bt c k
   have hw2 := wrap_dg c k
   have HD := Lib.hid (digs_drop hlt)
   rcases he : (dg c k == p)
   ·have he' := Lib.hid he
    go_wp2
    go_roundw
    case rel =>
     refine ⟨k + 1, by omega, by go_num, Lib.hid ?_, trivial⟩
     rw [HK.out, HD.out, List.contains_cons, show (p == dg c k) = false by rw [← he'.out]; exact Bool.beq_comm ..]
     rfl
    case measure => simp [intOf]; omega
   ·have he' := Lib.hid he
    go_wp2
    go_ret
    refine ⟨ret_bool ?_, rfl⟩
    rw [HK.out, HD.out, List.contains_cons, show (p == dg c k) = true by rw [← he'.out]; exact Bool.beq_comm ..]
    rfl
  ·obtain rfl : k = c.size := by omega
   have e0 : stays c p = false := by rw [HK.out, List.drop_eq_nil_of_le (by rw [digs_len]; omega)]; rfl
   go_wp2
   go_ret
   exact ⟨ret_bool e0.symm, rfl⟩
theorem spec_l2Change {c : ByteArray} {n : Int} {w : World} (hz : c.size ≤ 16777216) (hn : I64 n) :
  Calls Tryz.prog 182 #[.int .i64 n, .string c] w fun e w' => e = .returned (.bool (goodChange n c)) ∧ w = w' := by
 have hb := PlainAid.get_bt c
 rcases h1 : inB n 3 8
 ·have e0 := Lib.hid (goodChange_stage (c := c) h1)
  go_in
  go_wp2_with (first | (go_at_call 81; refine (spec_l1In _ _ _ _).mono ?_; rintro e w' ⟨rfl, rfl⟩))
  go_ret
  exact ⟨ret_bool e0.out.symm, rfl⟩
 have hn3 := inB_t h1
 have H1 := Lib.hid h1
 rcases h2 : sizeOk n c
 ·have e0 := Lib.hid (goodChange_size h2)
  have h3 := sizeOk_f h2
  by_cases h4 : 0 < c.size
  ·obtain ⟨he1, he2⟩ := some_bytes h4
   have h5 := h3 h4
   go_in
   go_wp2_with (first | (go_at_call 81; refine (spec_l1In _ _ _ _).mono ?_; rintro e w' ⟨rfl, rfl⟩))
   go_ret
   exact ⟨ret_bool e0.out.symm, rfl⟩
  ·obtain ⟨he1, he2⟩ := no_bytes h4
   go_in
   go_wp2_with (first | (go_at_call 81; refine (spec_l1In _ _ _ _).mono ?_; rintro e w' ⟨rfl, rfl⟩))
   go_ret
   exact ⟨ret_bool e0.out.symm, rfl⟩
 obtain ⟨h4, h5⟩ := sizeOk_t h2
 obtain ⟨he1, he2⟩ := some_bytes h4
 rcases h6 : isDash c
 ·have e0 := Lib.hid (goodChange_chain h1 h2 h6)
  have h7 : (c.toList == [45]) = false := h6
  go_in
  go_wp2_with (first | (go_at_call 81; refine (spec_l1In _ _ _ _).mono ?_; rintro e w' ⟨rfl, rfl⟩))
  go_loopw [5, 6] (fun v i wr => ∃ (k : Nat) (x : Int), k ≤ c.size ∧ i = .int .i64 k ∧ v = .int .i64 x ∧ 0 ≤ x ∧ x ≤ n ∧ Hid (goodChange n c = chain n x ((digs c).drop k)) ∧ w = wr) (fun _ i _ => c.size - (intOf i).toNat)
  case atStart => exact ⟨0, 0, Nat.zero_le _, rfl, rfl, by omega, by omega, Lib.hid e0.out, rfl⟩
  case round =>
   obtain ⟨k, x, hk, rfl, rfl, hx0, hxn, HK, rfl⟩ := hrel
   by_cases hlt : k < c.size
   ·have hw := wrap_bt c k
    have hw2 := wrap_dg c k
    have HD := Lib.hid (digs_drop hlt)
    have hdg := dg_in c k
    rcases hin : inB (dg c k) (x + 1) n
    ·have e1 := Lib.hid (show goodChange n c = false by rw [HK.out, HD.out, chain, stepOk, hin]; rfl)
     have hin' := Lib.hid hin
     go_wp2_with (first | (go_at_call 81; refine (spec_l1In _ _ _ _).mono ?_; rintro e w' ⟨rfl, rfl⟩))
     go_ret
     exact ⟨ret_bool e1.out.symm, rfl⟩
    have hin1 := inB_t hin
    rcases hq : ((dg c k - x) % 2 == 0)
    ·have e1 := Lib.hid (show goodChange n c = chain n (dg c k) ((digs c).drop (k + 1)) by rw [HK.out, HD.out, chain, stepOk, hin, hq]; rfl)
     go_wp2_with (first | (go_at_call 81; refine (spec_l1In _ _ _ _).mono ?_; rintro e w' ⟨rfl, rfl⟩))
     go_roundw
     case rel => exact ⟨k + 1, dg c k, by omega, by go_num, rfl, by omega, by omega, e1, trivial⟩
     case measure => simp [intOf]; omega
    ·have e1 := Lib.hid (show goodChange n c = false by rw [HK.out, HD.out, chain, stepOk, hin, hq]; rfl)
     go_wp2_with (first | (go_at_call 81; refine (spec_l1In _ _ _ _).mono ?_; rintro e w' ⟨rfl, rfl⟩))
     go_ret
     exact ⟨ret_bool e1.out.symm, rfl⟩
   ·obtain rfl : k = c.size := by omega
    have e1 := Lib.hid (show goodChange n c = ((n - x) % 2 == 0) by rw [HK.out, List.drop_eq_nil_of_le (by rw [digs_len]; omega), chain])
    go_wp2
    go_ret
    exact ⟨ret_bool e1.out.symm, rfl⟩
 ·have e0 := Lib.hid (goodChange_dash h1 h2 h6)
  have h7 : (c.toList == [45]) = true := h6
  go_in
  go_wp2_with (first | (go_at_call 81; refine (spec_l1In _ _ _ _).mono ?_; rintro e w' ⟨rfl, rfl⟩))
  go_ret
  exact ⟨ret_bool e0.out.symm, rfl⟩
end Go.Proofs.YtidolgonmimicaaGreat
namespace Go.Proofs.YtidolgonmimicaaGreat
open Go.ChangeShapes Go.WideShapes Go.ChangeAt Go.RowKit Go.Deep
theorem spec_l1Num_1 {x : Int} {w : World} (h0 : 0 ≤ x) (h1 : x ≤ 9) :
  Calls Tryz.prog 222 #[.int .i64 x] w fun e w' => e = .returned (.string (dig1 x)) ∧ Below w.heap.size w w' := by
 have hI : x < 10 := by omega
 have hcv := run_convert_bytes_arg (P := Tryz.prog) (w.alloc (.cells #[.int .u8 (48 + x)] 5)) 22 5 Tryz.underlying22 Tryz.underlying5 w.heap.size 0 1 1 [48 + x] rfl (fun i hi => by
  obtain rfl : i = 0 := by omega
  exact Box.new w [.int .u8 (48 + x)] 5 0 _ rfl) 9 Tryz.underlying9
 have hdef : strOfNums [48 + x] = dig1 x := rfl
 rw [hdef] at hcv
 clear hdef
 go_in
 go_wp2
 go_ret
 exact ⟨rfl, by (repeat' (first | (with_reducible exact Below.refl _ _) | (with_reducible assumption) | (with_reducible refine below_drewN ?_ _) | (with_reducible refine Below.drew ?_) | (with_reducible refine below_alloc ?_ _) | (with_reducible refine Below.alloc ?_ ?_ _) | (with_reducible refine Below.setCell ?_ ?_ _) | (with_reducible refine below_go ?_ (by with_reducible assumption)) | (with_reducible refine below_then (by with_reducible assumption) ?_ ?_) | go_size))⟩
set_option maxRecDepth 100000 in
theorem spec_l2Of {A : Option Addr} {n c : Nat} {l : List Int} {w : World} (hn : l.length = n) (h : Ints w A l) (hz : n ≤ 8) (hl : ∀ x ∈ l, 0 ≤ x ∧ x ≤ 9) :
  Calls Tryz.prog 251 #[.slice A n c] w fun e w' => e = .returned (.string (ofPl l)) ∧ Below w.heap.size w w' := by
 subst hn
 have HL := Lib.hid hl
 clear hl
 go_in
 go_wp2
 go_loopw [3, 8] (fun v i wr => ∃ k : Nat, k ≤ l.length ∧ i = .int .i64 k ∧ v = .string (placesS (l.take k)) ∧ Below w.heap.size w wr) (fun _ i _ => l.length - (intOf i).toNat)
 case atStart => exact ⟨0, Nat.zero_le _, rfl, rfl, Below.refl _ _⟩
 case round =>
  obtain ⟨k, hk, rfl, rfl, hb⟩ := hrel
  by_cases hlt : k < l.length
  ·obtain ⟨b1, o1, x, rfl, _, hx, hcx⟩ := (h.below hb (Nat.le_refl _)).at_int hlt
   have hxb := HL.out x (List.mem_of_getElem? hx)
   have e1 := Lib.hid (show placesS (l.take (k + 1)) = placesS (l.take k) ++ dig1 x by rw [take_succ_some hx, placesS_snoc])
   have hs1 : (placesS (l.take k)).size ≤ 8 := by rw [placesS_size, List.length_take]; omega
   have hs2 : (dig1 x).size = 1 := rfl
   clear hx h
   go_wp2_with (first | (go_at_call 222; refine (spec_l1Num_1 hxb.1 hxb.2).mono ?_; rintro e w1 ⟨rfl, hb1⟩))
   go_roundw
   case rel => exact ⟨k + 1, by omega, by go_num, by rw [e1.out], below_go hb hb1⟩
   case measure => simp [intOf]; omega
  ·obtain rfl : k = l.length := by omega
   rw [List.take_of_length_le (Nat.le_refl _)]
   by_cases h0 : l.length = 0
   ·have e1 := Lib.hid (ofPl_0 h0)
    have e2 : (placesS l).toList.isEmpty = true ∧ (placesS l).toList = [] := no_bytes (by rw [placesS_size]; omega)
    obtain ⟨e3, e4⟩ := e2
    go_wp2
    go_ret
    rw [e1.out]
    exact ⟨rfl, hb⟩
   ·have e1 := Lib.hid (ofPl_pos (l := l) (by omega))
    have e2 : (placesS l).toList.isEmpty = false ∧ ¬ (placesS l).toList = [] := some_bytes (by rw [placesS_size]; omega)
    obtain ⟨e3, e4⟩ := e2
    go_wp2
    go_ret
    rw [e1.out]
    exact ⟨rfl, hb⟩
end Go.Proofs.YtidolgonmimicaaGreat
namespace Go.Proofs.YtidolgonmimicaaGreat
open Go.ChangeShapes Go.WideShapes Go.ChangeAt Go.RowKit Go.Deep
theorem ins_at {α : Type} {M : List α} {y : α} {q : Nat} (h : q ≤ M.length) : (M.take q ++ y :: M.drop q)[q]? = some y := by
 rw [List.getElem?_append_right (by rw [List.length_take]; omega), List.length_take, Nat.min_eq_left h, Nat.sub_self, List.getElem?_cons_zero]
theorem ins_before {α : Type} {M : List α} {y : α} {q : Nat} (h : q < M.length) : (M.take (q + 1) ++ y :: M.drop (q + 1))[q]? = M[q]? := by
 rw [List.getElem?_append_left (by rw [List.length_take]; omega), List.getElem?_take, if_pos (by omega)]
theorem ins_set {α : Type} {M : List α} {y z : α} {q : Nat} (h : q ≤ M.length) : (M.take q ++ y :: M.drop q).set q z = M.take q ++ z :: M.drop q := by
 rw [List.set_append_right _ _ (by rw [List.length_take]; omega), List.length_take, Nat.min_eq_left h, Nat.sub_self, List.set_cons_zero]
theorem ins_down {α : Type} {M : List α} {y z : α} {q : Nat} (hz : M[q]? = some z) : (M.take (q + 1) ++ y :: M.drop (q + 1)).set (q + 1) z = M.take q ++ z :: M.drop q := by
 have h := (List.getElem?_eq_some_iff.1 hz).1
 rw [ins_set (by omega), take_succ_some hz, List.append_assoc]
 congr 1
 rw [List.drop_eq_getElem_cons h, (List.getElem?_eq_some_iff.1 hz).2]; rfl
theorem ins_len {α : Type} {M : List α} {y : α} {q : Nat} (h : q ≤ M.length) : (M.take q ++ y :: M.drop q).length = M.length + 1 := by
 rw [List.length_append, List.length_cons, List.length_take, List.length_drop]; omega
theorem ins_perm {α : Type} {M : List α} {y : α} {q : Nat} : (M.take q ++ y :: M.drop q).Perm (M ++ [y]) := by
 refine (List.perm_middle).trans ?_
 rw [List.take_append_drop]
 exact (List.perm_append_singleton y M).symm
theorem filt_hit {f : ByteArray → Bool} {g : List Int → ByteArray} {T : List (List Int)} {j : Nat} {r : List Int} (hr : T[j]? = some r) (h : f (g r) = true) : ((T.take (j + 1)).map g).filter f = ((T.take j).map g).filter f ++ [g r] := by
 rw [take_succ_some hr, List.map_append, List.filter_append]
 simp [h]
theorem filt_miss {f : ByteArray → Bool} {g : List Int → ByteArray} {T : List (List Int)} {j : Nat} {r : List Int} (hr : T[j]? = some r) (h : f (g r) = false) : ((T.take (j + 1)).map g).filter f = ((T.take j).map g).filter f := by
 rw [take_succ_some hr, List.map_append, List.filter_append]
 simp [h]
set_option maxHeartbeats 2000000 in
set_option maxRecDepth 100000 in
theorem spec_l2All {n : Nat} {w : World} (hn : n ≤ 8) :
  Calls Tryz.prog 224 #[.int .i64 n] w fun e w' => ∃ A c L, e = .returned (.slice A L.length c) ∧ Owned strE 1 9 w' w.heap.size A L.length c L ∧ L.Perm (chsRaw n) ∧ Below w.heap.size w w' := by
 have hlen := fromK_le (k := n) hn 1
 have HR := Lib.hid (fromK_row n 1)
 have HC : Hid (chsRaw n = ((fromK 1 n).map ofPl).filter fun c => goodChange n c) := Lib.hid rfl
 go_in
 go_wp2_with fail
 refine (spec_l2From n n 1 w hn hn (by omega) (Nat.le_refl _)).mono ?_; rintro e w1 ⟨vs, A1, c1, rfl, L1, hb1⟩
 obtain ⟨T, hT⟩ : ∃ T, T = fromK 1 n := ⟨_, rfl⟩
 rw [← hT] at hlen HR HC L1 ⊢
 clear hT
 go_wp2
 go_loopw [3, 11] (fun v i wr => ∃ (j : Nat) (M : List ByteArray) (A' : Option Addr) (c' : Nat), j ≤ T.length ∧ i = .int .i64 j ∧ v = .slice A' M.length c' ∧ M.length ≤ j ∧ Hid (M.Perm (((T.take j).map ofPl).filter fun c => goodChange n c)) ∧ Hid (Owned strE 1 9 wr w1.heap.size A' M.length c' M) ∧ Below w1.heap.size w1 wr) (fun _ i _ => T.length - (intOf i).toNat)
 case atStart => exact ⟨0, [], none, 0, Nat.zero_le _, rfl, rfl, Nat.le_refl _, Lib.hid (by simp), Lib.hid (Owned.nil strE_len _ _ _), Below.refl _ _⟩
 case round =>
  obtain ⟨j, M, A', c', hj, rfl, rfl, hm, HP, HO, hb⟩ := hrel
  rename World => wo
  by_cases hlt : j < T.length
  ·obtain ⟨b3, o3, v, r, rfl, hbb, hr, hv, hc, ho⟩ := (L1.up hb).at_ hlt
   have hrr := HR.out r (List.mem_of_getElem? hr)
   have hrb : ∀ x ∈ r, 0 ≤ x ∧ x ≤ 9 := fun x hx => by have := hrr.2 x hx; omega
   have hrl : r.length ≤ 8 := by omega
   have hsz := hb.size
   have hos := ofPl_size hrl
   have HRr := Lib.hid hr
   clear hr hv hrr
   go_wp2_with fail
   refine (spec_l2Of rfl ho.recs hrl hrb).mono ?_; rintro e w2 ⟨rfl, hb2⟩
   obtain ⟨s, hs⟩ : ∃ s, s = ofPl r := ⟨_, rfl⟩
   rw [← hs] at hos ⊢
   have HS := Lib.hid hs
   clear hs ho hc hrb
   go_wp2_with fail
   refine (spec_l2Change (by omega) (by unfold I64; omega)).mono ?_; rintro e w' ⟨rfl, rfl⟩
   have hbt := hb.trans (hb2.mono hsz)
   have hsz2 := hb2.size
   rcases hg : goodChange n s
   ·have e1 := Lib.hid (filt_miss (f := fun c => goodChange n c) (g := ofPl) HRr.out (by rw [← HS.out]; exact hg))
    go_wp2
    go_roundw
    case rel => exact ⟨j + 1, M, A', c', by omega, by go_num, rfl, by omega, Lib.hid (by rw [e1.out]; exact HP.out), Lib.hid (HO.out.up hb2), hbt⟩
    case measure => simp [intOf]; omega
   ·have e1 := Lib.hid (filt_hit (f := fun c => goodChange n c) (g := ofPl) HRr.out (by rw [← HS.out]; exact hg))
    have HO2 := Lib.hid (HO.out.up hb2)
    go_wp2_with (first | (at_builtin; go_must ((refine wpList_append_rec Tryz.elStr rfl (.tmp 23) (.tmp 25) rfl rfl (HO2.out.alloc _) s rfl (Box.at_ _ [.string s] _ ?_) (strE_one _) ?_ (by decide) ?_ ?_; (focus (first | omega | (simp only [World.size_alloc]; done) | (simp only [World.size_alloc]; omega) | (simp; done) | (simp; omega))); (focus (first | omega | (simp only [World.size_alloc]; done) | (simp only [World.size_alloc]; omega) | (simp; done) | (simp; omega))); (focus (first | omega | (simp only [World.size_alloc]; done) | (simp only [World.size_alloc]; omega) | (simp; done) | (simp; omega))); intro A3 c3 w3 ho3 hg3 hb3))))
    have hb3' : Below w1.heap.size w1 w3 := (hbt.alloc (by omega) _).trans hb3
    have h0 : Hid (Owned strE 1 9 w3 w1.heap.size A3 (M.length + 1) c3 (M.take M.length ++ s :: M.drop M.length)) := Lib.hid (by rw [List.take_of_length_le (Nat.le_refl _), List.drop_length]; exact ho3)
    clear ho3 hg3
    go_loopw [7] (fun k wr => ∃ (q : Nat) (y : ByteArray), q ≤ M.length ∧ k = .int .i64 q ∧ Hid (Owned strE 1 9 wr w1.heap.size A3 (M.length + 1) c3 (M.take q ++ y :: M.drop q)) ∧ Below w1.heap.size w1 wr) (fun k _ => (intOf k).toNat)
    case atStart => exact ⟨M.length, s, Nat.le_refl _, rfl, h0, hb3'⟩
    case round =>
     obtain ⟨q, y, hq, rfl, HQ, hbq⟩ := hrel
     obtain ⟨g, rfl, _, lg, hcell, hfz⟩ := HQ.out.at_ (by omega)
     have cy := hcell q y 0 _ (ins_at hq) rfl
     have fq := hfz q
     have pt := Lib.hid (HQ.out.put (j := 0) (x := s) (u := .string s) (ins_at hq) (by decide) rfl)
     simp only [Nat.mul_one, Nat.add_zero] at cy
     have PT : Hid (Owned strE 1 9 (wr.setCell ⟨g, q, none⟩ (.string s)) w1.heap.size (some ⟨g, 0, none⟩) (M.length + 1) c3 (M.take q ++ s :: M.drop q)) := Lib.hid (by have h := pt.out.1; simp only [Nat.mul_one, Nat.add_zero] at h; rw [ins_set hq] at h; exact h)
     have PB : Below w1.heap.size w1 (wr.setCell ⟨g, q, none⟩ (.string s)) := hbq.setCell (HQ.out.at_own).1 _
     have il := Lib.hid (ins_len (y := s) hq)
     have EP : Hid ((M.take q ++ s :: M.drop q).Perm (((T.take (j + 1)).map ofPl).filter fun c => goodChange n c)) := Lib.hid (by rw [e1.out, ← HS.out]; exact ins_perm.trans (HP.out.append_right [s]))
     rcases q with _ | q
     ·clear hcell hfz pt
      go_wp2
      go_roundw
      case rel => exact ⟨j + 1, M.take 0 ++ s :: M.drop 0, _, c3, by omega, by go_num, by rw [il.out], by rw [il.out]; omega, EP, by rw [il.out]; exact PT, PB⟩
      case measure => simp [intOf]; omega
     ·obtain ⟨z, hz⟩ := some_of_lt (l := M) (k := q) (by omega)
      have cz := hcell q z 0 _ ((ins_before (by omega)).trans hz) rfl
      simp only [Nat.mul_one, Nat.add_zero] at cz
      have HZ := Lib.hid (ins_down (y := y) hz)
      clear hcell hfz pt hz
      rcases hgt : less s z
      ·obtain ⟨l1, l2⟩ := less_no hgt
       rcases l2 with l2 | ⟨l2, l3⟩
       all_goals
        go_wp2
        go_roundw
        case rel => exact ⟨j + 1, M.take (q + 1) ++ s :: M.drop (q + 1), _, c3, by omega, by go_num, by rw [il.out], by rw [il.out]; omega, EP, by rw [il.out]; exact PT, PB⟩
        case measure => simp [intOf]; omega
      ·obtain ⟨l1, l2, l3⟩ := less_yes hgt
       have PZ := Lib.hid (HQ.out.put (j := 0) (x := z) (u := .string z) (ins_at hq) (by decide) rfl)
       have PZ2 : Hid (Owned strE 1 9 (wr.setCell ⟨g, q + 1, none⟩ (.string z)) w1.heap.size (some ⟨g, 0, none⟩) (M.length + 1) c3 (M.take q ++ z :: M.drop q)) := Lib.hid (by have h := PZ.out.1; simp only [Nat.mul_one, Nat.add_zero] at h; rw [HZ.out] at h; exact h)
       have PZ3 : Below w1.heap.size w1 (wr.setCell ⟨g, q + 1, none⟩ (.string z)) := hbq.setCell (HQ.out.at_own).1 _
       clear PZ
       go_wp2
       go_roundw
       case rel => exact ⟨q, z, by omega, rfl, PZ2, PZ3⟩
       case measure => simp [intOf]
  ·obtain rfl : j = T.length := by omega
   go_wp2
   go_ret
   have h := HP.out
   rw [List.take_of_length_le (Nat.le_refl _), ← HC.out] at h
   exact ⟨_, _, M, rfl, HO.out.base_le hb1.size, h, below_go hb1 hb⟩
end Go.Proofs.YtidolgonmimicaaGreat
namespace Go.Proofs.YtidolgonmimicaaGreat
open Go.ChangeShapes Go.WideShapes Go.ChangeAt Go.RowKit Go.Deep
theorem cur_fresh (w : World) (A : Option Addr) (n c : Nat) : Cur (w.alloc (.cells #[.slice A n c, .int .i64 0, .int .u64 0] 87)) w.heap.size A n c 0 :=
 ⟨0, 0, Blk.at_ w 87 [.slice A n c, .int .i64 0, .int .u64 0] rfl, Nat.le_refl _, by omega, by omega⟩
theorem Src.over {w w' : World} {A : Option Addr} {n : Nat} (h : Src w A n) (hb : Below w.heap.size w w') : Src w' A n := by
 obtain ⟨l, h1, h2, h3, h4⟩ := h
 exact ⟨l, h1, h2, h3, h4.up hb⟩
theorem cur_stage {A : Option Addr} {n c a p : Nat} {w0 w : World} (hS : Src w0 A n) (hb : Below w0.heap.size w0 w) (hp : w0.heap.size ≤ p) (hc : Cur w p A n c a) (ha : a ≤ 16777216) :
  Calls Tryz.prog 186 #[.pointer (some ⟨p, 0, none⟩)] w fun e w' => ∃ x : Nat, e = .returned (.int .i64 (x : Int)) ∧ 3 ≤ x ∧ x ≤ 8 ∧ Cur w' p A n c (a + 1) ∧ w.grownBy w' (some p) := by
 have hl := lit_ints w 3 [4, 4, 5, 5, 6, 6, 3, 7, 8]
 have hlt := hc.lt
 go_in
 go_wp2_with fail
 refine (cur_among hS (hb.alloc hb.size _) hp (hc.up ((Below.refl _ _).alloc (Nat.le_refl _) _)) ha rfl hl (by decide) (by decide) (fun b o e => by injection e with e; injection e with e; omega)).mono ?_; rintro e w1 ⟨x, hx, rfl, hc1, hg1⟩
 go_wp2
 go_ret
 simp only [List.mem_cons, List.not_mem_nil, or_false] at hx
 refine ⟨x.toNat, ?_, by omega, by omega, hc1, grownBy_trans (World.grownBy_alloc _ _ _) hg1⟩
 rw [show ((x.toNat : Nat) : Int) = x by omega]
 rfl
theorem chs_small {n : Nat} {L : List ByteArray} (hn : n ≤ 8) (h : L.Perm (chsRaw n)) : L.length ≤ 34 ∧ ∀ s ∈ L, s.size ≤ 8 := by
 constructor
 ·rw [h.length_eq, chsRaw]
  refine Nat.le_trans (List.length_filter_le _ _) ?_
  rw [List.length_map]; exact fromK_le hn 1
 ·intro s hs
  have h1 := (h.mem_iff).1 hs
  rw [chsRaw, List.mem_filter] at h1
  rcases q : sizeOk n s
  ·have := h1.2; rw [goodChange_size q] at this; cases this
  ·have := sizeOk_t q; omega
end Go.Proofs.YtidolgonmimicaaGreat
namespace Go.Proofs.YtidolgonmimicaaGreat
open Go.ChangeShapes Go.WideShapes Go.ChangeAt Go.RowKit Go.Deep
def lowB (s : ByteArray) (k : Nat) : Bool := inB (PlainAid.bt s k) 97 122
def nameOk (s : ByteArray) : Bool := (List.range s.size).all (lowB s) && inB s.size 1 10
def goodM (nm : ByteArray) (st : Int) (l : List ByteArray) : Bool := nameOk nm && (inB st 3 8 && (inB l.length 1 40 && allCh st l))
def goodK (nm : ByteArray) (st : Int) (l : List ByteArray) (b s : ByteArray) : Bool := goodM nm st l && (goodChange st b && goodChange st s)
theorem goodM_t {nm : ByteArray} {st : Int} {l : List ByteArray} (h : goodM nm st l = true) : nameOk nm = true ∧ (3 ≤ st ∧ st ≤ 8) ∧ (1 ≤ l.length ∧ l.length ≤ 40) ∧ allCh st l = true := by
 simp only [goodM, Bool.and_eq_true] at h
 have h1 := inB_t h.2.1
 have h2 := inB_t h.2.2.1
 exact ⟨h.1, h1, by omega, h.2.2.2⟩
theorem goodK_t {nm : ByteArray} {st : Int} {l : List ByteArray} {b s : ByteArray} (h : goodK nm st l b s = true) : goodM nm st l = true ∧ goodChange st b = true ∧ goodChange st s = true := by
 simpa only [goodK, Bool.and_eq_true] using h
theorem goodChange_small {n : Int} {c : ByteArray} (h : goodChange n c = true) : c.size ≤ 6 := by
 have hn := goodChange_n h
 rcases hs : sizeOk n c
 ·rw [goodChange_size hs] at h; cases h
 ·have := sizeOk_t hs; omega
theorem rAt_congr {a : ByteArray} {l m : List ByteArray} : ∀ (k : Nat), (∀ j, j < k → l[j]? = m[j]?) → rAt a l k = rAt a m k
 | 0, _ => rfl
 | k + 1, h => by
  rw [rAt, rAt, rAt_congr k (fun j hj => h j (by omega)), List.getD, List.getD, h k (by omega)]
def headX (st : Nat) (l : List ByteArray) (x : ByteArray) : ByteArray := applyR (rAt (roundsS st) l (l.length - 1)) x
theorem headX_set {st : Nat} {l : List ByteArray} {x : ByteArray} (h : 0 < l.length) : rAt (roundsS st) (l.set (l.length - 1) x) l.length = headX st l x := by
 obtain ⟨k, hk⟩ : ∃ k, l.length = k + 1 := ⟨l.length - 1, by omega⟩
 have e1 : (l.set (l.length - 1) x)[k]? = some x := by rw [hk, Nat.add_sub_cancel]; exact List.getElem?_set_self (by omega)
 conv => lhs; rw [hk]
 rw [rAt_succ (k := k) (by rw [← hk]; exact e1), headX, hk, Nat.add_sub_cancel]
 congr 1
 exact rAt_congr k fun j hj => by rw [List.getElem?_set_ne (by omega)]
theorem headX_take {st : Nat} {l : List ByteArray} {x : ByteArray} : applyR (rAt (roundsS st) (l.take (l.length - 1)) (l.length - 1)) x = headX st l x := by
 rw [headX, rAt_take _ _ _ _ (Nat.le_refl _)]
theorem headX_size {st : Nat} (hs : st < 9) (l : List ByteArray) (x : ByteArray) : (headX st l x).size = st := by rw [headX, applyR_size, rAt_size, rounds_size st hs]
theorem good_rAt {a : ByteArray} (h : goodRow a = true) (l : List ByteArray) : ∀ k, goodRow (rAt a l k) = true
 | 0 => h
 | k + 1 => by rw [rAt]; exact good_apply (good_rAt h l k) _
theorem headX_good {st : Nat} (h3 : 3 ≤ st) (h8 : st ≤ 8) (l : List ByteArray) (x : ByteArray) : goodRow (headX st l x) = true := by
 rw [headX]; exact good_apply (good_rAt (good_rounds st (by omega) h3) l _) _
def isP (c : ByteArray) : Bool := c.toList == [112]
def isB (c : ByteArray) : Bool := c.toList == [98]
def isS (c : ByteArray) : Bool := c.toList == [115]
def isCl (c : ByteArray) : Bool := isP c || (isB c || isS c)
def lastC (l : List ByteArray) : ByteArray := l.getD (l.length - 1) ByteArray.empty
def chOf (l : List ByteArray) (b s c : ByteArray) : ByteArray := if isB c = true then b else if isS c = true then s else lastC l
theorem lastC_at {l : List ByteArray} (h : 0 < l.length) : l[l.length - 1]? = some (lastC l) := by
 rw [lastC, List.getD, List.getElem?_eq_getElem (by omega)]; rfl
def callHd (st : Nat) (l : List ByteArray) (b s c : ByteArray) : ByteArray := headX st l (chOf l b s c)
def callB (t : ByteArray) (k : Nat) : Bool := (PlainAid.bt t k == 112) || ((PlainAid.bt t k == 98) || (PlainAid.bt t k == 115))
def goodT (t : ByteArray) : Bool := (List.range t.size).all (callB t) && inB t.size 1 60
theorem goodT_t {t : ByteArray} (h : goodT t = true) : 1 ≤ t.size ∧ t.size ≤ 60 ∧ ∀ k, k < t.size → callB t k = true := by
 rw [goodT, Bool.and_eq_true, List.all_eq_true] at h
 have := inB_t h.2
 exact ⟨by omega, by omega, fun k hk => h.1 k (List.mem_range.2 hk)⟩
def goodF (nm : ByteArray) (st : Int) (l : List ByteArray) (b s t : ByteArray) : Bool := goodK nm st l b s && goodT t
def letter (t : ByteArray) (k : Nat) : ByteArray := t.extract k (k + 1)
def hdAt (st : Nat) (l : List ByteArray) (b s t : ByteArray) : Nat → ByteArray
 | 0 => roundsS st
 | k + 1 => timesS (hdAt st l b s t k) (callHd st l b s (letter t k))
def hdsL (st : Nat) (l : List ByteArray) (b s t : ByteArray) (k : Nat) : List ByteArray := (List.range k).map (hdAt st l b s t)
theorem hdsL_succ (st : Nat) (l : List ByteArray) (b s t : ByteArray) (k : Nat) : hdsL st l b s t (k + 1) = hdsL st l b s t k ++ [hdAt st l b s t k] := by rw [hdsL, List.range_succ, List.map_append]; rfl
theorem hdsL_at {st : Nat} {l : List ByteArray} {b s t : ByteArray} {k j : Nat} (h : j < k) : (hdsL st l b s t k)[j]? = some (hdAt st l b s t j) := by rw [hdsL, List.getElem?_map, List.getElem?_range h]; rfl
theorem hdAt_good {st : Nat} (h3 : 3 ≤ st) (h8 : st ≤ 8) (l : List ByteArray) (b s t : ByteArray) : ∀ k, goodRow (hdAt st l b s t k) = true ∧ (hdAt st l b s t k).size = st
 | 0 => ⟨good_rounds st (by omega) h3, rounds_size st (by omega)⟩
 | k + 1 => by
  have ih := hdAt_good h3 h8 l b s t k
  have hs := headX_size (st := st) (by omega) l (chOf l b s (letter t k))
  have hg := headX_good h3 h8 l (chOf l b s (letter t k))
  rw [hdAt]
  exact ⟨good_times ih.1 hg (by rw [ih.2, callHd, hs]), by rw [timesS, strOfNums_size, timesL_len, callHd, hs]⟩
theorem fits_good {a b : ByteArray} (g : goodRow b = true) (e : a.size = b.size) : fits a b := by
 intro k hk
 have := (goodRow_list g).2 _ (List.mem_of_getElem? (nums_at hk))
 rw [nums_len] at this
 omega
def tRows (st : Nat) (l : List ByteArray) (b s t : ByteArray) (k : Nat) : List ByteArray := (hdsL st l b s t k).flatMap fun h => rowsL h l l.length
def rowsOk (nm : ByteArray) (st : Int) (l : List ByteArray) (b s t : ByteArray) : Bool := goodF nm st l b s t && decide (t.size * l.length ≤ 800)
end Go.Proofs.YtidolgonmimicaaGreat
namespace Go.Proofs.YtidolgonmimicaaGreat
open Go.ChangeShapes Go.WideShapes Go.ChangeAt Go.RowKit Go.Deep
theorem bytes_trans : ∀ (a b c : List UInt8), Op.bytesLess a b = true → Op.bytesLess b c = true → Op.bytesLess a c = true
 | _, _, [], _, h => by cases ‹List UInt8› <;> simp [Op.bytesLess] at h
 | [], _, c :: z, _, _ => by simp [Op.bytesLess]
 | a :: x, [], c :: z, h, _ => by simp [Op.bytesLess] at h
 | a :: x, b :: y, c :: z, h1, h2 => by
  simp only [Op.bytesLess, Bool.or_eq_true, Bool.and_eq_true, decide_eq_true_eq, beq_iff_eq] at h1 h2 ⊢
  rcases h1 with h1 | ⟨rfl, h1⟩
  ·rcases h2 with h2 | ⟨rfl, h2⟩
   ·left
    have q1 := UInt8.lt_iff_toNat_lt.1 h1; have q2 := UInt8.lt_iff_toNat_lt.1 h2
    exact UInt8.lt_iff_toNat_lt.2 (by omega)
   ·exact .inl h1
  ·rcases h2 with h2 | ⟨rfl, h2⟩
   ·exact .inl h2
   ·exact .inr ⟨rfl, bytes_trans x y z h1 h2⟩
theorem less_trans {a b c : ByteArray} (h1 : less a b = true) (h2 : less b c = true) : less a c = true := bytes_trans _ _ _ h1 h2
theorem toList_inj {a b : ByteArray} (h : a.toList = b.toList) : a = b := by
 rw [ByteArray.toList_eq, ByteArray.toList_eq] at h
 cases a; cases b
 congr 1
 exact Array.ext' h
theorem less_tri (a b : ByteArray) : less a b = true ∨ a = b ∨ less b a = true := by
 rcases bytes_tri a.toList b.toList with ⟨h, _⟩ | ⟨_, h, _⟩ | ⟨_, _, h⟩
 ·exact .inl h
 ·exact .inr (.inl (toList_inj (by simpa using h)))
 ·exact .inr (.inr h)
theorem less_irr (a : ByteArray) : less a a = false := by
 rcases h : less a a
 ·rfl
 ·have h' := h
  have := (less_yes h).1
  rcases bytes_tri a.toList a.toList with ⟨h1, h2, h3⟩ | ⟨h1, h2, h3⟩ | ⟨h1, h2, h3⟩
  ·rw [h1] at h3; cases h3
  ·rw [this] at h1; cases h1
  ·rw [h3] at h1; cases h1
def leS (a b : ByteArray) : Bool := !less b a
theorem leS_trans (a b c : ByteArray) (h1 : leS a b = true) (h2 : leS b c = true) : leS a c = true := by
 simp only [leS, Bool.not_eq_true'] at h1 h2 ⊢
 rcases h : less c a
 ·rfl
 ·rcases less_tri b c with q | q | q
  ·have := less_trans q h; rw [h1] at this; cases this
  ·subst q; rw [h] at h1; cases h1
  ·rw [q] at h2; cases h2
theorem leS_total (a b : ByteArray) : (leS a b || leS b a) = true := by
 simp only [leS]
 rcases h : less b a
 ·rfl
 ·rcases h2 : less a b
  ·rfl
  ·have := less_trans h h2; rw [less_irr] at this; cases this
theorem leS_anti {a b : ByteArray} (h1 : leS a b = true) (h2 : leS b a = true) : a = b := by
 simp only [leS, Bool.not_eq_true'] at h1 h2
 rcases less_tri a b with q | q | q
 ·rw [q] at h2; cases h2
 ·exact q
 ·rw [q] at h1; cases h1
def Srt (l : List ByteArray) : Prop := l.Pairwise fun a b => leS a b = true
theorem merge_srt {a b : List ByteArray} (ha : Srt a) (hb : Srt b) : Srt (List.merge a b leS) := List.pairwise_merge leS_trans leS_total a b ha hb
theorem merge_perm (a b : List ByteArray) : (List.merge a b leS).Perm (a ++ b) := List.merge_perm_append leS
theorem srt_unique : ∀ {a b : List ByteArray}, Srt a → Srt b → a.Perm b → a = b
 | [], b, _, _, h => h.nil_eq
 | x :: a, [], _, _, h => by have := h.length_eq; simp at this
 | x :: a, y :: b, ha, hb, h => by
  have hx := List.pairwise_cons.1 ha
  have hy := List.pairwise_cons.1 hb
  have e : x = y := by
   rcases List.mem_cons.1 (h.subset (List.mem_cons_self ..)) with q | q
   ·exact q
   ·rcases List.mem_cons.1 (h.symm.subset (List.mem_cons_self ..)) with r | r
    ·exact r.symm
    ·exact leS_anti (hx.1 y r) (hy.1 x q)
  subst e
  rw [srt_unique hx.2 hy.2 h.cons_inv]
def nextEq (l : List ByteArray) (k : Nat) : Bool := decide (l.getD k ByteArray.empty = l.getD (k - 1) ByteArray.empty)
def nodupB (l : List ByteArray) : Bool := decide l.Nodup
end Go.Proofs.YtidolgonmimicaaGreat
namespace Go.Proofs.YtidolgonmimicaaGreat
open Go.ChangeShapes Go.WideShapes Go.ChangeAt Go.RowKit Go.Deep
open Go.Maps (Keyed)
def SetOf (P : Program) (w : World) (k e : TypeId) (b n : Nat) (S : List Value) : Prop :=
 ∃ D : DataW Unit, w.ownsMap P k (plainElem P e) b n D ∧ ∀ key kl, keyOf P k key = some kl → (key ∈ S → D.atKey kl (.lit (.bool false)) = .lit (.bool true)) ∧ (key ∉ S → D.atKey kl (.lit (.bool false)) = .lit (.bool false))
section
variable {P : Program} {w w' : World} {k e : TypeId} {b n : Nat} {S : List Value}
theorem SetOf.made (P : Program) (w : World) (k e : TypeId) : SetOf P (w.alloc (.map #[] 0)) k e w.heap.size 0 [] :=
 ⟨.map [], World.ownsMap_made w P k _, fun key kl _ => ⟨fun h => (by cases h), fun _ => rfl⟩⟩
theorem SetOf.lt (h : SetOf P w k e b n S) : b < w.heap.size := by
 obtain ⟨D, h1, _⟩ := h
 exact h1.lt
theorem SetOf.kept {row : Option Nat} (h : SetOf P w k e b n S) (hg : w.grownBy w' row) (hne : some b ≠ row) : SetOf P w' k e b n S := by
 obtain ⟨D, h1, h2⟩ := h
 exact ⟨D, h1.kept hg hne, h2⟩
theorem SetOf.up (h : SetOf P w k e b n S) (hb : Below w.heap.size w w') : SetOf P w' k e b n S := h.kept (grown_of_below hb) (by simp)
theorem SetOf.alloc (h : SetOf P w k e b n S) (o : Obj) : SetOf P (w.alloc o) k e b n S := h.up ((Below.refl _ _).alloc (Nat.le_refl _) o)
theorem plainElem_bool_inv (he : P.underlying e = some .bool) {v : Value} {x : Bool} {ps : List MemPlace} (h : plainElem (H := Unit) P e v = some (.lit (.bool x), ps)) : v = .bool x := by
 unfold plainElem at h
 rw [he] at h
 cases v <;> simp at h
 rw [h.1]
theorem SetOf.look {t : TypeId} (h : SetOf P w k e b n S) (K : Keyed P k) (ht : P.underlying t = some (.map k e)) (he : P.underlying e = some .bool) (hz : (zeroValue e).run P w = .ok (.bool false) w) {key : Value} {kl : Lit} (hkey : keyOf P k key = some kl) :
  (key ∈ S → (Instr.lookup t (.map (some b)) key false).run P w = .ok (.bool true) w) ∧ (key ∉ S → (Instr.lookup t (.map (some b)) key false).run P w = .ok (.bool false) w) := by
 obtain ⟨D, h1, h2⟩ := h
 obtain ⟨v, ps, hrun, hv⟩ := h1.lookup K ht hz (plainElem_bool he false) hkey
 obtain ⟨a1, a2⟩ := h2 key kl hkey
 refine ⟨fun hi => ?_, fun hi => ?_⟩
 ·rw [a1 hi] at hv
  rw [hrun, plainElem_bool_inv he hv]
 ·rw [a2 hi] at hv
  rw [hrun, plainElem_bool_inv he hv]
end
end Go.Proofs.YtidolgonmimicaaGreat
namespace Go.Proofs.YtidolgonmimicaaGreat
open Go.ChangeShapes Go.WideShapes Go.ChangeAt Go.RowKit Go.Deep
open Go.Maps (Keyed string_keyed)
open Go.WideMaps (keyOf_string_mk)
def strV (s : ByteArray) : Value := .string s
end Go.Proofs.YtidolgonmimicaaGreat
namespace Go.Proofs.YtidolgonmimicaaGreat
open Go.ChangeShapes Go.WideShapes Go.ChangeAt Go.RowKit Go.Deep
theorem Recs.part {α : Type} {e : α → List Value} {s : Nat} {w : World} {b o : Nat} {l : List α} (h : Recs e s w (some ⟨b, o, none⟩) l) (i j : Nat) (hij : i ≤ j) (hj : j ≤ l.length) : Recs e s w (some ⟨b, o + i * s, none⟩) ((l.drop i).take (j - i)) := by
 refine ⟨h.1, by rw [flatMap_len h.1], fun hn => ?_⟩
 have hlen : ((l.drop i).take (j - i)).length = j - i := by rw [List.length_take, List.length_drop]; omega
 obtain ⟨b', o', e1, hb, hc⟩ := h.cells (by omega)
 injection e1 with e1
 injection e1 with e1 e2
 subst e1 e2
 refine ⟨b, o + i * s, rfl, hb, fun q u hu => ?_⟩
 have hq := (List.getElem?_eq_some_iff.1 hu).1
 rw [flatMap_len h.1, hlen] at hq
 have hs : 0 < s := by
  rcases Nat.eq_zero_or_pos s with h0 | h0
  ·subst h0; omega
  ·exact h0
 have hdm : q / s * s + q % s = q := Nat.div_add_mod' q s
 have hqs : q / s < j - i := Nat.div_lt_of_lt_mul (by rw [Nat.mul_comm]; exact hq)
 obtain ⟨x, hx⟩ := some_of_lt (l := (l.drop i).take (j - i)) (k := q / s) (by omega)
 have a1 := flatMap_at h.1 _ (q / s) x (q % s) hx (Nat.mod_lt q hs)
 rw [hdm, hu] at a1
 have hx2 : l[i + q / s]? = some x := by
  rw [List.getElem?_take, if_pos hqs, List.getElem?_drop] at hx; exact hx
 have := hc (i + q / s) x (q % s) u hx2 a1.symm
 rw [show o + i * s + q = o + (i + q / s) * s + q % s by rw [Nat.add_mul]; omega]
 exact this
theorem Owned.cap {α : Type} {e : α → List Value} {s : Nat} {E : TypeId} {w : World} {base : Nat} {A : Option Addr} {n c : Nat} {l : List α} (h : Owned e s E w base A n c l) : n ≤ c ∧ c ≤ 9223372036854775807 := by
 rcases h.2.2.2 with ⟨hv, h0⟩ | ⟨g, cap, cur, hv, _, _, hnc, hcap, _, _⟩
 ·injection hv with _ _ e3
  subst e3 h0
  exact ⟨Nat.le_refl _, by omega⟩
 ·injection hv with _ _ e3
  subst e3
  exact ⟨hnc, by unfold maxLen at hcap; omega⟩
theorem spec_l1OwnS {A : Option Addr} {N c : Nat} {l : List ByteArray} {w : World} (hN : l.length = N) (h : Strs w A l) (hz : N ≤ 16000000) :
  Calls Tryz.prog 151 #[.slice A N c] w fun e w' => ∃ A' c', e = .returned (.slice A' N c') ∧ Owned strE 1 9 w' w.heap.size A' N c' l ∧ Below w.heap.size w w' := by
 go_in
 go_wp2_with (first | (at_builtin; go_must ((refine wpList_append_recs Tryz.elStr strE_one rfl (.tmp 3) (.tmp 4) rfl rfl (Owned.empty (E := 9) strE_len w (Nat.le_refl _)) rfl (h.up (by (repeat' (first | (with_reducible exact Below.refl _ _) | (with_reducible assumption) | (with_reducible refine below_drewN ?_ _) | (with_reducible refine Below.drew ?_) | (with_reducible refine below_alloc ?_ _) | (with_reducible refine Below.alloc ?_ ?_ _) | (with_reducible refine Below.setCell ?_ ?_ _) | (with_reducible refine below_go ?_ (by with_reducible assumption)) | (with_reducible refine below_then (by with_reducible assumption) ?_ ?_) | go_size)))) hN ?_ (by decide) ?_ ?_; (focus (first | omega | (simp only [World.size_alloc]; done) | (simp only [World.size_alloc]; omega) | (simp; done) | (simp; omega))); (focus (first | omega | (simp only [World.size_alloc]; done) | (simp only [World.size_alloc]; omega) | (simp; done) | (simp; omega))); intro A2 c2 w2 ho2 hg2 hl2))))
 go_ret
 have hb := lit_app hg2
 rw [Nat.zero_add, List.nil_append] at ho2
 exact ⟨_, _, rfl, ho2, hb⟩
def tailOff (o s c : Nat) : Nat := if c = 1 then o else o + s
theorem Tryz.tailStrs (b o n c : Nat) (h1 : 1 ≤ n) (u : World) : (Instr.slice 23 (.slice (some ⟨b, o, none⟩) n c) (some (.int .i64 1)) none none).run Tryz.prog u = .ok (.slice (some ⟨b, tailOff o 1 c, none⟩) (n - 1) (c - 1)) u := by
 have e1 : Tryz.prog.underlying 23 = some (.slice (Tryz.prog.elem 23)) := by kernel_rfl
 have e2 : (sizeOf (Tryz.prog.elem 23)).run Tryz.prog u = .ok 1 u := by kernel_rfl
 rw [run_slice_l (P := Tryz.prog) (w := u) 23 (some ⟨b, o, none⟩) n c e1 .i64 1 (by omega) (by omega), e2]
 simp only [Result.andThen_ok, sliced, tailOff]
 by_cases hc : c = 1
 ·rw [if_pos hc, if_pos (by omega)]; rfl
 ·rw [if_neg hc, if_neg (by omega)]; rfl
theorem Recs.tail {α : Type} {e : α → List Value} {s : Nat} {w : World} {b o n c : Nat} {x : α} {l : List α} (h : Recs e s w (some ⟨b, o, none⟩) (x :: l)) (hn : l.length + 1 = n) (hc : n ≤ c) : Recs e s w (some ⟨b, tailOff o s c, none⟩) l := by
 by_cases h1 : c = 1
 ·have : l = [] := List.eq_nil_of_length_eq_zero (by omega)
  subst this
  exact ⟨h.1, Rd.none_ _ _ _⟩
 ·rw [tailOff, if_neg h1]
  have := h.part 1 (l.length + 1) (by omega) (by simp)
  rw [Nat.one_mul, List.drop_succ_cons, List.drop_zero, Nat.add_sub_cancel, List.take_of_length_le (Nat.le_refl _)] at this
  exact this
def slLen : Value → Nat
 | .slice _ n _ => n
 | _ => 0
theorem merge_left {x y : ByteArray} {a b : List ByteArray} (h : less y x = false) : List.merge (x :: a) (y :: b) leS = x :: List.merge a (y :: b) leS := by
 rw [List.cons_merge_cons_pos leS a b (by simp [leS, h])]
theorem merge_right {x y : ByteArray} {a b : List ByteArray} (h : less y x = true) : List.merge (x :: a) (y :: b) leS = y :: List.merge (x :: a) b leS := by
 rw [List.cons_merge_cons_neg leS a b (by simp [leS, h])]
set_option maxHeartbeats 2000000 in
set_option maxRecDepth 100000 in
theorem spec_l6Sort : ∀ (N : Nat) (A : Option Addr) (c : Nat) (l : List ByteArray) (w : World), l.length = N → Strs w A l → N ≤ 16000000 → (∀ s ∈ l, s.size ≤ 16777216) →
  Calls Tryz.prog 158 #[.slice A N c] w fun e w' => ∃ A' c' L, e = .returned (.slice A' N c') ∧ Owned strE 1 9 w' w.heap.size A' N c' L ∧ L.Perm l ∧ Srt L ∧ Below w.heap.size w w' := by
 intro N
 induction N using Nat.strongRecOn with
 | ind N ih =>
  intro A c l w hN h hz hs
  have HS := Lib.hid hs
  have IH := Lib.hid ih
  clear hs ih
  by_cases h2 : N < 2
  ·have hsrt : Srt l := by
    match l, hN with
    | [], _ => exact List.Pairwise.nil
    | [x], _ => exact List.pairwise_singleton _ _
    | x :: y :: r, e => simp at e; omega
   go_in
   go_wp2_with fail
   refine (spec_l1OwnS hN h hz).mono ?_; rintro e w1 ⟨A1, c1, rfl, ho, hb1⟩
   go_wp2
   go_ret
   exact ⟨_, _, l, rfl, ho, List.Perm.refl _, hsrt, hb1⟩
  ·subst hN
   obtain ⟨m, hm⟩ : ∃ m, m = l.length / 2 := ⟨_, rfl⟩
   have hm1 : 1 ≤ m := by omega
   have hm2 : m < l.length := by omega
   go_in
   go_wp2_with fail
   refine (spec_l1OwnS rfl h hz).mono ?_; rintro e w1 ⟨A1, c1, rfl, ho, hb1⟩
   obtain ⟨g, rfl, g0, g1, _, _⟩ := ho.at_ (by omega)
   go_wp2
   have hR := ho.recs
   have R1 : Hid (Strs w1.drew (some ⟨g, 0, none⟩) (l.take m)) := Lib.hid (by have := (hR.part 0 m (Nat.zero_le _) (by omega)).drew; simpa using this)
   have R2 : Hid (Strs w1 (some ⟨g, m, none⟩) (l.drop m)) := Lib.hid (by have := hR.part m l.length (by omega) (Nat.le_refl _); rw [Nat.mul_one, Nat.zero_add, List.take_of_length_le (by rw [List.length_drop]; omega)] at this; exact this)
   have T1 := Lib.hid (show (l.take m).length = m by rw [List.length_take]; omega)
   have T2 := Lib.hid (show (l.drop m).length = l.length - m by rw [List.length_drop])
   have hq : ((l.length : Int)).tdiv 2 = (m : Int) := by rw [Int.tdiv_eq_ediv_of_nonneg (by omega)]; omega
   have hw : IntKind.i64.wrap (m : Int) = (m : Int) := wrap_id (by omega)
   obtain ⟨hc1, hc2⟩ := ho.cap
   have hw2 : wrap64 (m : Int) = (m : Int) := by unfold wrap64; omega
   have hq2 : (l.length : Int) / 2 = (m : Int) := by omega
   have hle1 : (m : Int) ≤ (c1 : Int) := by omega
   have hle2 : (m : Int) ≤ (l.length : Int) := by omega
   have hle3 : (l.length : Int) ≤ (c1 : Int) := by omega
   have hne : ¬ c1 = m := by omega
   have hne2 : ¬ c1 - m = 0 := by omega
   clear hm
   go_region_held3 (fun u => True) (first | trivial) (first | (go_at_call 158; ((with_reducible refine (IH.out (l.length - m) (by omega) (some ⟨g, m, none⟩) (c1 - m) (l.drop m) _ T2.out (R2.out.up hb2) (by omega) (fun s hs => HS.out s (List.mem_of_mem_drop hs))).mono ?_); rintro e w3 ⟨A3, c3, L3, rfl, o3, p3, s3, hb3⟩)) | (go_at_call 158; refine (IH.out m (by omega) (some ⟨g, 0, none⟩) c1 (l.take m) _ T1.out R1.out (by omega) (fun s hs => HS.out s (List.mem_of_mem_take hs))).mono ?_; rintro e w2 ⟨A2, c2, L2, rfl, o2, p2, s2, hbd2⟩; have hb2 := below_of_drew hbd2))
   clear hw hw2 hq hq2
   have HM := Lib.hid (show (List.merge L2 L3 leS).Perm l from (merge_perm L2 L3).trans ((p2.append p3).trans (by rw [List.take_append_drop])))
   have HR := Lib.hid (merge_srt s2 s3)
   have o2' := o2.up hb3
   obtain ⟨c21, c22⟩ := o2.cap
   obtain ⟨c31, c32⟩ := o3.cap
   have hB3 := (below_go hb1 hb2)
   have hB3 := below_go hB3 hb3
   clear hbd2 p2 p3 s2 s3
   go_wp2
   go_loopw [4, 5, 6] (fun va vb vc wr => ∃ (Aa : Option Addr) (na ca : Nat) (la : List ByteArray) (Ab : Option Addr) (nb cb : Nat) (lb : List ByteArray) (A' : Option Addr) (m' c' : Nat) (M : List ByteArray), va = .slice Aa na ca ∧ vb = .slice Ab nb cb ∧ vc = .slice A' m' c' ∧ na ≤ ca ∧ nb ≤ cb ∧ ca ≤ 9223372036854775807 ∧ cb ≤ 9223372036854775807 ∧ m' + na + nb = l.length ∧ Hid (la.length = na) ∧ Hid (lb.length = nb) ∧ Hid (Strs w3 Aa la) ∧ Hid (Strs w3 Ab lb) ∧ Hid (Owned strE 1 9 wr w3.heap.size A' m' c' M) ∧ Hid (M ++ List.merge la lb leS = List.merge L2 L3 leS) ∧ Below w3.heap.size w3 wr) (fun va vb _ _ => slLen va + slLen vb)
   case atStart => exact ⟨_, m, c2, L2, _, l.length - m, c3, L3, none, 0, 0, [], rfl, rfl, rfl, by omega, by omega, by omega, by omega, by omega, Lib.hid o2.len, Lib.hid o3.len, Lib.hid o2'.recs, Lib.hid o3.recs, Lib.hid (Owned.nil strE_len _ _ _), Lib.hid (by simp), Below.refl _ _⟩
   case round =>
    obtain ⟨Aa, na, ca, la, Ab, nb, cb, lb, A', m', c', M, rfl, rfl, rfl, hna, hnb, hca, hcb, hsum, HLa, HLb, HA, HB, HO, HQ, hb⟩ := hrel
    have hsz := hb.size
    by_cases ha0 : na = 0
    ·have HF := Lib.hid (show M ++ la ++ lb = List.merge L2 L3 leS by
      have : la = [] := List.eq_nil_of_length_eq_zero (by rw [HLa.out]; exact ha0)
      rw [← HQ.out, this, List.append_nil]; simp)
     have HS2 := Lib.hid hsum
     have hbd : m' + na + nb ≤ 16000000 := by omega
     have hI : ¬ (0 : Int) < (na : Int) := by omega
     clear ha0 hsum
     go_wp2_with (first | (at_builtin; ((refine wpList_append_recs Tryz.elStr strE_one rfl (.tmp 56) (.tmp 57) rfl rfl HO.out rfl (HA.out.below hb (Nat.le_refl _)) HLa.out ?_ (by decide) ?_ ?_; (focus (first | omega | (simp only [World.size_alloc]; done) | (simp only [World.size_alloc]; omega) | (simp; done) | (simp; omega))); (focus (first | omega | (simp only [World.size_alloc]; done) | (simp only [World.size_alloc]; omega) | (simp; done) | (simp; omega))); intro A4 c4 w4 ho4 hg4 hl4; have hb4 := hb.trans (grown_base hg4 hsz (fun k hk => (HO.out.blk hk).1)); have hsz4 := hb4.size))) | (at_builtin; go_must ((refine wpList_append_recs Tryz.elStr strE_one rfl (.tmp 58) (.tmp 59) rfl rfl ho4 rfl (HB.out.below hb4 (Nat.le_refl _)) HLb.out ?_ (by decide) ?_ ?_; (focus (first | omega | (simp only [World.size_alloc]; done) | (simp only [World.size_alloc]; omega) | (simp; done) | (simp; omega))); (focus (first | omega | (simp only [World.size_alloc]; done) | (simp only [World.size_alloc]; omega) | (simp; done) | (simp; omega))); intro A5 c5 w5 ho5 hg5 hl5))))
     have hb5 := hb4.trans (grown_base hg5 hsz4 (fun k hk => (ho4.blk hk).1))
     go_ret
     rw [HF.out, HS2.out] at ho5
     rw [HS2.out]
     exact ⟨_, _, rfl, _, ho5.base_le hB3.size, HM.out, HR.out, below_go hB3 hb5⟩
    ·by_cases hb0 : nb = 0
     ·have HF := Lib.hid (show M ++ la ++ lb = List.merge L2 L3 leS by
       have : lb = [] := List.eq_nil_of_length_eq_zero (by rw [HLb.out]; exact hb0)
       rw [← HQ.out, this, List.append_nil]; simp)
      have HS2 := Lib.hid hsum
      have hbd : m' + na + nb ≤ 16000000 := by omega
      have hI : (0 : Int) < (na : Int) := by omega
      have hJ : ¬ (0 : Int) < (nb : Int) := by omega
      clear ha0 hb0 hsum
      go_wp2_with (first | (at_builtin; ((refine wpList_append_recs Tryz.elStr strE_one rfl (.tmp 56) (.tmp 57) rfl rfl HO.out rfl (HA.out.below hb (Nat.le_refl _)) HLa.out ?_ (by decide) ?_ ?_; (focus (first | omega | (simp only [World.size_alloc]; done) | (simp only [World.size_alloc]; omega) | (simp; done) | (simp; omega))); (focus (first | omega | (simp only [World.size_alloc]; done) | (simp only [World.size_alloc]; omega) | (simp; done) | (simp; omega))); intro A4 c4 w4 ho4 hg4 hl4; have hb4 := hb.trans (grown_base hg4 hsz (fun k hk => (HO.out.blk hk).1)); have hsz4 := hb4.size))) | (at_builtin; go_must ((refine wpList_append_recs Tryz.elStr strE_one rfl (.tmp 58) (.tmp 59) rfl rfl ho4 rfl (HB.out.below hb4 (Nat.le_refl _)) HLb.out ?_ (by decide) ?_ ?_; (focus (first | omega | (simp only [World.size_alloc]; done) | (simp only [World.size_alloc]; omega) | (simp; done) | (simp; omega))); (focus (first | omega | (simp only [World.size_alloc]; done) | (simp only [World.size_alloc]; omega) | (simp; done) | (simp; omega))); intro A5 c5 w5 ho5 hg5 hl5))))
      have hb5 := hb4.trans (grown_base hg5 hsz4 (fun k hk => (ho4.blk hk).1))
      go_ret
      rw [HF.out, HS2.out] at ho5
      rw [HS2.out]
      exact ⟨_, _, rfl, _, ho5.base_le hB3.size, HM.out, HR.out, below_go hB3 hb5⟩
     ·obtain ⟨x, la', hla⟩ : ∃ x la', la = x :: la' := by
       rcases la with _ | ⟨x, la'⟩
       ·exact absurd HLa.out.symm ha0
       ·exact ⟨x, la', rfl⟩
      obtain ⟨y, lb', hlb⟩ : ∃ y lb', lb = y :: lb' := by
       rcases lb with _ | ⟨y, lb'⟩
       ·exact absurd HLb.out.symm hb0
       ·exact ⟨y, lb', rfl⟩
      subst hla hlb
      obtain ⟨b1, o1, _, rfl, bb1, hx, hcx⟩ := (HA.out.below hb (Nat.le_refl _)).at_str (k := 0) (by simp)
      obtain ⟨b2, o2, _, rfl, bb2, hy, hcy⟩ := (HB.out.below hb (Nat.le_refl _)).at_str (k := 0) (by simp)
      simp at hx hy
      subst hx hy
      simp only [Nat.add_zero] at hcx hcy
      have t1 := Tryz.tailStrs b1 o1 na ca (by omega)
      have t2 := Tryz.tailStrs b2 o2 nb cb (by omega)
      rcases hl : less y x
      ·have hl1 : Op.bytesLess y.toList x.toList = false := hl
       have hq1 := Lib.hid (merge_left (a := la') (b := lb') hl)
       clear hl t2
       go_wp2
       go_quiet (fail)
       go_wp2_with (first | (at_builtin; go_must ((refine wpList_append_rec Tryz.elStr rfl (.tmp 48) (.tmp 52) rfl rfl ((HO.out.drewN _).alloc _) x rfl (Box.at_ _ [.string x] _ ?_) (strE_one _) ?_ (by decide) ?_ ?_; (focus (first | omega | (simp only [World.size_alloc]; done) | (simp only [World.size_alloc]; omega) | (simp; done) | (simp; omega))); (focus (first | omega | (simp only [World.size_alloc]; done) | (simp only [World.size_alloc]; omega) | (simp; done) | (simp; omega))); (focus (first | omega | (simp only [World.size_alloc]; done) | (simp only [World.size_alloc]; omega) | (simp; done) | (simp; omega))); intro A4 c4 w4 ho4 hg4 hb4))))
       go_roundw
       case rel => exact ⟨some ⟨b1, tailOff o1 1 ca, none⟩, na - 1, ca - 1, la', some ⟨b2, o2, none⟩, nb, cb, y :: lb', A4, m' + 1, c4, M ++ [x], rfl, rfl, rfl, by omega, by omega, by omega, by omega, by omega, Lib.hid (by have := HLa.out; simp at this; omega), HLb, Lib.hid (HA.out.tail (by have := HLa.out; simpa using this) hna), HB, Lib.hid ho4, Lib.hid (by rw [← HQ.out, hq1.out, List.append_assoc]; rfl), ((below_drewN hb _).alloc (by simp; omega) _).trans hb4⟩
       case measure => simp [slLen]; omega
      ·have hl1 : Op.bytesLess y.toList x.toList = true := hl
       have hq1 := Lib.hid (merge_right (a := la') (b := lb') hl)
       clear hl t1
       go_wp2
       go_quiet (fail)
       go_wp2_with (first | (at_builtin; go_must ((refine wpList_append_rec Tryz.elStr rfl (.tmp 40) (.tmp 44) rfl rfl ((HO.out.drewN _).alloc _) y rfl (Box.at_ _ [.string y] _ ?_) (strE_one _) ?_ (by decide) ?_ ?_; (focus (first | omega | (simp only [World.size_alloc]; done) | (simp only [World.size_alloc]; omega) | (simp; done) | (simp; omega))); (focus (first | omega | (simp only [World.size_alloc]; done) | (simp only [World.size_alloc]; omega) | (simp; done) | (simp; omega))); (focus (first | omega | (simp only [World.size_alloc]; done) | (simp only [World.size_alloc]; omega) | (simp; done) | (simp; omega))); intro A4 c4 w4 ho4 hg4 hb4))))
       go_roundw
       case rel => exact ⟨some ⟨b1, o1, none⟩, na, ca, x :: la', some ⟨b2, tailOff o2 1 cb, none⟩, nb - 1, cb - 1, lb', A4, m' + 1, c4, M ++ [y], rfl, rfl, rfl, by omega, by omega, by omega, by omega, by omega, HLa, Lib.hid (by have := HLb.out; simp at this; omega), HA, Lib.hid (HB.out.tail (by have := HLb.out; simpa using this) hnb), Lib.hid ho4, Lib.hid (by rw [← HQ.out, hq1.out, List.append_assoc]; rfl), ((below_drewN hb _).alloc (by simp; omega) _).trans hb4⟩
       case measure => simp [slLen]; omega
end Go.Proofs.YtidolgonmimicaaGreat
namespace Go.Proofs.YtidolgonmimicaaGreat
open Go.ChangeShapes Go.WideShapes Go.ChangeAt Go.RowKit Go.Deep
theorem lit_strs2 (w : World) (t : TypeId) (l : List ByteArray) : Strs (w.alloc (.cells ⟨l.map Value.string⟩ t)) (some ⟨w.heap.size, 0, none⟩) l := by
 refine ⟨strE_len, by rw [flatMap_len strE_len], fun hn => ⟨w.heap.size, 0, rfl, by simp, fun j u hu => ?_⟩⟩
 have h := Box.new w (l.map Value.string) t
 rw [Nat.zero_add]
 refine h j u ?_
 rw [← hu]
 congr 1
 exact (flatMap_one Value.string l).symm
theorem cur_of {A B : Option Addr} {n c a p m d : Nat} {l : List ByteArray} {w0 w : World} (hS : Src w0 A n) (hb : Below w0.heap.size w0 w) (hp : w0.heap.size ≤ p) (hc : Cur w p A n c a) (ha : a ≤ 16777216) (hm : l.length = m) (hl : Strs w B l) (hm0 : 0 < m) (hm1 : m ≤ 200) (hne : ∀ b o, B = some ⟨b, o, none⟩ → b ≠ p) :
  Calls Tryz.prog 71 #[.pointer (some ⟨p, 0, none⟩), .slice B m d] w fun e w' => ∃ x ∈ l, e = .returned (.string x) ∧ Cur w' p A n c (a + 1) ∧ w.grownBy w' (some p) := by
 subst hm
 go_in
 go_wp2_with fail
 refine (cur_pick hS hb hp hc ha (by omega) (by omega)).mono ?_; rintro e w1 ⟨x, rfl, ⟨x0, x1⟩, hc1, hg1⟩
 obtain ⟨k, rfl⟩ := Int.eq_ofNat_of_zero_le x0
 have hk : k < l.length := by omega
 obtain ⟨b, o, y, rfl, hbb, hy, hcy⟩ := hl.at_str hk
 have hcz : w1.cell? ⟨b, o + k, none⟩ = some (.string y) := (hg1.cell_far ⟨b, o + k, none⟩ hbb (fun e => hne b o rfl (by injection e))).trans hcy
 have HY := Lib.hid hy
 clear hy hl hcy x1
 go_wp2
 go_ret
 exact ⟨y, List.mem_of_getElem? HY.out, rfl, hc1, hg1⟩
theorem chsRaw_pos : ∀ n : Nat, n < 9 → 3 ≤ n → 1 ≤ (chsRaw n).length := by decide +kernel
set_option maxRecDepth 100000 in
theorem cur_change {A : Option Addr} {n c a p N : Nat} {w0 w : World} (hS : Src w0 A n) (hb : Below w0.heap.size w0 w) (hp : w0.heap.size ≤ p) (hc : Cur w p A n c a) (ha : a ≤ 16777216) (hN : N ≤ 8) (hN3 : 3 ≤ N) :
  Calls Tryz.prog 181 #[.pointer (some ⟨p, 0, none⟩), .int .i64 N] w fun e w' => ∃ x, e = .returned (.string x) ∧ goodChange N x = true ∧ x.size ≤ 8 ∧ Cur w' p A n c (a + 1) ∧ w.grownBy w' (some p) := by
 have hpw := hc.lt
 go_in
 go_wp2_with fail
 refine (spec_l2All hN).mono ?_; rintro e w1 ⟨A1, c1, L, rfl, ho1, hperm, hb1⟩
 have hsm := chs_small hN hperm
 have hlen := hsm.1
 have hpos : 1 ≤ L.length := by rw [hperm.length_eq]; exact chsRaw_pos N (by omega) hN3
 have HSM := Lib.hid hsm.2
 have HPM := Lib.hid (fun x (hx : x ∈ L) => show goodChange N x = true from by
  have h1 := (hperm.mem_iff).1 hx
  rw [chsRaw, List.mem_filter] at h1
  exact h1.2)
 clear hperm hsm
 go_wp2_with fail
 refine (cur_pick hS (grown_below hb hp (grown_any hb1 _)) hp (hc.up hb1) ha (by omega) (by omega)).mono ?_; rintro e w2 ⟨x, rfl, ⟨x0, x1⟩, hc2, hg2⟩
 obtain ⟨k, rfl⟩ := Int.eq_ofNat_of_zero_le x0
 have hk : k < L.length := by omega
 obtain ⟨b, o, y, rfl, hbb, hy, hcy⟩ := (ho1.past hg2 hpw).recs.at_str hk
 have HY := Lib.hid (List.mem_of_getElem? hy)
 clear hy x1
 go_wp2
 go_ret
 exact ⟨y, rfl, HPM.out y HY.out, HSM.out y HY.out, hc2, grownBy_trans (grown_any hb1 _) hg2⟩
theorem goodM_of {nm : ByteArray} {st : Nat} {L : List ByteArray} (h1 : nameOk nm = true) (h2 : 3 ≤ st) (h3 : st ≤ 8) (h4 : 1 ≤ L.length) (h5 : L.length ≤ 40) (h6 : ∀ x ∈ L, goodChange st x = true) : goodM nm st L = true := by
 have e1 : inB (st : Int) 3 8 = true := by simp [inB]; omega
 have e2 : inB (L.length : Int) 1 40 = true := by simp [inB]; omega
 have e3 : allCh st L = true := by
  rw [allCh, List.all_eq_true]
  intro k hk
  obtain ⟨x, hx⟩ := some_of_lt (List.mem_range.1 hk)
  rw [okCh_at hx]
  exact h6 x (List.mem_of_getElem? hx)
 rw [goodM, h1, e1, e2, e3]; rfl
theorem hunt_one : ∀ n : Nat, n < 9 → 3 ≤ n → n % 2 = 0 → goodChange n ⟨#[45]⟩ = true ∧ goodChange n (⟨#[49]⟩ ++ dig1 n) = true ∧ goodChange n ⟨#[49, 50]⟩ = true := by decide +kernel
theorem hunt_two : ∀ n : Nat, n < 9 → 5 ≤ n → n % 2 = 1 → goodChange n (dig1 n) = true ∧ goodChange n ⟨#[49]⟩ = true ∧ goodChange n (⟨#[49, 50]⟩ ++ dig1 n) = true := by decide +kernel
set_option maxHeartbeats 2000000 in
set_option maxRecDepth 100000 in
theorem spec_l4Hunting {N : Nat} {s : ByteArray} {w : World} (hN : N ≤ 8) (hN4 : 4 ≤ N) (hs : goodChange N s = true) :
  Calls Tryz.prog 223 #[.int .i64 N, .string s] w fun e w' => ∃ A' c' L, e = .returned (.slice A' (2 * N) c') ∧ Owned strE 1 9 w' w.heap.size A' (2 * N) c' L ∧ (∀ x ∈ L, goodChange N x = true) ∧ Below w.heap.size w w' := by
 have HS := Lib.hid hs
 have hd1 : (dig1 (N : Int)).size = 1 := rfl
 clear hs
 rcases Nat.mod_two_eq_zero_or_one N with hpar | hpar
 ·have HH := Lib.hid (hunt_one N (by omega) (by omega) hpar)
  have hI : ¬ ((N : Int) % 2 = 1) := by omega
  have hpe : ((N : Int) % 2 == 1) = false := by simpa using hI
  go_in
  go_wp2_with fail
  refine (spec_l1Num_1 (by omega) (by omega)).mono ?_; rintro e w1 ⟨rfl, hb1⟩
  go_wp2
  go_loopw [7, 8] (fun v i wr => ∃ (k : Nat) (A' : Option Addr) (c' : Nat) (O : List ByteArray), k ≤ N ∧ i = .int .i64 k ∧ v = .slice A' (2 * k) c' ∧ Hid (∀ x ∈ O, goodChange N x = true) ∧ Hid (Owned strE 1 9 wr w.heap.size A' (2 * k) c' O) ∧ Below w.heap.size w wr) (fun _ i _ => N - (intOf i).toNat)
  case atStart => exact ⟨0, none, 0, [], Nat.zero_le _, rfl, rfl, Lib.hid (fun s hs => by cases hs), Lib.hid (Owned.nil strE_len _ _ _), hb1⟩
  case round =>
   obtain ⟨k, A2, c2, O, hk, rfl, rfl, HZ, HO, hbr⟩ := hrel
   rename World => wr
   have hszr := hbr.size
   by_cases hlt : k < N
   ·have HG2 := Lib.hid (show ∀ x ∈ O ++ [⟨#[45]⟩, ⟨#[49]⟩ ++ dig1 N], goodChange N x = true from fun x hx => by
     rcases List.mem_append.1 hx with hx | hx
     ·exact HZ.out x hx
     ·simp only [List.mem_cons, List.not_mem_nil, or_false] at hx
      rcases hx with rfl | rfl
      ·exact HH.out.1
      ·exact HH.out.2.1)
    have hl2 := lit_strs2 wr 9 [⟨#[45]⟩, ⟨#[49]⟩ ++ dig1 N]
    go_wp2_with (first | (at_builtin; go_must ((refine wpList_append_recs Tryz.elStr strE_one rfl (.tmp 22) (.tmp 25) rfl rfl (HO.out.alloc _) rfl hl2 rfl ?_ (by decide) ?_ ?_; (focus (first | omega | (simp only [World.size_alloc]; done) | (simp only [World.size_alloc]; omega) | (simp; done) | (simp; omega))); (simp; omega); intro A3 c3 w6 ho6 hg6 hl6; have hb6 : Below w.heap.size w w6 := (hbr.alloc hszr _).trans (grown_base hg6 (by simp; omega) (fun z hz => (HO.out.range z hz).1))))))
    go_roundw
    case rel => exact ⟨k + 1, A3, c3, O ++ [⟨#[45]⟩, ⟨#[49]⟩ ++ dig1 N], by omega, by go_num, by go_num, HG2, Lib.hid ho6, hb6⟩
    case measure => simp [intOf]; omega
   ·obtain rfl : k = N := by omega
    obtain ⟨g, rfl, g0, g1, gc, gf⟩ := HO.out.at_ (by omega)
    have hOl := HO.out.len
    obtain ⟨y, hy⟩ := some_of_lt (l := O) (k := 2 * k - 1) (by omega)
    have c0 := gc (2 * k - 1) y 0 _ hy rfl
    have f0 := gf (2 * k - 1)
    simp only [Nat.mul_one, Nat.add_zero] at c0
    have pt := HO.out.put (k := 2 * k - 1) (j := 0) (x := s) (u := .string s) hy (by decide) rfl
    simp only [Nat.mul_one, Nat.add_zero] at pt
    have HPT := Lib.hid pt
    have HGS := Lib.hid (show ∀ x ∈ O.set (2 * k - 1) s, goodChange k x = true from fun x hx => by
     rcases List.mem_or_eq_of_mem_set hx with hx | hx
     ·exact HZ.out x hx
     ·rw [hx]; exact HS.out)
    have hJ : (2 : Int) * (k : Int) - 1 = ((2 * k - 1 : Nat) : Int) := by omega
    have hJ2 : ((2 * k : Nat) : Int) - 1 = ((2 * k - 1 : Nat) : Int) := by omega
    have hJ3 : ((2 * k - 1 : Nat) : Int) < ((2 * k : Nat) : Int) := by omega
    clear gc gf hy pt
    go_wp2
    go_ret
    exact ⟨_, _, O.set (2 * k - 1) s, rfl, HPT.out.1, HGS.out, hbr.grown HPT.out.2 hszr (fun z hz => by injection hz with hz; omega)⟩
 ·have HH := Lib.hid (hunt_two N (by omega) (by omega) hpar)
  have hI : (N : Int) % 2 = 1 := by omega
  have hpe : ((N : Int) % 2 == 1) = true := by simpa using hI
  go_in
  go_wp2_with fail
  refine (spec_l1Num_1 (by omega) (by omega)).mono ?_; rintro e w1 ⟨rfl, hb1⟩
  go_wp2_with fail
  refine (spec_l1Num_1 (by omega) (by omega)).mono ?_; rintro e w2 ⟨rfl, hb2⟩
  have hB2 := below_go hb1 hb2
  go_wp2
  go_loopw [7, 8] (fun v i wr => ∃ (k : Nat) (A' : Option Addr) (c' : Nat) (O : List ByteArray), k ≤ N ∧ i = .int .i64 k ∧ v = .slice A' (2 * k) c' ∧ Hid (∀ x ∈ O, goodChange N x = true) ∧ Hid (Owned strE 1 9 wr w.heap.size A' (2 * k) c' O) ∧ Below w.heap.size w wr) (fun _ i _ => N - (intOf i).toNat)
  case atStart => exact ⟨0, none, 0, [], Nat.zero_le _, rfl, rfl, Lib.hid (fun s hs => by cases hs), Lib.hid (Owned.nil strE_len _ _ _), hB2⟩
  case round =>
   obtain ⟨k, A2, c2, O, hk, rfl, rfl, HZ, HO, hbr⟩ := hrel
   rename World => wr
   have hszr := hbr.size
   by_cases hlt : k < N
   ·have HG2 := Lib.hid (show ∀ x ∈ O ++ [dig1 N, ⟨#[49]⟩], goodChange N x = true from fun x hx => by
     rcases List.mem_append.1 hx with hx | hx
     ·exact HZ.out x hx
     ·simp only [List.mem_cons, List.not_mem_nil, or_false] at hx
      rcases hx with rfl | rfl
      ·exact HH.out.1
      ·exact HH.out.2.1)
    have hl2 := lit_strs2 wr 9 [dig1 N, ⟨#[49]⟩]
    go_wp2_with (first | (at_builtin; go_must ((refine wpList_append_recs Tryz.elStr strE_one rfl (.tmp 22) (.tmp 25) rfl rfl (HO.out.alloc _) rfl hl2 rfl ?_ (by decide) ?_ ?_; (focus (first | omega | (simp only [World.size_alloc]; done) | (simp only [World.size_alloc]; omega) | (simp; done) | (simp; omega))); (simp; omega); intro A3 c3 w6 ho6 hg6 hl6; have hb6 : Below w.heap.size w w6 := (hbr.alloc hszr _).trans (grown_base hg6 (by simp; omega) (fun z hz => (HO.out.range z hz).1))))))
    go_roundw
    case rel => exact ⟨k + 1, A3, c3, O ++ [dig1 N, ⟨#[49]⟩], by omega, by go_num, by go_num, HG2, Lib.hid ho6, hb6⟩
    case measure => simp [intOf]; omega
   ·obtain rfl : k = N := by omega
    obtain ⟨g, rfl, g0, g1, gc, gf⟩ := HO.out.at_ (by omega)
    have hOl := HO.out.len
    obtain ⟨y, hy⟩ := some_of_lt (l := O) (k := 2 * k - 1) (by omega)
    have c0 := gc (2 * k - 1) y 0 _ hy rfl
    have f0 := gf (2 * k - 1)
    simp only [Nat.mul_one, Nat.add_zero] at c0
    have pt := HO.out.put (k := 2 * k - 1) (j := 0) (x := s) (u := .string s) hy (by decide) rfl
    simp only [Nat.mul_one, Nat.add_zero] at pt
    have HPT := Lib.hid pt
    have HGS := Lib.hid (show ∀ x ∈ O.set (2 * k - 1) s, goodChange k x = true from fun x hx => by
     rcases List.mem_or_eq_of_mem_set hx with hx | hx
     ·exact HZ.out x hx
     ·rw [hx]; exact HS.out)
    have hJ : (2 : Int) * (k : Int) - 1 = ((2 * k - 1 : Nat) : Int) := by omega
    have hJ2 : ((2 * k : Nat) : Int) - 1 = ((2 * k - 1 : Nat) : Int) := by omega
    have hJ3 : ((2 * k - 1 : Nat) : Int) < ((2 * k : Nat) : Int) := by omega
    clear gc gf hy pt
    go_wp2
    go_ret
    exact ⟨_, _, O.set (2 * k - 1) s, rfl, HPT.out.1, HGS.out, hbr.grown HPT.out.2 hszr (fun z hz => by injection hz with hz; omega)⟩
end Go.Proofs.YtidolgonmimicaaGreat
namespace Go.Proofs.YtidolgonmimicaaGreat
open Go.ChangeShapes Go.WideShapes Go.ChangeAt Go.RowKit Go.Deep
def idxK : Nat → Nat → List Int → List Nat
 | _, 0, _ => []
 | i, 1, _ => [i]
 | i, k + 2, ps => match ps with
  | [] => (i + 1) :: i :: idxK (i + 2) k []
  | x :: r => if x = (i : Int) + 1 then i :: idxK (i + 1) (k + 1) r else (i + 1) :: i :: idxK (i + 2) k (x :: r)
def btwK (a b : ByteArray) : Nat → Nat → Bool → Bool
 | 0, _, sw => sw
 | 1, i, sw => if PlainAid.bt a i = PlainAid.bt b i then sw else false
 | k + 2, i, sw => if PlainAid.bt a i = PlainAid.bt b i then btwK a b (k + 1) (i + 1) sw else
   if PlainAid.bt a i = PlainAid.bt b (i + 1) ∧ PlainAid.bt a (i + 1) = PlainAid.bt b i then btwK a b k (i + 2) true else false
def fromIdx (a b : ByteArray) (i k : Nat) (ps : List Int) : Prop := ∀ j, j < k → PlainAid.bt b (i + j) = PlainAid.bt a ((idxK i k ps).getD j 0)
def swsF (st : Int → Bool) (n : Nat) : Nat → Nat → List Int
 | 0, _ => []
 | f + 1, p => if p < n then (if st p then swsF st n f (p + 1) else (p : Int) :: swsF st n f (p + 2)) else []
def idxC (n : Nat) (ps : List Int) : List Nat := (List.range n).map fun j => (cval (swsF (stays (ofPl ps)) n 9 1) j - 49).toNat
def okPs (n : Nat) (ps : List Int) : Bool := (idxC n ps == idxK 0 n ps) && (goodChange n (ofPl ps) == decide (ps.length < n))
end Go.Proofs.YtidolgonmimicaaGreat
namespace Go.Proofs.YtidolgonmimicaaGreat
open Go.ChangeShapes Go.WideShapes Go.ChangeAt Go.RowKit Go.Deep
def btwB (a b : ByteArray) : Bool := btwK a b a.size 0 false
end Go.Proofs.YtidolgonmimicaaGreat
