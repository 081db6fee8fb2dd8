/- Tables of ints: a row of slices, each of them a row of ints of its own. -/
import Derived.Test.YtmdmnjjlpefigaaMore
import Derived.Test.YtmdmnjjlpefigaaElems
import Derived.PlainAid
namespace Go.Proofs.Ytmdmnjjlpefigaa
set_option linter.unusedVariables false
set_option linter.unusedSimpArgs false
open Go.ChangeShapes Go.WideShapes Go.ChangeAt Go.RowKit Go.Deep

theorem wrap_id {x : Int} (h : -9223372036854775808 ≤ x ∧ x ≤ 9223372036854775807) : IntKind.i64.wrap x = x := by
  rw [PlainAid.i64_is]; unfold wrap64; omega
theorem wrap_succ {k : Nat} (h : k ≤ 16777216) : IntKind.i64.wrap ((k : Int) + 1) = ((k + 1 : Nat) : Int) := by
  rw [wrap_id (by omega)]; omega
/-- A slice's head: address, elements, capacity. -/
abbrev Hd := Option Addr × Nat × Nat
def slcE (v : Hd) : List Value := [.slice v.1 v.2.1 v.2.2]
theorem slcE_len (v : Hd) : (slcE v).length = 1 := rfl
theorem slcE_one (v : Hd) : ∀ u ∈ slcE v, u.oneCell' = true := fun u hu => by simp [slcE] at hu; subst hu; rfl
theorem Try.elInts : ElemOk Try.prog 100 103 (.slice none 0 0) 1 24 := ⟨Try.underlying100, by kernel_rfl, rfl, by decide⟩
theorem Recs.at_slc {w : World} {A : Option Addr} {l : List Hd} {k : Nat} (h : Recs slcE 1 w A l) (hk : k < l.length) : ∃ b off x, A = some ⟨b, off, none⟩ ∧ b < w.heap.size ∧ l[k]? = some x ∧ w.cell? ⟨b, off + k, none⟩ = some (.slice x.1 x.2.1 x.2.2) := by
  obtain ⟨b, off, hA, hb, hc⟩ := h.cells (by omega)
  obtain ⟨x, hx⟩ := some_of_lt hk
  exact ⟨b, off, x, hA, hb, hx, by simpa using hc k x 0 _ hx rfl⟩

theorem Owned.same {α : Type} {e : α → List Value} {s : Nat} {E : TypeId} {w w' : World} {base : Nat} {A : Option Addr} {n c : Nat} {l : List α} (h : Owned e s E w base A n c l)
    (hk : ∀ g, (Value.slice A n c).ownBlock = some g → w'.heap[g]? = w.heap[g]?) : Owned e s E w' base A n c l := by
  refine ⟨h.1, h.2.1, h.2.2.1, ?_⟩
  rcases h.2.2.2 with h0 | ⟨g, cap, cur, hv, hg, hh, r⟩
  · exact .inl h0
  · refine .inr ⟨g, cap, cur, hv, hg, ?_, r⟩
    rw [hk g (by rw [hv]; rfl)]
    exact hh

/-- The table T is what the heads vs in the row with address A read as. -/
def TabR (vs : List Hd) (w : World) (A : Option Addr) (T : List (List Int)) : Prop :=
  vs.length = T.length ∧ Recs slcE 1 w A vs ∧ ∀ (k : Nat) (v : Hd) (r : List Int), vs[k]? = some v → T[k]? = some r → v.2.1 = r.length ∧ Ints w v.1 r
theorem TabR.below {vs : List Hd} {w w' : World} {A : Option Addr} {T : List (List Int)} {B : Nat} (h : TabR vs w A T) (hb : Below B w w') (hB : w.heap.size ≤ B) : TabR vs w' A T :=
  ⟨h.1, h.2.1.below hb hB, fun k v r hv hr => ⟨(h.2.2 k v r hv hr).1, (h.2.2 k v r hv hr).2.below hb hB⟩⟩
theorem TabR.up {vs : List Hd} {w w' : World} {A : Option Addr} {T : List (List Int)} (h : TabR vs w A T) (hb : Below w.heap.size w w') : TabR vs w' A T := h.below hb (Nat.le_refl _)
/-- Row k of a table that is read: its head's cell, and the row. -/
theorem TabR.row {vs : List Hd} {w : World} {A : Option Addr} {T : List (List Int)} {k : Nat} (h : TabR vs w A T) (hk : k < T.length) :
    ∃ b off v r, A = some ⟨b, off, none⟩ ∧ b < w.heap.size ∧ T[k]? = some r ∧ w.cell? ⟨b, off + k, none⟩ = some (.slice v r.length (v, r.length, (vs[k]?.getD (none, 0, 0)).2.2).2.2) ∧ Ints w v r := by
  obtain ⟨b, off, v, hA, hb, hv, hc⟩ := h.2.1.at_slc (k := k) (by rw [h.1]; exact hk)
  obtain ⟨r, hr⟩ := some_of_lt hk
  obtain ⟨h1, h2⟩ := h.2.2 k v r hv hr
  refine ⟨b, off, v.1, r, hA, hb, hr, ?_, h2⟩
  rw [hc, h1, hv]; rfl
theorem TabR.rowc {vs : List Hd} {w : World} {A : Option Addr} {T : List (List Int)} {i : Nat} {r : List Int} (h : TabR vs w A T) (hr : T[i]? = some r) (h0 : 0 < r.length) :
    ∃ g og b o c, A = some ⟨g, og, none⟩ ∧ g < w.heap.size ∧ b < w.heap.size ∧ w.cell? ⟨g, og + i, none⟩ = some (.slice (some ⟨b, o, none⟩) r.length c) ∧ ∀ j x, r[j]? = some x → w.cell? ⟨b, o + j, none⟩ = some (.int .i64 x) := by
  obtain ⟨g, og, v, hA, hb, hv, hc⟩ := h.2.1.at_slc (k := i) (by rw [h.1]; exact (List.getElem?_eq_some_iff.1 hr).1)
  obtain ⟨h1, h2⟩ := h.2.2 i v r hv hr
  obtain ⟨b, o, hA2, hb2, hc2⟩ := h2.cells h0
  refine ⟨g, og, b, o, v.2.2, hA, hb, hb2, ?_, fun j x hx => by simpa using hc2 j x 0 _ hx rfl⟩
  rw [hc, h1, hA2]
/-- .. all of it memory of the call's own, no two rows in one block. -/
structure Tab (vs : List Hd) (w : World) (base : Nat) (A : Option Addr) (n c : Nat) (T : List (List Int)) : Prop where
  len : T.length = n
  top : Owned slcE 1 103 w base A n c vs
  row : ∀ (k : Nat) (v : Hd) (r : List Int), vs[k]? = some v → T[k]? = some r → Owned intE 1 3 w base v.1 v.2.1 v.2.2 r
  off : ∀ (k : Nat) (v : Hd), vs[k]? = some v → ∀ g, (Value.slice v.1 v.2.1 v.2.2).ownBlock = some g → (Value.slice A n c).ownBlock ≠ some g
  two : ∀ (j k : Nat) (v u : Hd), j ≠ k → vs[j]? = some v → vs[k]? = some u → ∀ g, (Value.slice v.1 v.2.1 v.2.2).ownBlock = some g → (Value.slice u.1 u.2.1 u.2.2).ownBlock ≠ some g
/-- All blocks of the table lie between lo and hi. -/
def TabIn (vs : List Hd) (A : Option Addr) (n c lo hi : Nat) : Prop := InRange (.slice A n c) lo hi ∧ ∀ (k : Nat) (v : Hd), vs[k]? = some v → InRange (.slice v.1 v.2.1 v.2.2) lo hi
section
variable {vs : List Hd} {w w' : World} {base : Nat} {A : Option Addr} {n c : Nat} {T : List (List Int)}
theorem Tab.vlen (h : Tab vs w base A n c T) : vs.length = T.length := by rw [h.top.len, h.len]
theorem Tab.recs (h : Tab vs w base A n c T) : TabR vs w A T := ⟨h.vlen, h.top.recs, fun k v r hv hr => ⟨(h.row k v r hv hr).len.symm, (h.row k v r hv hr).recs⟩⟩
theorem Tab.rowAt (h : Tab vs w base A n c T) {k : Nat} {v : Hd} (hv : vs[k]? = some v) : ∃ r, T[k]? = some r ∧ Owned intE 1 3 w base v.1 v.2.1 v.2.2 r := by
  have hk := (List.getElem?_eq_some_iff.1 hv).1
  obtain ⟨r, hr⟩ := some_of_lt (l := T) (k := k) (by rw [← h.vlen]; exact hk)
  exact ⟨r, hr, h.row k v r hv hr⟩
theorem Tab.range (h : Tab vs w base A n c T) : TabIn vs A n c base w.heap.size := ⟨h.top.range, fun k v hv => by
  obtain ⟨r, _, ho⟩ := h.rowAt hv
  exact ho.range⟩
theorem Tab.same {lo hi : Nat} (h : Tab vs w base A n c T) (hi_ : TabIn vs A n c lo hi) (hk : ∀ g, lo ≤ g → g < hi → w'.heap[g]? = w.heap[g]?) : Tab vs w' base A n c T where
  len := h.len
  top := h.top.same fun g hg => hk g (hi_.1 g hg).1 (hi_.1 g hg).2
  row := fun k v r hv hr => (h.row k v r hv hr).same fun g hg => hk g (hi_.2 k v hv g hg).1 (hi_.2 k v hv g hg).2
  off := h.off
  two := h.two
theorem Tab.up (h : Tab vs w base A n c T) (hb : Below w.heap.size w w') : Tab vs w' base A n c T := h.same h.range fun g _ hg => hb.block g hg
theorem Tab.base_le {base' : Nat} (h : Tab vs w base A n c T) (hb : base' ≤ base) : Tab vs w base' A n c T :=
  ⟨h.len, h.top.base_le hb, fun k v r hv hr => (h.row k v r hv hr).base_le hb, h.off, h.two⟩
theorem Tab.kept {lo hi a b : Nat} {v : Value} (h : Tab vs w base A n c T) (hi_ : TabIn vs A n c lo hi) (hlt : hi ≤ w.heap.size) (hg : w.grownBy w' v.ownBlock) (hv : InRange v a b) (hd : hi ≤ a ∨ b ≤ lo) : Tab vs w' base A n c T :=
  h.same hi_ fun g g1 g2 => hg.block g (by omega) fun e => by
    have := hv g e.symm
    omega
theorem Tab.nil (w : World) (base : Nat) : Tab [] w base none 0 0 [] :=
  ⟨rfl, Owned.nil slcE_len _ _ _, fun k v r hv _ => by simp at hv, fun k v hv => by simp at hv, fun j k v u _ hv => by simp at hv⟩
end
theorem Owned.sameB {α : Type} {e : α → List Value} {s : Nat} {E : TypeId} {w w' : World} {base : Nat} {A : Option Addr} {n c lo hi B : Nat} {l : List α} (h : Owned e s E w base A n c l)
    (hr : InRange (.slice A n c) lo hi) (hb : Below B w w') (hB : hi ≤ B) : Owned e s E w' base A n c l := h.same fun g hg => hb.block g (by have := hr g hg; omega)
theorem Tab.sameB {vs : List Hd} {w w' : World} {base : Nat} {A : Option Addr} {n c lo hi B : Nat} {T : List (List Int)} (h : Tab vs w base A n c T)
    (hr : TabIn vs A n c lo hi) (hb : Below B w w') (hB : hi ≤ B) : Tab vs w' base A n c T := h.same hr fun g _ hg => hb.block g (by omega)
/-- The block of row i. -/
def hBlk (vs : List Hd) (i : Nat) : Nat := match vs[i]? with | some (some a, _, _) => a.block | _ => 0
/-- A table that is being made: the heads lie in block g; the rows i of which F holds are there, no two in one block. -/
structure Part (vs : List Hd) (w : World) (base g n : Nat) (F : Nat → Prop) (R : Nat → List Int) : Prop where
  gb : base ≤ g
  top : Owned slcE 1 103 w base (some ⟨g, 0, none⟩) n n vs
  row : ∀ i, F i → i < n → vs[i]? = some (some ⟨hBlk vs i, 0, none⟩, (R i).length, (R i).length) ∧ g < hBlk vs i ∧ hBlk vs i < w.heap.size ∧ Owned intE 1 3 w base (some ⟨hBlk vs i, 0, none⟩) (R i).length (R i).length (R i)
  two : ∀ i j, F i → F j → i < n → j < n → i ≠ j → hBlk vs i ≠ hBlk vs j
section
variable {vs : List Hd} {w w' : World} {base g n : Nat} {F F' : Nat → Prop} {R : Nat → List Int}
theorem Part.up (h : Part vs w base g n F R) (hB : Below w.heap.size w w') : Part vs w' base g n F R :=
  ⟨h.gb, h.top.up hB, fun i hi hn => ⟨(h.row i hi hn).1, (h.row i hi hn).2.1, Nat.lt_of_lt_of_le (h.row i hi hn).2.2.1 hB.size, (h.row i hi hn).2.2.2.up hB⟩, h.two⟩
theorem Part.drew (h : Part vs w base g n F R) : Part vs w.drew base g n F R := h.up (Below.drew (Below.refl _ _))
theorem Part.less (h : Part vs w base g n F R) (hF : ∀ i, F' i → F i) : Part vs w base g n F' R :=
  ⟨h.gb, h.top, fun i hi hn => h.row i (hF i hi) hn, fun i j hi hj => h.two i j (hF i hi) (hF j hj)⟩
/-- One other block is written, or grown. -/
theorem Part.past {p : Nat} (h : Part vs w base g n F R) (hg : w.grownBy w' (some p)) (h1 : p ≠ g) (h2 : ∀ i, F i → i < n → hBlk vs i ≠ p) : Part vs w' base g n F R := by
  have key : ∀ {A : Option Addr} {m c q : Nat}, q < w.heap.size → q ≠ p → (Value.slice (some ⟨q, 0, none⟩) m c).ownBlock = some q → w'.heap[q]? = w.heap[q]? := fun hq hne _ => hg.block _ hq (fun e => hne (by injection e))
  refine ⟨h.gb, h.top.same fun q hq => ?_, fun i hi hn => ⟨(h.row i hi hn).1, (h.row i hi hn).2.1, Nat.lt_of_lt_of_le (h.row i hi hn).2.2.1 hg.size, (h.row i hi hn).2.2.2.same fun q hq => ?_⟩, h.two⟩
  · have := (h.top.blk hq).2
    injection hq with hq
    subst hq
    exact hg.block _ this (fun e => h1 (by injection e with e; exact e.symm))
  · have := ((h.row i hi hn).2.2.2.blk hq).2
    injection hq with hq
    subst hq
    exact hg.block _ this (fun e => h2 i hi hn (by injection e))
theorem hb_some {i : Nat} {a : Addr} {m c : Nat} (h : vs[i]? = some (some a, m, c)) : hBlk vs i = a.block := by simp [hBlk, h]
theorem hb_set {i j : Nat} {v : Hd} (h : i ≠ j) : hBlk (vs.set j v) i = hBlk vs i := by
  unfold hBlk
  rw [List.getElem?_set_ne (fun e => h e.symm)]
/-- The head of a row that was not there is stored. -/
theorem Part.head {i0 q m c : Nat} (h : Part vs w base g n F R) (h0 : ¬ F i0) (hi0 : i0 < n) : Part (vs.set i0 (some ⟨q, 0, none⟩, m, c)) (w.setCell ⟨g, i0, none⟩ (.slice (some ⟨q, 0, none⟩) m c)) base g n F R := by
  obtain ⟨y, hy⟩ := some_of_lt (l := vs) (k := i0) (by rw [h.top.len]; exact hi0)
  have p0 := h.top.put (j := 0) (x := ((some ⟨q, 0, none⟩, m, c) : Hd)) (u := .slice (some ⟨q, 0, none⟩) m c) hy (by decide) rfl
  simp only [Nat.mul_one, Nat.add_zero] at p0
  refine ⟨h.gb, p0.1, fun i hi hn => ?_, fun i j hi hj hn hm hne => ?_⟩
  · have hne : i ≠ i0 := fun e => h0 (e ▸ hi)
    obtain ⟨r1, r2, r3, r4⟩ := h.row i hi hn
    rw [hb_set hne, List.getElem?_set_ne (fun e => hne e.symm)]
    refine ⟨r1, r2, by simpa using r3, r4.kept (p0.2) fun k hk e => ?_⟩
    injection hk with hk
    injection e with e
    dsimp only at hk e
    omega
  · have e1 : i ≠ i0 := fun e => h0 (by rw [← e]; exact hi)
    have e2 : j ≠ i0 := fun e => h0 (by rw [← e]; exact hj)
    rw [hb_set e1, hb_set e2]
    exact h.two i j hi hj hn hm hne
/-- A row is done. -/
theorem Part.add {i0 q : Nat} (h : Part vs w base g n F R) (hv : vs[i0]? = some (some ⟨q, 0, none⟩, (R i0).length, (R i0).length)) (hq : g < q) (hr : Owned intE 1 3 w base (some ⟨q, 0, none⟩) (R i0).length (R i0).length (R i0))
    (hne : ∀ i, F i → i < n → i ≠ i0 → hBlk vs i ≠ q) (hF : ∀ i, F' i → F i ∨ i = i0) : Part vs w base g n F' R := by
  have e0 : hBlk vs i0 = q := hb_some hv
  refine ⟨h.gb, h.top, fun i hi hn => ?_, fun i j hi hj hn hm hij => ?_⟩
  · by_cases e : i = i0
    · subst e
      rw [e0]
      exact ⟨hv, hq, (hr.blk rfl).2, hr⟩
    · exact h.row i ((hF i hi).resolve_right e) hn
  · by_cases e : i = i0
    · subst e
      rw [e0]
      exact fun e2 => hne j ((hF j hj).resolve_right (fun e3 => hij e3.symm)) hm (fun e3 => hij e3.symm) e2.symm
    · by_cases e' : j = i0
      · subst e'
        rw [e0]
        exact hne i ((hF i hi).resolve_right e) hn e
      · exact h.two i j ((hF i hi).resolve_right e) ((hF j hj).resolve_right e') hn hm hij
/-- All rows are done. -/
theorem Part.tab (h : Part vs w base g n F R) (hF : ∀ i, i < n → F i) : Tab vs w base (some ⟨g, 0, none⟩) n n ((List.range n).map R) := by
  have hl := h.top.len
  have hk : ∀ {k : Nat} {v : Hd}, vs[k]? = some v → k < n := fun hv => by rw [← hl]; exact (List.getElem?_eq_some_iff.1 hv).1
  refine ⟨by simp, h.top, fun k v r hv hr => ?_, fun k v hv q hq => ?_, fun j k v u hne hv hu q hq => ?_⟩
  · have hn := hk hv
    obtain ⟨r1, r2, r3, r4⟩ := h.row k (hF k hn) hn
    rw [hv] at r1
    injection r1 with r1
    subst r1
    have er : R k = r := by simpa [hn] using hr
    subst er
    exact r4
  · have hn := hk hv
    obtain ⟨r1, r2, r3, r4⟩ := h.row k (hF k hn) hn
    rw [hv] at r1
    injection r1 with r1
    subst r1
    injection hq with hq
    dsimp only at hq
    intro e
    injection e with e
    dsimp only at e
    omega
  · have hn := hk hv
    have hm := hk hu
    obtain ⟨r1, _⟩ := h.row j (hF j hn) hn
    obtain ⟨s1, _⟩ := h.row k (hF k hm) hm
    rw [hv] at r1; injection r1 with r1; subst r1
    rw [hu] at s1; injection s1 with s1; subst s1
    injection hq with hq
    dsimp only at hq
    intro e
    injection e with e
    dsimp only at e
    exact h.two j k (hF j hn) (hF k hm) hn hm hne (by omega)
/-- What is read of a row that is done. -/
theorem Part.at_ {i j : Nat} {x : Int} (h : Part vs w base g n F R) (hi : F i) (hn : i < n) (hx : (R i)[j]? = some x) :
    w.cell? ⟨g, i, none⟩ = some (.slice (some ⟨hBlk vs i, 0, none⟩) (R i).length (R i).length) ∧ w.cell? ⟨hBlk vs i, j, none⟩ = some (.int .i64 x) := by
  obtain ⟨r1, r2, r3, r4⟩ := h.row i hi hn
  obtain ⟨b, eb, _, _, hc, _⟩ := h.top.at_ (by omega)
  injection eb with eb; injection eb with eb; subst eb
  have hj : j < (R i).length := (List.getElem?_eq_some_iff.1 hx).1
  obtain ⟨b2, eb2, _, _, hc2, _⟩ := r4.at_ (by omega)
  injection eb2 with eb2; injection eb2 with eb2
  have c1 := hc i _ 0 _ r1 rfl
  have c2 := hc2 j x 0 _ hx rfl
  simp only [Nat.mul_one, Nat.add_zero] at c1 c2
  rw [← eb2] at c2
  exact ⟨c1, c2⟩
end
end Go.Proofs.Ytmdmnjjlpefigaa
