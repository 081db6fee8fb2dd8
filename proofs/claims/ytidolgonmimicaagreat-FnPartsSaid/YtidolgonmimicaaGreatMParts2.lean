/- Texts 2 of 7 that the claim leans on: plain laws and the walks' contracts, in order. -/
import Derived.Test.YtidolgonmimicaaGreatMParts1
import Derived.PlainAid
import Derived.Deep.AppendLies
import Derived.StillTailTactics
import Derived.Maps.AppendAt
import Derived.Maps.OwnSet
import Derived.Maps.Views
import Derived.WideKeyPair
import Derived.DeepKeys4
import Derived.Shelf.Spec.SearchS
import Derived.Ground.Names2Prog
import Derived.Test.YtidolgonmimicaaGreatProg
import Derived.Shelf.Strings.Builder1
import Derived.Shelf.Strings.Builder2
import Derived.Shelf.Small.Strs
import Derived.Shelf.Strings.BuilderF
import Derived.Shelf.Strings.BuilderK
import Derived.Shelf.Strconv.Itoa0
import Derived.Shelf.Strings.Search1
import Derived.Shelf.Sort.Plain
import Derived.Shelf.Strings.Prefix
import Derived.Shelf.Bits.Mul64
import Derived.Shelf.Strings.Repeat
import Derived.Sort.OwnSorted
/- The walks through a row taken through another, both sides. -/
namespace Go.Proofs.YtidolgonmimicaaGreat
set_option linter.unusedVariables false
set_option linter.unusedSimpArgs false
open Go.ChangeShapes Go.WideShapes Go.ChangeAt Go.RowKit Go.Deep
set_option maxRecDepth 100000 in
theorem impl_times {a b : ByteArray} {w : World} (ha : a.size ≤ 16777216) (hz : b.size ≤ 16777216) (hf : fits a b) :
    Calls Tryz.prog 123 #[.string a, .string b] w fun e w' => e = .returned (.string (timesS a b)) ∧ Below w.heap.size w w' := by
  have hba := PlainAid.get_bt a
  have hbb := PlainAid.get_bt b
  have hmk := run_make_rec (e := byteE) Tryz.elU8 0 rfl b.size (by omega) (by decide)
  have hE : Hid (timesS a b = strOfNums (timesL a b)) := Lib.hid rfl
  have HF : Hid (fits a b) := hf
  have hr0 : Hid (BRow (w.alloc (.cells (madeCells (byteE 0).toArray (b.size * 1)) 5)) w.heap.size (List.replicate b.size 0)) := Lib.hid (BRow.of_owned (Owned.made (e := byteE) (s := 1) byteE_len w 5 0 b.size (by omega) (Nat.le_refl _)))
  have hb0 : Below w.heap.size w (w.alloc (.cells (madeCells (byteE 0).toArray (b.size * 1)) 5)) := by (repeat' (first | (with_reducible exact Below.refl _ _) | (with_reducible assumption) | (with_reducible refine below_drewN ?_ _) | (with_reducible refine Below.drew ?_) | (with_reducible refine below_alloc ?_ _) | (with_reducible refine Below.alloc ?_ ?_ _) | (with_reducible refine Below.setCell ?_ ?_ _) | (with_reducible refine below_go ?_ (by with_reducible assumption)) | (with_reducible refine below_then (by with_reducible assumption) ?_ ?_) | go_size))
  clear hf
  rw [Nat.mul_one] at hr0 hb0 hmk
  go_in
  go_wp2
  clear hmk
  go_loopw [12] (fun i wr => ∃ (k : Nat) (m : List Int), k ≤ b.size ∧ i = .int .i64 k ∧ Hid (∀ j, j < k → m[j]? = (timesL a b)[j]?) ∧ m.length = b.size ∧ Hid (BRow wr w.heap.size m) ∧ Below w.heap.size w wr) (fun i _ => b.size - (intOf i).toNat)
  case atStart => exact ⟨0, _, Nat.zero_le _, rfl, Lib.hid (fun j hj => absurd hj (by omega)), by simp, hr0, hb0⟩
  case round =>
    obtain ⟨k, m, hk, rfl, HM, hml, HR, hb⟩ := hrel
    by_cases hlt : k < b.size
    · have hr := HF.out k hlt
      obtain ⟨q, hq⟩ : ∃ q : Nat, PlainAid.bt b k = (q : Int) + 49 := ⟨(PlainAid.bt b k - 49).toNat, by omega⟩
      have hqa : q < a.size := by omega
      have hb255 := PlainAid.bt_le b k
      have hq6 : q % 256 = q := by omega
      have hq1 : PlainAid.bt b k - 49 = (q : Int) := by omega
      have hq2 : (PlainAid.bt b k - 49).toNat = q := by omega
      have E := Lib.hid (show (timesL a b)[k]? = some (PlainAid.bt a q) by rw [timesL_at hlt, hq2])
      have d1 := HR.out.2.1 k _ (List.getElem?_eq_getElem (by omega))
      have f1 := HR.out.2.2 k (by omega)
      have hR2 := Lib.hid (HR.out.set (k := k) (by omega) (PlainAid.bt a q))
      go_wp2
      go_roundw
      case rel => exact ⟨k + 1, m.set k (PlainAid.bt a q), by omega, by go_num, Lib.hid (upto_set HM.out E.out (by omega)), by rw [List.length_set]; exact hml, hR2, by (repeat' (first | (with_reducible exact Below.refl _ _) | (with_reducible assumption) | (with_reducible refine below_drewN ?_ _) | (with_reducible refine Below.drew ?_) | (with_reducible refine below_alloc ?_ _) | (with_reducible refine Below.alloc ?_ ?_ _) | (with_reducible refine Below.setCell ?_ ?_ _) | (with_reducible refine below_go ?_ (by with_reducible assumption)) | (with_reducible refine below_then (by with_reducible assumption) ?_ ?_) | go_size))⟩
      case measure => simp [intOf]; omega
    · obtain rfl : k = b.size := by omega
      have e1 : m = timesL a b := eq_of_upto (fun j hj => HM.out j hj) hml (timesL_len a b)
      have ht := HR.out.text (P := Tryz.prog) (src := 22) (e := 5) (dst := 9) b.size b.size hml Tryz.underlying22 Tryz.underlying5 Tryz.underlying9
      rw [e1, ← hE.out] at ht
      go_wp2
      go_ret
      exact ⟨rfl, hb⟩
theorem spec_l1At {b : ByteArray} {k : Nat} {w : World} (hk : k < b.size) (hz : b.size ≤ 16777216) (hlo : 48 ≤ PlainAid.bt b k) :
    Calls Tryz.prog 193 #[.string b, .int .i64 ((k : Int) + 1)] w fun e w' => e = .returned (.int .i64 (PlainAid.bt b k - 48)) ∧ w = w' := by
  have hbb := PlainAid.get_bt b
  have hn1 := PlainAid.bt_le b k
  go_in
  go_wp2
  go_ret
  exact ⟨rfl, rfl⟩
set_option maxRecDepth 100000 in
theorem spec_l1Times {a b : ByteArray} {w : World} (ha : a.size ≤ 16777216) (hz : b.size ≤ 16777216) (hf : fits a b) :
    Calls Tryz.prog 118 #[.string a, .string b] w fun e w' => e = .returned (.string (timesS a b)) ∧ w = w' := by
  have hE : Hid (timesS a b = strOfNums (timesL a b)) := Lib.hid rfl
  have HF : Hid (fits a b) := hf
  clear hf
  go_in
  go_wp2
  go_loopw [5, 6] (fun v i wr => ∃ (k : Nat) (s : ByteArray), k ≤ b.size ∧ i = .int .i64 (k + 1 : Nat) ∧ v = .string s ∧ s.size = k ∧ Hid (s = strOfNums ((timesL a b).take k)) ∧ w = wr) (fun _ i _ => b.size + 1 - (intOf i).toNat)
  case atStart => exact ⟨0, _, Nat.zero_le _, rfl, rfl, rfl, Lib.hid rfl, rfl⟩
  case round =>
    obtain ⟨k, s, hk, rfl, rfl, hsk, HS, rfl⟩ := hrel
    by_cases hlt : k < b.size
    · have hr := HF.out k hlt
      obtain ⟨q, hq⟩ : ∃ q : Nat, PlainAid.bt b k = (q : Int) + 49 := ⟨(PlainAid.bt b k - 49).toNat, by omega⟩
      have hqa : q < a.size := by omega
      have hq2 : (PlainAid.bt b k - 49).toNat = q := by omega
      have hq3 : PlainAid.bt b k - 48 = (q : Int) + 1 := by omega
      have E := Lib.hid (show (timesL a b)[k]? = some (PlainAid.bt a q) by rw [timesL_at hlt, hq2])
      have hx := one_byte hqa
      have hxs : (a.extract q (q + 1)).size = 1 := by rw [hx]; rfl
      have hsz : (s ++ a.extract q (q + 1)).size = k + 1 := by rw [ByteArray.size_append, hxs, hsk]
      have HS2 := Lib.hid (show s ++ a.extract q (q + 1) = strOfNums ((timesL a b).take (k + 1)) by rw [HS.out, hx, take_succ_some E.out, strOf_append])
      have h48 : 48 ≤ PlainAid.bt b k := by omega
      clear hx
      go_wp2_with (first | (go_at_call 193; refine (spec_l1At hlt hz h48).mono ?_; rw [hq3]; rintro e w' ⟨rfl, rfl⟩))
      go_roundw
      case rel => exact ⟨k + 1, s ++ a.extract q (q + 1), by omega, by go_num, rfl, hsz, HS2, trivial⟩
      case measure => simp [intOf]; omega
    · obtain rfl : k = b.size := by omega
      have e1 := Lib.hid (show s = timesS a b by rw [HS.out, hE.out, List.take_of_length_le (by rw [timesL_len]; exact Nat.le_refl _)])
      go_wp2
      go_ret
      rw [e1.out]
      exact ⟨rfl, rfl⟩
end Go.Proofs.YtidolgonmimicaaGreat
/- Tables of ints: a row of slices, each of them a row of ints of its own. -/
namespace Go.Proofs.YtidolgonmimicaaGreat
set_option linter.unusedVariables false
set_option linter.unusedSimpArgs false
open Go.ChangeShapes Go.WideShapes Go.ChangeAt Go.RowKit Go.Deep

theorem wrap_id {x : Int} (h : -9223372036854775808 ≤ x ∧ x ≤ 9223372036854775807) : IntKind.i64.wrap x = x := by
  rw [PlainAid.i64_is]; unfold wrap64; omega
theorem wrap_succ {k : Nat} (h : k ≤ 16777216) : IntKind.i64.wrap ((k : Int) + 1) = ((k + 1 : Nat) : Int) := by
  rw [wrap_id (by omega)]; omega
/-- A slice's head: address, elements, capacity. -/
abbrev Hd := Option Addr × Nat × Nat
def slcE (v : Hd) : List Value := [.slice v.1 v.2.1 v.2.2]
theorem slcE_len (v : Hd) : (slcE v).length = 1 := rfl
theorem slcE_one (v : Hd) : ∀ u ∈ slcE v, u.oneCell' = true := fun u hu => by simp [slcE] at hu; subst hu; rfl
theorem Tryz.elInts : ElemOk Tryz.prog 160 134 (.slice none 0 0) 1 24 := ⟨Tryz.underlying160, by kernel_rfl, rfl, by decide⟩
theorem Recs.at_slc {w : World} {A : Option Addr} {l : List Hd} {k : Nat} (h : Recs slcE 1 w A l) (hk : k < l.length) : ∃ b off x, A = some ⟨b, off, none⟩ ∧ b < w.heap.size ∧ l[k]? = some x ∧ w.cell? ⟨b, off + k, none⟩ = some (.slice x.1 x.2.1 x.2.2) := by
  obtain ⟨b, off, hA, hb, hc⟩ := h.cells (by omega)
  obtain ⟨x, hx⟩ := some_of_lt hk
  exact ⟨b, off, x, hA, hb, hx, by simpa using hc k x 0 _ hx rfl⟩

theorem Owned.same {α : Type} {e : α → List Value} {s : Nat} {E : TypeId} {w w' : World} {base : Nat} {A : Option Addr} {n c : Nat} {l : List α} (h : Owned e s E w base A n c l)
    (hk : ∀ g, (Value.slice A n c).ownBlock = some g → w'.heap[g]? = w.heap[g]?) : Owned e s E w' base A n c l := by
  refine ⟨h.1, h.2.1, h.2.2.1, ?_⟩
  rcases h.2.2.2 with h0 | ⟨g, cap, cur, hv, hg, hh, r⟩
  · exact .inl h0
  · refine .inr ⟨g, cap, cur, hv, hg, ?_, r⟩
    rw [hk g (by rw [hv]; rfl)]
    exact hh

/-- The table T is what the heads vs in the row with address A read as. -/
def TabR (vs : List Hd) (w : World) (A : Option Addr) (T : List (List Int)) : Prop :=
  vs.length = T.length ∧ Recs slcE 1 w A vs ∧ ∀ (k : Nat) (v : Hd) (r : List Int), vs[k]? = some v → T[k]? = some r → v.2.1 = r.length ∧ Ints w v.1 r
theorem TabR.below {vs : List Hd} {w w' : World} {A : Option Addr} {T : List (List Int)} {B : Nat} (h : TabR vs w A T) (hb : Below B w w') (hB : w.heap.size ≤ B) : TabR vs w' A T :=
  ⟨h.1, h.2.1.below hb hB, fun k v r hv hr => ⟨(h.2.2 k v r hv hr).1, (h.2.2 k v r hv hr).2.below hb hB⟩⟩
theorem TabR.up {vs : List Hd} {w w' : World} {A : Option Addr} {T : List (List Int)} (h : TabR vs w A T) (hb : Below w.heap.size w w') : TabR vs w' A T := h.below hb (Nat.le_refl _)
/-- Row k of a table that is read: its head's cell, and the row. -/
theorem TabR.row {vs : List Hd} {w : World} {A : Option Addr} {T : List (List Int)} {k : Nat} (h : TabR vs w A T) (hk : k < T.length) :
    ∃ b off v r, A = some ⟨b, off, none⟩ ∧ b < w.heap.size ∧ T[k]? = some r ∧ w.cell? ⟨b, off + k, none⟩ = some (.slice v r.length (v, r.length, (vs[k]?.getD (none, 0, 0)).2.2).2.2) ∧ Ints w v r := by
  obtain ⟨b, off, v, hA, hb, hv, hc⟩ := h.2.1.at_slc (k := k) (by rw [h.1]; exact hk)
  obtain ⟨r, hr⟩ := some_of_lt hk
  obtain ⟨h1, h2⟩ := h.2.2 k v r hv hr
  refine ⟨b, off, v.1, r, hA, hb, hr, ?_, h2⟩
  rw [hc, h1, hv]; rfl
theorem TabR.rowc {vs : List Hd} {w : World} {A : Option Addr} {T : List (List Int)} {i : Nat} {r : List Int} (h : TabR vs w A T) (hr : T[i]? = some r) (h0 : 0 < r.length) :
    ∃ g og b o c, A = some ⟨g, og, none⟩ ∧ g < w.heap.size ∧ b < w.heap.size ∧ w.cell? ⟨g, og + i, none⟩ = some (.slice (some ⟨b, o, none⟩) r.length c) ∧ ∀ j x, r[j]? = some x → w.cell? ⟨b, o + j, none⟩ = some (.int .i64 x) := by
  obtain ⟨g, og, v, hA, hb, hv, hc⟩ := h.2.1.at_slc (k := i) (by rw [h.1]; exact (List.getElem?_eq_some_iff.1 hr).1)
  obtain ⟨h1, h2⟩ := h.2.2 i v r hv hr
  obtain ⟨b, o, hA2, hb2, hc2⟩ := h2.cells h0
  refine ⟨g, og, b, o, v.2.2, hA, hb, hb2, ?_, fun j x hx => by simpa using hc2 j x 0 _ hx rfl⟩
  rw [hc, h1, hA2]
/-- .. all of it memory of the call's own, no two rows in one block. -/
structure Tab (vs : List Hd) (w : World) (base : Nat) (A : Option Addr) (n c : Nat) (T : List (List Int)) : Prop where
  len : T.length = n
  top : Owned slcE 1 134 w base A n c vs
  row : ∀ (k : Nat) (v : Hd) (r : List Int), vs[k]? = some v → T[k]? = some r → Owned intE 1 3 w base v.1 v.2.1 v.2.2 r
  off : ∀ (k : Nat) (v : Hd), vs[k]? = some v → ∀ g, (Value.slice v.1 v.2.1 v.2.2).ownBlock = some g → (Value.slice A n c).ownBlock ≠ some g
  two : ∀ (j k : Nat) (v u : Hd), j ≠ k → vs[j]? = some v → vs[k]? = some u → ∀ g, (Value.slice v.1 v.2.1 v.2.2).ownBlock = some g → (Value.slice u.1 u.2.1 u.2.2).ownBlock ≠ some g
/-- All blocks of the table lie between lo and hi. -/
def TabIn (vs : List Hd) (A : Option Addr) (n c lo hi : Nat) : Prop := InRange (.slice A n c) lo hi ∧ ∀ (k : Nat) (v : Hd), vs[k]? = some v → InRange (.slice v.1 v.2.1 v.2.2) lo hi
section
variable {vs : List Hd} {w w' : World} {base : Nat} {A : Option Addr} {n c : Nat} {T : List (List Int)}
theorem Tab.vlen (h : Tab vs w base A n c T) : vs.length = T.length := by rw [h.top.len, h.len]
theorem Tab.recs (h : Tab vs w base A n c T) : TabR vs w A T := ⟨h.vlen, h.top.recs, fun k v r hv hr => ⟨(h.row k v r hv hr).len.symm, (h.row k v r hv hr).recs⟩⟩
theorem Tab.rowAt (h : Tab vs w base A n c T) {k : Nat} {v : Hd} (hv : vs[k]? = some v) : ∃ r, T[k]? = some r ∧ Owned intE 1 3 w base v.1 v.2.1 v.2.2 r := by
  have hk := (List.getElem?_eq_some_iff.1 hv).1
  obtain ⟨r, hr⟩ := some_of_lt (l := T) (k := k) (by rw [← h.vlen]; exact hk)
  exact ⟨r, hr, h.row k v r hv hr⟩
theorem Tab.range (h : Tab vs w base A n c T) : TabIn vs A n c base w.heap.size := ⟨h.top.range, fun k v hv => by
  obtain ⟨r, _, ho⟩ := h.rowAt hv
  exact ho.range⟩
theorem Tab.same {lo hi : Nat} (h : Tab vs w base A n c T) (hi_ : TabIn vs A n c lo hi) (hk : ∀ g, lo ≤ g → g < hi → w'.heap[g]? = w.heap[g]?) : Tab vs w' base A n c T where
  len := h.len
  top := h.top.same fun g hg => hk g (hi_.1 g hg).1 (hi_.1 g hg).2
  row := fun k v r hv hr => (h.row k v r hv hr).same fun g hg => hk g (hi_.2 k v hv g hg).1 (hi_.2 k v hv g hg).2
  off := h.off
  two := h.two
theorem Tab.up (h : Tab vs w base A n c T) (hb : Below w.heap.size w w') : Tab vs w' base A n c T := h.same h.range fun g _ hg => hb.block g hg
theorem Tab.base_le {base' : Nat} (h : Tab vs w base A n c T) (hb : base' ≤ base) : Tab vs w base' A n c T :=
  ⟨h.len, h.top.base_le hb, fun k v r hv hr => (h.row k v r hv hr).base_le hb, h.off, h.two⟩
theorem Tab.kept {lo hi a b : Nat} {v : Value} (h : Tab vs w base A n c T) (hi_ : TabIn vs A n c lo hi) (hlt : hi ≤ w.heap.size) (hg : w.grownBy w' v.ownBlock) (hv : InRange v a b) (hd : hi ≤ a ∨ b ≤ lo) : Tab vs w' base A n c T :=
  h.same hi_ fun g g1 g2 => hg.block g (by omega) fun e => by
    have := hv g e.symm
    omega
theorem Tab.nil (w : World) (base : Nat) : Tab [] w base none 0 0 [] :=
  ⟨rfl, Owned.nil slcE_len _ _ _, fun k v r hv _ => by simp at hv, fun k v hv => by simp at hv, fun j k v u _ hv => by simp at hv⟩
end
theorem Owned.sameB {α : Type} {e : α → List Value} {s : Nat} {E : TypeId} {w w' : World} {base : Nat} {A : Option Addr} {n c lo hi B : Nat} {l : List α} (h : Owned e s E w base A n c l)
    (hr : InRange (.slice A n c) lo hi) (hb : Below B w w') (hB : hi ≤ B) : Owned e s E w' base A n c l := h.same fun g hg => hb.block g (by have := hr g hg; omega)
theorem Tab.sameB {vs : List Hd} {w w' : World} {base : Nat} {A : Option Addr} {n c lo hi B : Nat} {T : List (List Int)} (h : Tab vs w base A n c T)
    (hr : TabIn vs A n c lo hi) (hb : Below B w w') (hB : hi ≤ B) : Tab vs w' base A n c T := h.same hr fun g _ hg => hb.block g (by omega)
/-- The block of row i. -/
def hBlk (vs : List Hd) (i : Nat) : Nat := match vs[i]? with | some (some a, _, _) => a.block | _ => 0
/-- A table that is being made: the heads lie in block g; the rows i of which F holds are there, no two in one block. -/
structure Part (vs : List Hd) (w : World) (base g n : Nat) (F : Nat → Prop) (R : Nat → List Int) : Prop where
  gb : base ≤ g
  top : Owned slcE 1 134 w base (some ⟨g, 0, none⟩) n n vs
  row : ∀ i, F i → i < n → vs[i]? = some (some ⟨hBlk vs i, 0, none⟩, (R i).length, (R i).length) ∧ g < hBlk vs i ∧ hBlk vs i < w.heap.size ∧ Owned intE 1 3 w base (some ⟨hBlk vs i, 0, none⟩) (R i).length (R i).length (R i)
  two : ∀ i j, F i → F j → i < n → j < n → i ≠ j → hBlk vs i ≠ hBlk vs j
section
variable {vs : List Hd} {w w' : World} {base g n : Nat} {F F' : Nat → Prop} {R : Nat → List Int}
theorem Part.up (h : Part vs w base g n F R) (hB : Below w.heap.size w w') : Part vs w' base g n F R :=
  ⟨h.gb, h.top.up hB, fun i hi hn => ⟨(h.row i hi hn).1, (h.row i hi hn).2.1, Nat.lt_of_lt_of_le (h.row i hi hn).2.2.1 hB.size, (h.row i hi hn).2.2.2.up hB⟩, h.two⟩
theorem Part.drew (h : Part vs w base g n F R) : Part vs w.drew base g n F R := h.up (Below.drew (Below.refl _ _))
theorem Part.less (h : Part vs w base g n F R) (hF : ∀ i, F' i → F i) : Part vs w base g n F' R :=
  ⟨h.gb, h.top, fun i hi hn => h.row i (hF i hi) hn, fun i j hi hj => h.two i j (hF i hi) (hF j hj)⟩
/-- One other block is written, or grown. -/
theorem Part.past {p : Nat} (h : Part vs w base g n F R) (hg : w.grownBy w' (some p)) (h1 : p ≠ g) (h2 : ∀ i, F i → i < n → hBlk vs i ≠ p) : Part vs w' base g n F R := by
  have key : ∀ {A : Option Addr} {m c q : Nat}, q < w.heap.size → q ≠ p → (Value.slice (some ⟨q, 0, none⟩) m c).ownBlock = some q → w'.heap[q]? = w.heap[q]? := fun hq hne _ => hg.block _ hq (fun e => hne (by injection e))
  refine ⟨h.gb, h.top.same fun q hq => ?_, fun i hi hn => ⟨(h.row i hi hn).1, (h.row i hi hn).2.1, Nat.lt_of_lt_of_le (h.row i hi hn).2.2.1 hg.size, (h.row i hi hn).2.2.2.same fun q hq => ?_⟩, h.two⟩
  · have := (h.top.blk hq).2
    injection hq with hq
    subst hq
    exact hg.block _ this (fun e => h1 (by injection e with e; exact e.symm))
  · have := ((h.row i hi hn).2.2.2.blk hq).2
    injection hq with hq
    subst hq
    exact hg.block _ this (fun e => h2 i hi hn (by injection e))
theorem hb_some {i : Nat} {a : Addr} {m c : Nat} (h : vs[i]? = some (some a, m, c)) : hBlk vs i = a.block := by simp [hBlk, h]
theorem hb_set {i j : Nat} {v : Hd} (h : i ≠ j) : hBlk (vs.set j v) i = hBlk vs i := by
  unfold hBlk
  rw [List.getElem?_set_ne (fun e => h e.symm)]
/-- The head of a row that was not there is stored. -/
theorem Part.head {i0 q m c : Nat} (h : Part vs w base g n F R) (h0 : ¬ F i0) (hi0 : i0 < n) : Part (vs.set i0 (some ⟨q, 0, none⟩, m, c)) (w.setCell ⟨g, i0, none⟩ (.slice (some ⟨q, 0, none⟩) m c)) base g n F R := by
  obtain ⟨y, hy⟩ := some_of_lt (l := vs) (k := i0) (by rw [h.top.len]; exact hi0)
  have p0 := h.top.put (j := 0) (x := ((some ⟨q, 0, none⟩, m, c) : Hd)) (u := .slice (some ⟨q, 0, none⟩) m c) hy (by decide) rfl
  simp only [Nat.mul_one, Nat.add_zero] at p0
  refine ⟨h.gb, p0.1, fun i hi hn => ?_, fun i j hi hj hn hm hne => ?_⟩
  · have hne : i ≠ i0 := fun e => h0 (e ▸ hi)
    obtain ⟨r1, r2, r3, r4⟩ := h.row i hi hn
    rw [hb_set hne, List.getElem?_set_ne (fun e => hne e.symm)]
    refine ⟨r1, r2, by simpa using r3, r4.kept (p0.2) fun k hk e => ?_⟩
    injection hk with hk
    injection e with e
    dsimp only at hk e
    omega
  · have e1 : i ≠ i0 := fun e => h0 (by rw [← e]; exact hi)
    have e2 : j ≠ i0 := fun e => h0 (by rw [← e]; exact hj)
    rw [hb_set e1, hb_set e2]
    exact h.two i j hi hj hn hm hne
/-- A row is done. -/
theorem Part.add {i0 q : Nat} (h : Part vs w base g n F R) (hv : vs[i0]? = some (some ⟨q, 0, none⟩, (R i0).length, (R i0).length)) (hq : g < q) (hr : Owned intE 1 3 w base (some ⟨q, 0, none⟩) (R i0).length (R i0).length (R i0))
    (hne : ∀ i, F i → i < n → i ≠ i0 → hBlk vs i ≠ q) (hF : ∀ i, F' i → F i ∨ i = i0) : Part vs w base g n F' R := by
  have e0 : hBlk vs i0 = q := hb_some hv
  refine ⟨h.gb, h.top, fun i hi hn => ?_, fun i j hi hj hn hm hij => ?_⟩
  · by_cases e : i = i0
    · subst e
      rw [e0]
      exact ⟨hv, hq, (hr.blk rfl).2, hr⟩
    · exact h.row i ((hF i hi).resolve_right e) hn
  · by_cases e : i = i0
    · subst e
      rw [e0]
      exact fun e2 => hne j ((hF j hj).resolve_right (fun e3 => hij e3.symm)) hm (fun e3 => hij e3.symm) e2.symm
    · by_cases e' : j = i0
      · subst e'
        rw [e0]
        exact hne i ((hF i hi).resolve_right e) hn e
      · exact h.two i j ((hF i hi).resolve_right e) ((hF j hj).resolve_right e') hn hm hij
/-- All rows are done. -/
theorem Part.tab (h : Part vs w base g n F R) (hF : ∀ i, i < n → F i) : Tab vs w base (some ⟨g, 0, none⟩) n n ((List.range n).map R) := by
  have hl := h.top.len
  have hk : ∀ {k : Nat} {v : Hd}, vs[k]? = some v → k < n := fun hv => by rw [← hl]; exact (List.getElem?_eq_some_iff.1 hv).1
  refine ⟨by simp, h.top, fun k v r hv hr => ?_, fun k v hv q hq => ?_, fun j k v u hne hv hu q hq => ?_⟩
  · have hn := hk hv
    obtain ⟨r1, r2, r3, r4⟩ := h.row k (hF k hn) hn
    rw [hv] at r1
    injection r1 with r1
    subst r1
    have er : R k = r := by simpa [hn] using hr
    subst er
    exact r4
  · have hn := hk hv
    obtain ⟨r1, r2, r3, r4⟩ := h.row k (hF k hn) hn
    rw [hv] at r1
    injection r1 with r1
    subst r1
    injection hq with hq
    dsimp only at hq
    intro e
    injection e with e
    dsimp only at e
    omega
  · have hn := hk hv
    have hm := hk hu
    obtain ⟨r1, _⟩ := h.row j (hF j hn) hn
    obtain ⟨s1, _⟩ := h.row k (hF k hm) hm
    rw [hv] at r1; injection r1 with r1; subst r1
    rw [hu] at s1; injection s1 with s1; subst s1
    injection hq with hq
    dsimp only at hq
    intro e
    injection e with e
    dsimp only at e
    exact h.two j k (hF j hn) (hF k hm) hn hm hne (by omega)
/-- What is read of a row that is done. -/
theorem Part.at_ {i j : Nat} {x : Int} (h : Part vs w base g n F R) (hi : F i) (hn : i < n) (hx : (R i)[j]? = some x) :
    w.cell? ⟨g, i, none⟩ = some (.slice (some ⟨hBlk vs i, 0, none⟩) (R i).length (R i).length) ∧ w.cell? ⟨hBlk vs i, j, none⟩ = some (.int .i64 x) := by
  obtain ⟨r1, r2, r3, r4⟩ := h.row i hi hn
  obtain ⟨b, eb, _, _, hc, _⟩ := h.top.at_ (by omega)
  injection eb with eb; injection eb with eb; subst eb
  have hj : j < (R i).length := (List.getElem?_eq_some_iff.1 hx).1
  obtain ⟨b2, eb2, _, _, hc2, _⟩ := r4.at_ (by omega)
  injection eb2 with eb2; injection eb2 with eb2
  have c1 := hc i _ 0 _ r1 rfl
  have c2 := hc2 j x 0 _ hx rfl
  simp only [Nat.mul_one, Nat.add_zero] at c1 c2
  rw [← eb2] at c2
  exact ⟨c1, c2⟩
end
end Go.Proofs.YtidolgonmimicaaGreat
/- Appending one record inside a region that draws its order. -/
namespace Go.Proofs.YtidolgonmimicaaGreat
set_option linter.unusedVariables false
set_option linter.unusedSimpArgs false
open Go.ChangeShapes Go.WideShapes Go.ChangeAt Go.RowKit Go.Deep
theorem Owned.drew {α : Type} {e : α → List Value} {s : Nat} {E : TypeId} {w : World} {base : Nat} {A : Option Addr} {n c : Nat} {l : List α} (h : Owned e s E w base A n c l) : Owned e s E w.drew base A n c l := h.up (Below.drew (Below.refl _ _))
theorem Box.drew {w : World} {b : Nat} {cs : List Value} (h : Box w b cs) : Box w.drew b cs := h
theorem step_append_rec {P : Program} {α : Type} {e : α → List Value} {s bytes : Nat} {t E : TypeId} {z : Value} (he : ElemOk P t E z s bytes) {ops : Array Oper} {o : Oper} {a : Act} {K : Act → World → Prop} {Q : Exit → Act → World → Prop} {E' : Prop} {W : World}
    (hgd : o.guard = none) (S X : Operand) (ho : o.op = .call { callee := .builtin .append, args := #[S, X], argTypes := #[t, t] })
    {base : Nat} {A : Option Addr} {n c : Nat} {l : List α} (hs : a.eval S = .slice A n c) (hown : Owned e s E W base A n c l) (x : α) {b cx : Nat} (hx : a.eval X = .slice (some ⟨b, 0, none⟩) 1 cx)
    (hnew : Box W b (e x)) (h1 : ∀ u ∈ e x, u.oneCell' = true) (hn : n ≤ 16777216) (hby : bytes ≤ 4096) (hbase : base ≤ W.heap.size)
    (h : ∀ A' c' w', Owned e s E w' base A' (n + 1) c' (l ++ [x]) → W.grownBy w' (Value.slice A n c).ownBlock → Below base W w' → K (a.put o.dst (.slice A' (n + 1) c')) w') :
    if Region.wanted o (yielded ops a.tmps) = true then Oper.wp P o a W K Q else E' := by
  obtain ⟨i0, hi, hz0, hz1, hz2⟩ := info_parts he.info
  refine step_append_lies W hgd S X t ho base E i0 z s bytes he.under hi hz0 hz1 hz2 he.zs he.pos _ n _ hs hown.2.2 ⟨b, 0, none⟩ 1 cx (e x) hx (by rw [hown.1]; omega)
    (fun j u hu => by rw [Go.WideShapes.add_plain, Nat.zero_add]; exact hnew j u hu) h1 (by omega) (by unfold maxLen; omega) ?_ hbase W.heap.size rfl ?_
  · exact Nat.le_trans (Nat.mul_le_mul (show n + 1 ≤ 16777217 by omega) hby) (by decide)
  · intro g cap w' hown' hg _ _
    have ho' : Owned e s E w' base (some ⟨g, 0, none⟩) (n + 1) cap (l ++ [x]) := ⟨hown.1, by simp [hown.2.1], by simpa using hown'⟩
    exact h _ _ w' ho' hg ((Below.refl _ _).grown hg hbase fun k hk => (hown.blk hk).1)
end Go.Proofs.YtidolgonmimicaaGreat
/- Appending many records at once, from wherever they are read; rows of rows. -/
namespace Go.Proofs.YtidolgonmimicaaGreat
set_option linter.unusedVariables false
set_option linter.unusedSimpArgs false
open Go.ChangeShapes Go.WideShapes Go.ChangeAt Go.RowKit Go.Deep
theorem flatMap_nil_of {α : Type} {e : α → List Value} {s : Nat} {l : List α} (h : l.length = 0) : l.flatMap e = [] := by
  rw [List.length_eq_zero_iff] at h
  subst h; rfl
theorem run_append_recs {P : Program} {α : Type} {e : α → List Value} {s bytes : Nat} {t E : TypeId} {z : Value} (he : ElemOk P t E z s bytes) (h1 : ∀ x, ∀ u ∈ e x, u.oneCell' = true) {W : World} {base : Nat} {A : Option Addr} {n c : Nat} {l : List α} (hown : Owned e s E W base A n c l)
    {B : Option Addr} {m d : Nat} {l2 : List α} (hr : Recs e s W B l2) (hm : l2.length = m) (hn : n + m ≤ 16777216) (hby : bytes ≤ 4096) (hbase : base ≤ W.heap.size) (ty : TypeId) :
    ∃ A' c' w', (Builtin.append_ #[t, t] ty #[.slice A n c, .slice B m d]).run P W = .ok (.slice A' (n + m) c') w' ∧ Owned e s E w' base A' (n + m) c' (l ++ l2) ∧ W.grownBy w' (Value.slice A n c).ownBlock ∧
      (∀ k, (Value.slice A' (n + m) c').ownBlock = some k → (Value.slice A n c).ownBlock = some k ∨ W.heap.size ≤ k) := by
  obtain ⟨i0, hi, hz0, hz1, hz2⟩ := info_parts he.info
  subst hm
  rcases B with _ | ad
  · have hm : l2.length = 0 := by
      rcases Nat.eq_zero_or_pos l2.length with h | h
      · exact h
      · obtain ⟨b, o, e1, _⟩ := hr.2.2 h
        cases e1
    have e2 : l2 = [] := List.eq_nil_of_length_eq_zero hm
    subst e2
    refine ⟨A, c, W, ?_, by simpa using hown, World.grownBy.refl W _, fun k hk => .inl hk⟩
    rcases hown.2.2.2 with ⟨hv, h0⟩ | ⟨g, cap, cur, hv, _, _, hnc, _⟩
    · injection hv with a1 a2 a3
      subst a1 a2 a3
      simp [Builtin.append_, run_underlying he.under, sizeOf, typeInfo, hi, Builtin.lenOf, Builtin.firstCells]
    · injection hv with a1 a2 a3
      subst a1 a3
      simp [Builtin.append_, run_underlying he.under, sizeOf, typeInfo, hi, Builtin.lenOf, Builtin.firstCells, hnc, storeCells]
  · have hcells : ∀ j u, (l2.flatMap e)[j]? = some u → W.cell? (ad.add j) = some u := by
      intro j u hu
      rcases Nat.eq_zero_or_pos l2.length with h0 | h0
      · rw [flatMap_nil_of (e := e) (s := s) h0] at hu; simp at hu
      · obtain ⟨b, o, e1, _, hc⟩ := hr.2.2 h0
        injection e1 with e1
        subst e1
        rw [Go.WideShapes.add_plain]
        exact hc j u hu
    obtain ⟨v', w', hrun, h2, h3, _, h5⟩ := run_append_own_at (P := P) W base t ty E i0 z s bytes he.under hi hz0 hz1 hz2 he.zs he.pos _ n _ hown.2.2 ad l2.length d (l2.flatMap e) (flatMap_len hown.1 l2) hcells
      (fun u hu => by obtain ⟨x, _, hx⟩ := List.mem_flatMap.1 hu; exact h1 x u hx) (by unfold maxLen; omega) (Nat.le_trans (Nat.mul_le_mul hn hby) (by decide)) hbase
    obtain ⟨A', c', rfl, ho⟩ := Owned.of_row (l := l ++ l2) hown.1 h2 (by simp) (by rw [List.length_append, hown.2.1])
    refine ⟨A', c', w', hrun, ho, h3, fun k hk => ?_⟩
    rcases h5 with h5 | h5
    · exact .inl (by rw [← h5]; exact hk)
    · right
      rw [h5] at hk
      injection hk with hk
      omega
theorem wp_append_recs {P : Program} {α : Type} {e : α → List Value} {s bytes : Nat} {t E : TypeId} {z : Value} (he : ElemOk P t E z s bytes) (h1 : ∀ x, ∀ u ∈ e x, u.oneCell' = true) {o : Oper} {a : Act} {K : Act → World → Prop} {Q : Exit → Act → World → Prop} {W : World}
    (S X : Operand) (ho : o.op = .call { callee := .builtin .append, args := #[S, X], argTypes := #[t, t] })
    {base : Nat} {A : Option Addr} {n c : Nat} {l : List α} (hs : a.eval S = .slice A n c) (hown : Owned e s E W base A n c l) {B : Option Addr} {m d : Nat} {l2 : List α} (hx : a.eval X = .slice B m d) (hr : Recs e s W B l2) (hm : l2.length = m)
    (hn : n + m ≤ 16777216) (hby : bytes ≤ 4096) (hbase : base ≤ W.heap.size)
    (h : ∀ A' c' w', Owned e s E w' base A' (n + m) c' (l ++ l2) → W.grownBy w' (Value.slice A n c).ownBlock → (∀ k, (Value.slice A' (n + m) c').ownBlock = some k → (Value.slice A n c).ownBlock = some k ∨ W.heap.size ≤ k) → K (a.put o.dst (.slice A' (n + m) c')) w') : o.wp P a W K Q := by
  obtain ⟨A', c', w', hrun, h2, h3, h4⟩ := run_append_recs he h1 hown hr hm hn hby hbase o.type
  unfold Oper.wp execOp
  simp only [ho, resolve, invoke, builtin, Sem.run_bind, Sem.run_pure, Result.andThen_ok, List.map_toArray, List.map_cons, List.map_nil, hs, hx]
  rw [hrun]
  exact h A' c' w' h2 h3 h4
/-- 'append(xs, ys...)' onto a row of the call's own. -/
theorem wpList_append_recs {P : Program} {α : Type} {e : α → List Value} {s bytes : Nat} {t E : TypeId} {z : Value} (he : ElemOk P t E z s bytes) (h1 : ∀ x, ∀ u ∈ e x, u.oneCell' = true) {ops : Array Oper} {rest : List Oper} {o : Oper} {a : Act} {Q : Exit → Act → World → Prop} {W : World}
    (hgd : o.guard = none) (S X : Operand) (ho : o.op = .call { callee := .builtin .append, args := #[S, X], argTypes := #[t, t] })
    {base : Nat} {A : Option Addr} {n c : Nat} {l : List α} (hs : a.eval S = .slice A n c) (hown : Owned e s E W base A n c l) {B : Option Addr} {m d : Nat} {l2 : List α} (hx : a.eval X = .slice B m d) (hr : Recs e s W B l2) (hm : l2.length = m)
    (hn : n + m ≤ 16777216) (hby : bytes ≤ 4096) (hbase : base ≤ W.heap.size)
    (h : ∀ A' c' w', Owned e s E w' base A' (n + m) c' (l ++ l2) → W.grownBy w' (Value.slice A n c).ownBlock → (∀ k, (Value.slice A' (n + m) c').ownBlock = some k → (Value.slice A n c).ownBlock = some k ∨ W.heap.size ≤ k) → wpList P ops Q rest (a.put o.dst (.slice A' (n + m) c')) w') :
    wpList P ops Q (o :: rest) a W :=
  wpList_plain hgd fun _ hK => wp_append_recs he h1 S X ho hs hown hx hr hm hn hby hbase fun A' c' w' h2 h3 h4 => hK _ _ (h A' c' w' h2 h3 h4)
theorem step_append_recs {P : Program} {α : Type} {e : α → List Value} {s bytes : Nat} {t E : TypeId} {z : Value} (he : ElemOk P t E z s bytes) (h1 : ∀ x, ∀ u ∈ e x, u.oneCell' = true) {ops : Array Oper} {o : Oper} {a : Act} {K : Act → World → Prop} {Q : Exit → Act → World → Prop} {E' : Prop} {W : World}
    (hgd : o.guard = none) (S X : Operand) (ho : o.op = .call { callee := .builtin .append, args := #[S, X], argTypes := #[t, t] })
    {base : Nat} {A : Option Addr} {n c : Nat} {l : List α} (hs : a.eval S = .slice A n c) (hown : Owned e s E W base A n c l) {B : Option Addr} {m d : Nat} {l2 : List α} (hx : a.eval X = .slice B m d) (hr : Recs e s W B l2) (hm : l2.length = m)
    (hn : n + m ≤ 16777216) (hby : bytes ≤ 4096) (hbase : base ≤ W.heap.size)
    (h : ∀ A' c' w', Owned e s E w' base A' (n + m) c' (l ++ l2) → W.grownBy w' (Value.slice A n c).ownBlock → (∀ k, (Value.slice A' (n + m) c').ownBlock = some k → (Value.slice A n c).ownBlock = some k ∨ W.heap.size ≤ k) → K (a.put o.dst (.slice A' (n + m) c')) w') :
    if Region.wanted o (yielded ops a.tmps) = true then Oper.wp P o a W K Q else E' := by
  have hw : Region.wanted o (yielded ops a.tmps) = true := by simp [Region.wanted, hgd]
  rw [if_pos hw]
  exact wp_append_recs he h1 S X ho hs hown hx hr hm hn hby hbase h
theorem grown_base {w w' : World} {v : Value} {base : Nat} (hg : w.grownBy w' v.ownBlock) (hb : base ≤ w.heap.size) (hr : ∀ k, v.ownBlock = some k → base ≤ k) : Below base w w' := (Below.refl _ _).grown hg hb fun k hk => hr k hk
theorem lit_app {w w' : World} {o : Obj} {n c : Nat} (hg : (w.alloc o).grownBy w' (Value.slice (some ⟨w.heap.size, 0, none⟩) n c).ownBlock) : Below w.heap.size w w' :=
  ((Below.refl _ _).alloc (Nat.le_refl _) _).trans (grown_base hg (by simp) (fun k hk => by injection hk with hk; dsimp only at hk; omega))
theorem Recs.alloc {α : Type} {e : α → List Value} {s : Nat} {w : World} {A : Option Addr} {l : List α} (h : Recs e s w A l) (o : Obj) : Recs e s (w.alloc o) A l := h.up ((Below.refl _ _).alloc (Nat.le_refl _) o)
/-- Two rows of different element types lie in different blocks. -/
theorem Owned.ne {α β : Type} {e : α → List Value} {s : Nat} {E : TypeId} {e' : β → List Value} {s' : Nat} {E' : TypeId} {w : World} {base base' : Nat} {A B : Option Addr} {n c m d : Nat} {l : List α} {l' : List β}
    (h : Owned e s E w base A n c l) (h' : Owned e' s' E' w base' B m d l') (hE : E ≠ E') : ∀ k, (Value.slice A n c).ownBlock = some k → (Value.slice B m d).ownBlock ≠ some k := by
  intro k hk hk'
  rcases h.2.2.2 with ⟨hv, _⟩ | ⟨g, cap, cur, hv, _, hh, _⟩
  · rw [hv] at hk; cases hk
  · rcases h'.2.2.2 with ⟨hv', _⟩ | ⟨g', cap', cur', hv', _, hh', _⟩
    · rw [hv'] at hk'; cases hk'
    · rw [hv] at hk; rw [hv'] at hk'
      injection hk with hk; injection hk' with hk'
      dsimp only at hk hk'
      subst hk; subst hk'
      rw [hh] at hh'
      injection hh' with hh'
      injection hh' with _ e2 _
      exact hE e2
/-- A list of rows of the call's own: the heads' row, and each head's row. -/
structure LT {α : Type} (e : α → List Value) (s : Nat) (E F : TypeId) (vs : List Hd) (w : World) (base : Nat) (A : Option Addr) (n c : Nat) (T : List (List α)) : Prop where
  len : T.length = n
  top : Owned slcE 1 F w base A n c vs
  row : ∀ (k : Nat) (v : Hd) (r : List α), vs[k]? = some v → T[k]? = some r → Owned e s E w base v.1 v.2.1 v.2.2 r
section
variable {α : Type} {e : α → List Value} {s : Nat} {E F : TypeId} {vs us : List Hd} {w w' : World} {base : Nat} {A : Option Addr} {n c : Nat} {T : List (List α)}
theorem LT.nil (w : World) (base : Nat) : LT e s E F [] w base none 0 0 ([] : List (List α)) := ⟨rfl, Owned.nil slcE_len _ _ _, fun k v r hv _ => by simp at hv⟩
theorem LT.up (h : LT e s E F vs w base A n c T) (hb : Below w.heap.size w w') : LT e s E F vs w' base A n c T := ⟨h.len, h.top.up hb, fun k v r hv hr => (h.row k v r hv hr).up hb⟩
theorem LT.base_le {base' : Nat} (h : LT e s E F vs w base A n c T) (hb : base' ≤ base) : LT e s E F vs w base' A n c T := ⟨h.len, h.top.base_le hb, fun k v r hv hr => (h.row k v r hv hr).base_le hb⟩
theorem LT.alloc (h : LT e s E F vs w base A n c T) (o : Obj) : LT e s E F vs (w.alloc o) base A n c T := h.up ((Below.refl _ _).alloc (Nat.le_refl _) o)
theorem LT.vlen (h : LT e s E F vs w base A n c T) : vs.length = T.length := by rw [h.top.len, h.len]
/-- One head is appended. -/
theorem LT.add {A' : Option Addr} {c' : Nat} {v : Hd} {r : List α} (h : LT e s E F vs w base A n c T) (hEF : E ≠ F) (hr : Owned e s E w base v.1 v.2.1 v.2.2 r) (ho : Owned slcE 1 F w' base A' (n + 1) c' (vs ++ [v])) (hg : w.grownBy w' (Value.slice A n c).ownBlock) :
    LT e s E F (vs ++ [v]) w' base A' (n + 1) c' (T ++ [r]) := by
  have hne : ∀ {v : Hd} {r : List α}, Owned e s E w base v.1 v.2.1 v.2.2 r → Owned e s E w' base v.1 v.2.1 v.2.2 r := fun hq => hq.kept hg fun k hk e2 => hq.ne h.top hEF k hk e2
  refine ⟨by rw [List.length_append, h.len]; rfl, ho, fun k u q hu hq => ?_⟩
  rw [List.getElem?_append] at hu hq
  by_cases hk : k < vs.length
  · rw [if_pos hk] at hu
    rw [if_pos (by rw [← h.vlen]; exact hk)] at hq
    exact hne (h.row k u q hu hq)
  · rw [if_neg hk] at hu
    rw [if_neg (by rw [← h.vlen]; exact hk)] at hq
    have hk0 : k - vs.length = 0 := by
      have := (List.getElem?_eq_some_iff.1 hu).1
      simp at this; omega
    rw [hk0] at hu
    rw [← h.vlen, hk0] at hq
    simp at hu hq
    subst hu hq
    exact hne hr
/-- The heads of another list are appended. -/
theorem LT.join {A' B : Option Addr} {c' m d : Nat} {T' : List (List α)} (h : LT e s E F vs w base A n c T) (hEF : E ≠ F) (h' : LT e s E F us w base B m d T') (ho : Owned slcE 1 F w' base A' (n + m) c' (vs ++ us)) (hg : w.grownBy w' (Value.slice A n c).ownBlock) :
    LT e s E F (vs ++ us) w' base A' (n + m) c' (T ++ T') := by
  have hne : ∀ {v : Hd} {r : List α}, Owned e s E w base v.1 v.2.1 v.2.2 r → Owned e s E w' base v.1 v.2.1 v.2.2 r := fun hq => hq.kept hg fun k hk e2 => hq.ne h.top hEF k hk e2
  refine ⟨by rw [List.length_append, h.len, h'.len], ho, fun k u q hu hq => ?_⟩
  rw [List.getElem?_append] at hu hq
  by_cases hk : k < vs.length
  · rw [if_pos hk] at hu
    rw [if_pos (by rw [← h.vlen]; exact hk)] at hq
    exact hne (h.row k u q hu hq)
  · rw [if_neg hk] at hu
    rw [if_neg (by rw [← h.vlen]; exact hk)] at hq
    rw [← h.vlen] at hq
    exact hne (h'.row _ u q hu hq)
/-- Row k, as it is read. -/
theorem LT.at_ (h : LT e s E F vs w base A n c T) {k : Nat} (hk : k < n) : ∃ b off v r, A = some ⟨b, off, none⟩ ∧ b < w.heap.size ∧ T[k]? = some r ∧ vs[k]? = some v ∧ w.cell? ⟨b, off + k, none⟩ = some (.slice v.1 r.length v.2.2) ∧ Owned e s E w base v.1 r.length v.2.2 r := by
  obtain ⟨b, off, v, hA, hb, hv, hc⟩ := h.top.recs.at_slc (k := k) (by rw [h.top.len]; exact hk)
  obtain ⟨r, hr⟩ := some_of_lt (l := T) (k := k) (by rw [h.len]; exact hk)
  have ho := h.row k v r hv hr
  have hl := ho.len
  rw [← hl] at ho hc
  exact ⟨b, off, v, r, hA, hb, hr, hv, hc, ho⟩
end
end Go.Proofs.YtidolgonmimicaaGreat
/- A map to bools that the call has made, used as a set of keys. -/
namespace Go.Proofs.YtidolgonmimicaaGreat
set_option linter.unusedVariables false
set_option linter.unusedSimpArgs false
open Go.ChangeShapes Go.WideShapes Go.ChangeAt Go.RowKit Go.Deep
open Go.Maps (Keyed)

/-- Block b is a map of at most n entries that holds true at the keys of S and at no other. -/
def SetOf (P : Program) (w : World) (k e : TypeId) (b n : Nat) (S : List Value) : Prop :=
  ∃ D : DataW Unit, w.ownsMap P k (plainElem P e) b n D ∧ ∀ key kl, keyOf P k key = some kl → (key ∈ S → D.atKey kl (.lit (.bool false)) = .lit (.bool true)) ∧ (key ∉ S → D.atKey kl (.lit (.bool false)) = .lit (.bool false))
section
variable {P : Program} {w w' : World} {k e : TypeId} {b n : Nat} {S : List Value}
theorem SetOf.made (P : Program) (w : World) (k e : TypeId) : SetOf P (w.alloc (.map #[] 0)) k e w.heap.size 0 [] :=
  ⟨.map [], World.ownsMap_made w P k _, fun key kl _ => ⟨fun h => (by cases h), fun _ => rfl⟩⟩
theorem SetOf.lt (h : SetOf P w k e b n S) : b < w.heap.size := by
  obtain ⟨D, h1, _⟩ := h
  exact h1.lt
theorem SetOf.kept {row : Option Nat} (h : SetOf P w k e b n S) (hg : w.grownBy w' row) (hne : some b ≠ row) : SetOf P w' k e b n S := by
  obtain ⟨D, h1, h2⟩ := h
  exact ⟨D, h1.kept hg hne, h2⟩
theorem SetOf.up (h : SetOf P w k e b n S) (hb : Below w.heap.size w w') : SetOf P w' k e b n S := h.kept (grown_of_below hb) (by simp)
theorem SetOf.alloc (h : SetOf P w k e b n S) (o : Obj) : SetOf P (w.alloc o) k e b n S := h.up ((Below.refl _ _).alloc (Nat.le_refl _) o)
theorem plainElem_bool_inv (he : P.underlying e = some .bool) {v : Value} {x : Bool} {ps : List MemPlace} (h : plainElem (H := Unit) P e v = some (.lit (.bool x), ps)) : v = .bool x := by
  unfold plainElem at h
  rw [he] at h
  cases v <;> simp at h
  rw [h.1]
theorem SetOf.look {t : TypeId} (h : SetOf P w k e b n S) (K : Keyed P k) (ht : P.underlying t = some (.map k e)) (he : P.underlying e = some .bool) (hz : (zeroValue e).run P w = .ok (.bool false) w) {key : Value} {kl : Lit} (hkey : keyOf P k key = some kl) :
    (key ∈ S → (Instr.lookup t (.map (some b)) key false).run P w = .ok (.bool true) w) ∧ (key ∉ S → (Instr.lookup t (.map (some b)) key false).run P w = .ok (.bool false) w) := by
  obtain ⟨D, h1, h2⟩ := h
  obtain ⟨v, ps, hrun, hv⟩ := h1.lookup K ht hz (plainElem_bool he false) hkey
  obtain ⟨a1, a2⟩ := h2 key kl hkey
  refine ⟨fun hi => ?_, fun hi => ?_⟩
  · rw [a1 hi] at hv
    rw [hrun, plainElem_bool_inv he hv]
  · rw [a2 hi] at hv
    rw [hrun, plainElem_bool_inv he hv]
end
theorem wpList_set_add {P : Program} {ops : Array Oper} {rest : List Oper} {o : Oper} {a : Act} {Q : Exit → Act → World → Prop} {W : World} (hgd : o.guard = none) (M X V : Operand) (t : TypeId) (hop : o.op = Op.mapUpdate t M X V)
    {k e : TypeId} (K : Keyed P k) (ht : P.underlying t = some (.map k e)) (he : P.underlying e = some .bool) {b n : Nat} {S : List Value} (hm : a.eval M = .map (some b)) (h : SetOf P W k e b n S) (hn : n ≤ 16777216) {key : Value} (hx : a.eval X = key) (hv : a.eval V = .bool true)
    {kl : Lit} (hkey : keyOf P k key = some kl) (hK : ∀ w', SetOf P w' k e b (n + 1) (key :: S) → W.grownBy w' (some b) → wpList P ops Q rest (a.put o.dst undef) w') : wpList P ops Q (o :: rest) a W := by
  obtain ⟨D, h1, h2⟩ := h
  refine wpList_mapUpdate_own W hgd M X V t hop k e K ht _ b n D hm h1 (by unfold maxLen; omega) key (.bool true) kl hx hv hkey (.lit (.bool true)) [] (plainElem_bool he true) fun w' hown hg => hK w' ⟨_, hown, fun key' kl' hk' => ?_⟩ hg
  by_cases ek : kl' = kl
  · subst ek
    have e1 : key' = key := K.inj hk' hkey
    subst e1
    rw [Maps.atKey_put_same h1.isMap (K.key hkey)]
    exact ⟨fun _ => rfl, fun hne => absurd (List.mem_cons_self ..) hne⟩
  · have e1 : key' ≠ key := fun e2 => ek (by rw [e2, hkey] at hk'; injection hk' with hk'; exact hk'.symm)
    rw [Maps.atKey_put_other ek]
    obtain ⟨a1, a2⟩ := h2 key' kl' hk'
    refine ⟨fun hi => a1 ?_, fun hi => a2 (fun hc => hi (List.mem_cons_of_mem _ hc))⟩
    rcases List.mem_cons.1 hi with hi | hi
    · exact absurd hi e1
    · exact hi
end Go.Proofs.YtidolgonmimicaaGreat
/- The walks through truth: no row twice, both sides' ways. -/
namespace Go.Proofs.YtidolgonmimicaaGreat
set_option linter.unusedVariables false
set_option linter.unusedSimpArgs false
open Go.ChangeShapes Go.WideShapes Go.ChangeAt Go.RowKit Go.Deep
open Go.Maps (Keyed string_keyed)
open Go.WideMaps (keyOf_string_mk)
def strV (s : ByteArray) : Value := .string s
theorem strV_mem {s : ByteArray} {l : List ByteArray} : strV s ∈ l.map strV ↔ s ∈ l := by
  rw [List.mem_map]
  constructor
  · rintro ⟨x, hx, e⟩
    injection e with e
    subst e; exact hx
  · intro h; exact ⟨s, h, rfl⟩
set_option maxRecDepth 100000 in
theorem impl_isTrue {A : Option Addr} {N c : Nat} {l : List ByteArray} {w : World} (hN : l.length = N) (h : Strs w A l) (hz : N ≤ 16000000) (hs : ∀ s ∈ l, s.size ≤ 16777216) :
    Calls Tryz.prog 132 #[.slice A N c] w fun e w' => e = .returned (.bool (nodupB l)) ∧ Below w.heap.size w w' := by
  subst hN
  have HS := Lib.hid hs
  clear hs
  have hmm := @run_makeMap Tryz.prog
  have KS := string_keyed (P := Tryz.prog) (k := 9) Tryz.underlying9
  go_in
  go_wp2
  clear hmm
  go_loopw [9] (fun i wr => ∃ k : Nat, k ≤ l.length ∧ i = .int .i64 k ∧ Hid ((l.take k).Nodup) ∧ Hid (SetOf Tryz.prog wr 9 4 w.heap.size k ((l.take k).map strV).reverse) ∧ Below w.heap.size w wr) (fun i _ => l.length - (intOf i).toNat)
  case atStart => exact ⟨0, Nat.zero_le _, rfl, Lib.hid (by simp), Lib.hid (by simpa using SetOf.made Tryz.prog w 9 4), by (repeat' (first | (with_reducible exact Below.refl _ _) | (with_reducible assumption) | (with_reducible refine below_drewN ?_ _) | (with_reducible refine Below.drew ?_) | (with_reducible refine below_alloc ?_ _) | (with_reducible refine Below.alloc ?_ ?_ _) | (with_reducible refine Below.setCell ?_ ?_ _) | (with_reducible refine below_go ?_ (by with_reducible assumption)) | (with_reducible refine below_then (by with_reducible assumption) ?_ ?_) | go_size))⟩
  case round =>
    obtain ⟨k, hk, rfl, HD, HM, hb⟩ := hrel
    by_cases hlt : k < l.length
    · obtain ⟨b1, o1, y, rfl, hbb, hy, hcy⟩ := (h.below hb (Nat.le_refl _)).at_str hlt
      have hys := HS.out y (List.mem_of_getElem? hy)
      have hkey := keyOf_string_mk (P := Tryz.prog) (k := 9) Tryz.underlying9 (s := y) (by unfold maxLen; omega)
      have lk := HM.out.look (t := 110) KS Tryz.underlying110 Tryz.underlying4 (by kernel_rfl) hkey
      have HY := Lib.hid hy
      have mem : (strV y ∈ ((l.take k).map strV).reverse) ↔ y ∈ l.take k := by rw [List.mem_reverse, strV_mem]
      by_cases hin : y ∈ l.take k
      · have lk1 := lk.1 (mem.2 hin)
        have e1 := Lib.hid (show nodupB l = false by
          rw [nodupB, decide_eq_false_iff_not]
          intro hn
          rw [← List.take_append_drop k l, List.nodup_append] at hn
          exact hn.2.2 y hin y (by rw [List.drop_eq_getElem_cons hlt, (List.getElem?_eq_some_iff.1 HY.out).2]; exact List.mem_cons_self ..) rfl)
        clear lk mem hin hy hkey
        go_wp2
        go_ret
        rw [e1.out]
        exact ⟨rfl, hb⟩
      · have lk1 := lk.2 (fun q => hin (mem.1 q))
        have HIN := Lib.hid hin
        have HKEY := Lib.hid hkey
        clear lk mem hin hy hkey
        go_wp2_with (first | (at_mapUpdate; go_must ((refine wpList_set_add rfl (.tmp 16) (.tmp 17) (.const (.bool true)) 110 rfl KS Tryz.underlying110 Tryz.underlying4 rfl HM.out ?_ rfl rfl HKEY.out ?_; (focus (first | omega | (simp only [World.size_alloc]; done) | (simp only [World.size_alloc]; omega) | (simp; done) | (simp; omega))); intro w2 hm2 hg2))))
        go_roundw
        case rel => exact ⟨k + 1, by omega, by go_num, Lib.hid (by
          rw [take_succ_some HY.out, List.nodup_append]
          exact ⟨HD.out, by simp, fun a ha b hb2 e => HIN.out (by rw [← List.mem_singleton.1 hb2, ← e]; exact ha)⟩), Lib.hid (by rw [take_succ_some HY.out, List.map_append, List.reverse_append]; exact hm2), hb.grown hg2 hb.size (fun j hj => by injection hj with hj; omega)⟩
        case measure => simp [intOf]; omega
    · obtain rfl : k = l.length := by omega
      have e1 := Lib.hid (show nodupB l = true by rw [nodupB, decide_eq_true_iff]; have := HD.out; rwa [List.take_of_length_le (Nat.le_refl _)] at this)
      go_wp2
      go_ret
      rw [e1.out]
      exact ⟨rfl, hb⟩
end Go.Proofs.YtidolgonmimicaaGreat
/- The walks through the reference's sort of texts, and its search for repeats. -/
namespace Go.Proofs.YtidolgonmimicaaGreat
set_option linter.unusedVariables false
set_option linter.unusedSimpArgs false
open Go.ChangeShapes Go.WideShapes Go.ChangeAt Go.RowKit Go.Deep
/-- A part of a row. -/
theorem Recs.part {α : Type} {e : α → List Value} {s : Nat} {w : World} {b o : Nat} {l : List α} (h : Recs e s w (some ⟨b, o, none⟩) l) (i j : Nat) (hij : i ≤ j) (hj : j ≤ l.length) : Recs e s w (some ⟨b, o + i * s, none⟩) ((l.drop i).take (j - i)) := by
  refine ⟨h.1, by rw [flatMap_len h.1], fun hn => ?_⟩
  have hlen : ((l.drop i).take (j - i)).length = j - i := by rw [List.length_take, List.length_drop]; omega
  obtain ⟨b', o', e1, hb, hc⟩ := h.cells (by omega)
  injection e1 with e1
  injection e1 with e1 e2
  subst e1 e2
  refine ⟨b, o + i * s, rfl, hb, fun q u hu => ?_⟩
  have hq := (List.getElem?_eq_some_iff.1 hu).1
  rw [flatMap_len h.1, hlen] at hq
  have hs : 0 < s := by
    rcases Nat.eq_zero_or_pos s with h0 | h0
    · subst h0; omega
    · exact h0
  have hdm : q / s * s + q % s = q := Nat.div_add_mod' q s
  have hqs : q / s < j - i := Nat.div_lt_of_lt_mul (by rw [Nat.mul_comm]; exact hq)
  obtain ⟨x, hx⟩ := some_of_lt (l := (l.drop i).take (j - i)) (k := q / s) (by omega)
  have a1 := flatMap_at h.1 _ (q / s) x (q % s) hx (Nat.mod_lt q hs)
  rw [hdm, hu] at a1
  have hx2 : l[i + q / s]? = some x := by
    rw [List.getElem?_take, if_pos hqs, List.getElem?_drop] at hx; exact hx
  have := hc (i + q / s) x (q % s) u hx2 a1.symm
  rw [show o + i * s + q = o + (i + q / s) * s + q % s by rw [Nat.add_mul]; omega]
  exact this
theorem Owned.cap {α : Type} {e : α → List Value} {s : Nat} {E : TypeId} {w : World} {base : Nat} {A : Option Addr} {n c : Nat} {l : List α} (h : Owned e s E w base A n c l) : n ≤ c ∧ c ≤ 9223372036854775807 := by
  rcases h.2.2.2 with ⟨hv, h0⟩ | ⟨g, cap, cur, hv, _, _, hnc, hcap, _, _⟩
  · injection hv with _ _ e3
    subst e3 h0
    exact ⟨Nat.le_refl _, by omega⟩
  · injection hv with _ _ e3
    subst e3
    exact ⟨hnc, by unfold maxLen at hcap; omega⟩
theorem spec_l1OwnS {A : Option Addr} {N c : Nat} {l : List ByteArray} {w : World} (hN : l.length = N) (h : Strs w A l) (hz : N ≤ 16000000) :
    Calls Tryz.prog 151 #[.slice A N c] w fun e w' => ∃ A' c', e = .returned (.slice A' N c') ∧ Owned strE 1 9 w' w.heap.size A' N c' l ∧ Below w.heap.size w w' := by
  go_in
  go_wp2_with (first | (at_builtin; go_must ((refine wpList_append_recs Tryz.elStr strE_one rfl (.tmp 3) (.tmp 4) rfl rfl (Owned.empty (E := 9) strE_len w (Nat.le_refl _)) rfl (h.up (by (repeat' (first | (with_reducible exact Below.refl _ _) | (with_reducible assumption) | (with_reducible refine below_drewN ?_ _) | (with_reducible refine Below.drew ?_) | (with_reducible refine below_alloc ?_ _) | (with_reducible refine Below.alloc ?_ ?_ _) | (with_reducible refine Below.setCell ?_ ?_ _) | (with_reducible refine below_go ?_ (by with_reducible assumption)) | (with_reducible refine below_then (by with_reducible assumption) ?_ ?_) | go_size)))) hN ?_ (by decide) ?_ ?_; (focus (first | omega | (simp only [World.size_alloc]; done) | (simp only [World.size_alloc]; omega) | (simp; done) | (simp; omega))); (focus (first | omega | (simp only [World.size_alloc]; done) | (simp only [World.size_alloc]; omega) | (simp; done) | (simp; omega))); intro A2 c2 w2 ho2 hg2 hl2))))
  go_ret
  have hb := lit_app hg2
  rw [Nat.zero_add, List.nil_append] at ho2
  exact ⟨_, _, rfl, ho2, hb⟩
/-- Where x[1:] begins. -/
def tailOff (o s c : Nat) : Nat := if c = 1 then o else o + s
theorem Tryz.tailStrs (b o n c : Nat) (h1 : 1 ≤ n) (u : World) : (Instr.slice 23 (.slice (some ⟨b, o, none⟩) n c) (some (.int .i64 1)) none none).run Tryz.prog u = .ok (.slice (some ⟨b, tailOff o 1 c, none⟩) (n - 1) (c - 1)) u := by
  have e1 : Tryz.prog.underlying 23 = some (.slice (Tryz.prog.elem 23)) := by kernel_rfl
  have e2 : (sizeOf (Tryz.prog.elem 23)).run Tryz.prog u = .ok 1 u := by kernel_rfl
  rw [run_slice_l (P := Tryz.prog) (w := u) 23 (some ⟨b, o, none⟩) n c e1 .i64 1 (by omega) (by omega), e2]
  simp only [Result.andThen_ok, sliced, tailOff]
  by_cases hc : c = 1
  · rw [if_pos hc, if_pos (by omega)]; rfl
  · rw [if_neg hc, if_neg (by omega)]; rfl
theorem Recs.tail {α : Type} {e : α → List Value} {s : Nat} {w : World} {b o n c : Nat} {x : α} {l : List α} (h : Recs e s w (some ⟨b, o, none⟩) (x :: l)) (hn : l.length + 1 = n) (hc : n ≤ c) : Recs e s w (some ⟨b, tailOff o s c, none⟩) l := by
  by_cases h1 : c = 1
  · have : l = [] := List.eq_nil_of_length_eq_zero (by omega)
    subst this
    exact ⟨h.1, Rd.none_ _ _ _⟩
  · rw [tailOff, if_neg h1]
    have := h.part 1 (l.length + 1) (by omega) (by simp)
    rw [Nat.one_mul, List.drop_succ_cons, List.drop_zero, Nat.add_sub_cancel, List.take_of_length_le (Nat.le_refl _)] at this
    exact this
def slLen : Value → Nat
  | .slice _ n _ => n
  | _ => 0
theorem merge_left {x y : ByteArray} {a b : List ByteArray} (h : less y x = false) : List.merge (x :: a) (y :: b) leS = x :: List.merge a (y :: b) leS := by
  rw [List.cons_merge_cons_pos leS a b (by simp [leS, h])]
theorem merge_right {x y : ByteArray} {a b : List ByteArray} (h : less y x = true) : List.merge (x :: a) (y :: b) leS = y :: List.merge (x :: a) b leS := by
  rw [List.cons_merge_cons_neg leS a b (by simp [leS, h])]
set_option maxHeartbeats 2000000 in
set_option maxRecDepth 100000 in
theorem spec_l6Sort : ∀ (N : Nat) (A : Option Addr) (c : Nat) (l : List ByteArray) (w : World), l.length = N → Strs w A l → N ≤ 16000000 → (∀ s ∈ l, s.size ≤ 16777216) →
    Calls Tryz.prog 158 #[.slice A N c] w fun e w' => ∃ A' c' L, e = .returned (.slice A' N c') ∧ Owned strE 1 9 w' w.heap.size A' N c' L ∧ L.Perm l ∧ Srt L ∧ Below w.heap.size w w' := by
  intro N
  induction N using Nat.strongRecOn with
  | ind N ih =>
    intro A c l w hN h hz hs
    have HS := Lib.hid hs
    have IH := Lib.hid ih
    clear hs ih
    by_cases h2 : N < 2
    · have hsrt : Srt l := by
        match l, hN with
        | [], _ => exact List.Pairwise.nil
        | [x], _ => exact List.pairwise_singleton _ _
        | x :: y :: r, e => simp at e; omega
      go_in
      go_wp2_with fail
      refine (spec_l1OwnS hN h hz).mono ?_; rintro e w1 ⟨A1, c1, rfl, ho, hb1⟩
      go_wp2
      go_ret
      exact ⟨_, _, l, rfl, ho, List.Perm.refl _, hsrt, hb1⟩
    · subst hN
      obtain ⟨m, hm⟩ : ∃ m, m = l.length / 2 := ⟨_, rfl⟩
      have hm1 : 1 ≤ m := by omega
      have hm2 : m < l.length := by omega
      go_in
      go_wp2_with fail
      refine (spec_l1OwnS rfl h hz).mono ?_; rintro e w1 ⟨A1, c1, rfl, ho, hb1⟩
      obtain ⟨g, rfl, g0, g1, _, _⟩ := ho.at_ (by omega)
      go_wp2
      have hR := ho.recs
      have R1 : Hid (Strs w1.drew (some ⟨g, 0, none⟩) (l.take m)) := Lib.hid (by have := (hR.part 0 m (Nat.zero_le _) (by omega)).drew; simpa using this)
      have R2 : Hid (Strs w1 (some ⟨g, m, none⟩) (l.drop m)) := Lib.hid (by have := hR.part m l.length (by omega) (Nat.le_refl _); rw [Nat.mul_one, Nat.zero_add, List.take_of_length_le (by rw [List.length_drop]; omega)] at this; exact this)
      have T1 := Lib.hid (show (l.take m).length = m by rw [List.length_take]; omega)
      have T2 := Lib.hid (show (l.drop m).length = l.length - m by rw [List.length_drop])
      have hq : ((l.length : Int)).tdiv 2 = (m : Int) := by rw [Int.tdiv_eq_ediv_of_nonneg (by omega)]; omega
      have hw : IntKind.i64.wrap (m : Int) = (m : Int) := wrap_id (by omega)
      obtain ⟨hc1, hc2⟩ := ho.cap
      have hw2 : wrap64 (m : Int) = (m : Int) := by unfold wrap64; omega
      have hq2 : (l.length : Int) / 2 = (m : Int) := by omega
      have hle1 : (m : Int) ≤ (c1 : Int) := by omega
      have hle2 : (m : Int) ≤ (l.length : Int) := by omega
      have hle3 : (l.length : Int) ≤ (c1 : Int) := by omega
      have hne : ¬ c1 = m := by omega
      have hne2 : ¬ c1 - m = 0 := by omega
      clear hm
      go_region_held3 (fun u => True) (first | trivial) (first | (go_at_call 158; ((with_reducible refine (IH.out (l.length - m) (by omega) (some ⟨g, m, none⟩) (c1 - m) (l.drop m) _ T2.out (R2.out.up hb2) (by omega) (fun s hs => HS.out s (List.mem_of_mem_drop hs))).mono ?_); rintro e w3 ⟨A3, c3, L3, rfl, o3, p3, s3, hb3⟩)) | (go_at_call 158; refine (IH.out m (by omega) (some ⟨g, 0, none⟩) c1 (l.take m) _ T1.out R1.out (by omega) (fun s hs => HS.out s (List.mem_of_mem_take hs))).mono ?_; rintro e w2 ⟨A2, c2, L2, rfl, o2, p2, s2, hbd2⟩; have hb2 := below_of_drew hbd2))
      clear hw hw2 hq hq2
      have HM := Lib.hid (show (List.merge L2 L3 leS).Perm l from (merge_perm L2 L3).trans ((p2.append p3).trans (by rw [List.take_append_drop])))
      have HR := Lib.hid (merge_srt s2 s3)
      have o2' := o2.up hb3
      obtain ⟨c21, c22⟩ := o2.cap
      obtain ⟨c31, c32⟩ := o3.cap
      have hB3 := (below_go hb1 hb2)
      have hB3 := below_go hB3 hb3
      clear hbd2 p2 p3 s2 s3
      go_wp2
      go_loopw [4, 5, 6] (fun va vb vc wr => ∃ (Aa : Option Addr) (na ca : Nat) (la : List ByteArray) (Ab : Option Addr) (nb cb : Nat) (lb : List ByteArray) (A' : Option Addr) (m' c' : Nat) (M : List ByteArray), va = .slice Aa na ca ∧ vb = .slice Ab nb cb ∧ vc = .slice A' m' c' ∧ na ≤ ca ∧ nb ≤ cb ∧ ca ≤ 9223372036854775807 ∧ cb ≤ 9223372036854775807 ∧ m' + na + nb = l.length ∧ Hid (la.length = na) ∧ Hid (lb.length = nb) ∧ Hid (Strs w3 Aa la) ∧ Hid (Strs w3 Ab lb) ∧ Hid (Owned strE 1 9 wr w3.heap.size A' m' c' M) ∧ Hid (M ++ List.merge la lb leS = List.merge L2 L3 leS) ∧ Below w3.heap.size w3 wr) (fun va vb _ _ => slLen va + slLen vb)
      case atStart => exact ⟨_, m, c2, L2, _, l.length - m, c3, L3, none, 0, 0, [], rfl, rfl, rfl, by omega, by omega, by omega, by omega, by omega, Lib.hid o2.len, Lib.hid o3.len, Lib.hid o2'.recs, Lib.hid o3.recs, Lib.hid (Owned.nil strE_len _ _ _), Lib.hid (by simp), Below.refl _ _⟩
      case round =>
        obtain ⟨Aa, na, ca, la, Ab, nb, cb, lb, A', m', c', M, rfl, rfl, rfl, hna, hnb, hca, hcb, hsum, HLa, HLb, HA, HB, HO, HQ, hb⟩ := hrel
        have hsz := hb.size
        by_cases ha0 : na = 0
        · have HF := Lib.hid (show M ++ la ++ lb = List.merge L2 L3 leS by
            have : la = [] := List.eq_nil_of_length_eq_zero (by rw [HLa.out]; exact ha0)
            rw [← HQ.out, this, List.append_nil]; simp)
          have HS2 := Lib.hid hsum
          have hbd : m' + na + nb ≤ 16000000 := by omega
          have hI : ¬ (0 : Int) < (na : Int) := by omega
          clear ha0 hsum
          go_wp2_with (first | (at_builtin; ((refine wpList_append_recs Tryz.elStr strE_one rfl (.tmp 56) (.tmp 57) rfl rfl HO.out rfl (HA.out.below hb (Nat.le_refl _)) HLa.out ?_ (by decide) ?_ ?_; (focus (first | omega | (simp only [World.size_alloc]; done) | (simp only [World.size_alloc]; omega) | (simp; done) | (simp; omega))); (focus (first | omega | (simp only [World.size_alloc]; done) | (simp only [World.size_alloc]; omega) | (simp; done) | (simp; omega))); intro A4 c4 w4 ho4 hg4 hl4; have hb4 := hb.trans (grown_base hg4 hsz (fun k hk => (HO.out.blk hk).1)); have hsz4 := hb4.size))) | (at_builtin; go_must ((refine wpList_append_recs Tryz.elStr strE_one rfl (.tmp 58) (.tmp 59) rfl rfl ho4 rfl (HB.out.below hb4 (Nat.le_refl _)) HLb.out ?_ (by decide) ?_ ?_; (focus (first | omega | (simp only [World.size_alloc]; done) | (simp only [World.size_alloc]; omega) | (simp; done) | (simp; omega))); (focus (first | omega | (simp only [World.size_alloc]; done) | (simp only [World.size_alloc]; omega) | (simp; done) | (simp; omega))); intro A5 c5 w5 ho5 hg5 hl5))))
          have hb5 := hb4.trans (grown_base hg5 hsz4 (fun k hk => (ho4.blk hk).1))
          go_ret
          rw [HF.out, HS2.out] at ho5
          rw [HS2.out]
          exact ⟨_, _, rfl, _, ho5.base_le hB3.size, HM.out, HR.out, below_go hB3 hb5⟩
        · by_cases hb0 : nb = 0
          · have HF := Lib.hid (show M ++ la ++ lb = List.merge L2 L3 leS by
              have : lb = [] := List.eq_nil_of_length_eq_zero (by rw [HLb.out]; exact hb0)
              rw [← HQ.out, this, List.append_nil]; simp)
            have HS2 := Lib.hid hsum
            have hbd : m' + na + nb ≤ 16000000 := by omega
            have hI : (0 : Int) < (na : Int) := by omega
            have hJ : ¬ (0 : Int) < (nb : Int) := by omega
            clear ha0 hb0 hsum
            go_wp2_with (first | (at_builtin; ((refine wpList_append_recs Tryz.elStr strE_one rfl (.tmp 56) (.tmp 57) rfl rfl HO.out rfl (HA.out.below hb (Nat.le_refl _)) HLa.out ?_ (by decide) ?_ ?_; (focus (first | omega | (simp only [World.size_alloc]; done) | (simp only [World.size_alloc]; omega) | (simp; done) | (simp; omega))); (focus (first | omega | (simp only [World.size_alloc]; done) | (simp only [World.size_alloc]; omega) | (simp; done) | (simp; omega))); intro A4 c4 w4 ho4 hg4 hl4; have hb4 := hb.trans (grown_base hg4 hsz (fun k hk => (HO.out.blk hk).1)); have hsz4 := hb4.size))) | (at_builtin; go_must ((refine wpList_append_recs Tryz.elStr strE_one rfl (.tmp 58) (.tmp 59) rfl rfl ho4 rfl (HB.out.below hb4 (Nat.le_refl _)) HLb.out ?_ (by decide) ?_ ?_; (focus (first | omega | (simp only [World.size_alloc]; done) | (simp only [World.size_alloc]; omega) | (simp; done) | (simp; omega))); (focus (first | omega | (simp only [World.size_alloc]; done) | (simp only [World.size_alloc]; omega) | (simp; done) | (simp; omega))); intro A5 c5 w5 ho5 hg5 hl5))))
            have hb5 := hb4.trans (grown_base hg5 hsz4 (fun k hk => (ho4.blk hk).1))
            go_ret
            rw [HF.out, HS2.out] at ho5
            rw [HS2.out]
            exact ⟨_, _, rfl, _, ho5.base_le hB3.size, HM.out, HR.out, below_go hB3 hb5⟩
          · obtain ⟨x, la', hla⟩ : ∃ x la', la = x :: la' := by
              rcases la with _ | ⟨x, la'⟩
              · exact absurd HLa.out.symm ha0
              · exact ⟨x, la', rfl⟩
            obtain ⟨y, lb', hlb⟩ : ∃ y lb', lb = y :: lb' := by
              rcases lb with _ | ⟨y, lb'⟩
              · exact absurd HLb.out.symm hb0
              · exact ⟨y, lb', rfl⟩
            subst hla hlb
            obtain ⟨b1, o1, _, rfl, bb1, hx, hcx⟩ := (HA.out.below hb (Nat.le_refl _)).at_str (k := 0) (by simp)
            obtain ⟨b2, o2, _, rfl, bb2, hy, hcy⟩ := (HB.out.below hb (Nat.le_refl _)).at_str (k := 0) (by simp)
            simp at hx hy
            subst hx hy
            simp only [Nat.add_zero] at hcx hcy
            have t1 := Tryz.tailStrs b1 o1 na ca (by omega)
            have t2 := Tryz.tailStrs b2 o2 nb cb (by omega)
            rcases hl : less y x
            · have hl1 : Op.bytesLess y.toList x.toList = false := hl
              have hq1 := Lib.hid (merge_left (a := la') (b := lb') hl)
              clear hl t2
              go_wp2
              go_quiet (fail)
              go_wp2_with (first | (at_builtin; go_must ((refine wpList_append_rec Tryz.elStr rfl (.tmp 48) (.tmp 52) rfl rfl ((HO.out.drewN _).alloc _) x rfl (Box.at_ _ [.string x] _ ?_) (strE_one _) ?_ (by decide) ?_ ?_; (focus (first | omega | (simp only [World.size_alloc]; done) | (simp only [World.size_alloc]; omega) | (simp; done) | (simp; omega))); (focus (first | omega | (simp only [World.size_alloc]; done) | (simp only [World.size_alloc]; omega) | (simp; done) | (simp; omega))); (focus (first | omega | (simp only [World.size_alloc]; done) | (simp only [World.size_alloc]; omega) | (simp; done) | (simp; omega))); intro A4 c4 w4 ho4 hg4 hb4))))
              go_roundw
              case rel => exact ⟨some ⟨b1, tailOff o1 1 ca, none⟩, na - 1, ca - 1, la', some ⟨b2, o2, none⟩, nb, cb, y :: lb', A4, m' + 1, c4, M ++ [x], rfl, rfl, rfl, by omega, by omega, by omega, by omega, by omega, Lib.hid (by have := HLa.out; simp at this; omega), HLb, Lib.hid (HA.out.tail (by have := HLa.out; simpa using this) hna), HB, Lib.hid ho4, Lib.hid (by rw [← HQ.out, hq1.out, List.append_assoc]; rfl), ((below_drewN hb _).alloc (by simp; omega) _).trans hb4⟩
              case measure => simp [slLen]; omega
            · have hl1 : Op.bytesLess y.toList x.toList = true := hl
              have hq1 := Lib.hid (merge_right (a := la') (b := lb') hl)
              clear hl t1
              go_wp2
              go_quiet (fail)
              go_wp2_with (first | (at_builtin; go_must ((refine wpList_append_rec Tryz.elStr rfl (.tmp 40) (.tmp 44) rfl rfl ((HO.out.drewN _).alloc _) y rfl (Box.at_ _ [.string y] _ ?_) (strE_one _) ?_ (by decide) ?_ ?_; (focus (first | omega | (simp only [World.size_alloc]; done) | (simp only [World.size_alloc]; omega) | (simp; done) | (simp; omega))); (focus (first | omega | (simp only [World.size_alloc]; done) | (simp only [World.size_alloc]; omega) | (simp; done) | (simp; omega))); (focus (first | omega | (simp only [World.size_alloc]; done) | (simp only [World.size_alloc]; omega) | (simp; done) | (simp; omega))); intro A4 c4 w4 ho4 hg4 hb4))))
              go_roundw
              case rel => exact ⟨some ⟨b1, o1, none⟩, na, ca, x :: la', some ⟨b2, tailOff o2 1 cb, none⟩, nb - 1, cb - 1, lb', A4, m' + 1, c4, M ++ [y], rfl, rfl, rfl, by omega, by omega, by omega, by omega, by omega, HLa, Lib.hid (by have := HLb.out; simp at this; omega), HA, Lib.hid (HB.out.tail (by have := HLb.out; simpa using this) hnb), Lib.hid ho4, Lib.hid (by rw [← HQ.out, hq1.out, List.append_assoc]; rfl), ((below_drewN hb _).alloc (by simp; omega) _).trans hb4⟩
              case measure => simp [slLen]; omega
end Go.Proofs.YtidolgonmimicaaGreat
/- The walks of chapter 17: the inverse of a row, both sides; a row's search. -/
namespace Go.Proofs.YtidolgonmimicaaGreat
set_option linter.unusedVariables false
set_option linter.unusedSimpArgs false
open Go.ChangeShapes Go.WideShapes Go.ChangeAt Go.RowKit Go.Deep
theorem bytes_ne {y s : ByteArray} (h : ¬ y = s) : (y.toList == s.toList) = false := by
  rw [beq_eq_false_iff_ne]; exact fun e => h (toList_inj e)
theorem turn_set {a : ByteArray} {m : List Int} {k q : Nat} (h : goodRow a = true) (hk : k < a.size) (hq : (PlainAid.bt a k - 49).toNat = q) (hm : m.length = a.size) (hu : ∀ i, i < k → m[(PlainAid.bt a i - 49).toNat]? = some (49 + (i : Int))) :
    ∀ i, i < k + 1 → (m.set q (49 + (k : Int)))[(PlainAid.bt a i - 49).toNat]? = some (49 + (i : Int)) := fun i hi => by
  have hr := row_at h hk
  by_cases e : i = k
  · subst e
    rw [hq, List.getElem?_set_self (by omega)]
  · have hri := row_at h (i := i) (by omega)
    have hne : q ≠ (PlainAid.bt a i - 49).toNat := fun e2 => e (row_inj h (i := i) (j := k) (by omega) hk (by omega))
    rw [List.getElem?_set_ne hne]
    exact hu i (by omega)
set_option maxRecDepth 100000 in
theorem impl_turned {a : ByteArray} {w : World} (hg : goodRow a = true) :
    Calls Tryz.prog 190 #[.string a] w fun e w' => e = .returned (.string (turnS a)) ∧ Below w.heap.size w w' ∧ RowN a.size (turnS a) := by
  have hba := PlainAid.get_bt a
  have hn := goodRow_n hg
  have hn1 : 3 ≤ a.size := hn.1
  have hn2 : a.size ≤ 8 := hn.2
  clear hn
  have HG := Lib.hid hg
  have hmk := run_make_rec (e := byteE) Tryz.elU8 0 rfl a.size (by omega) (by decide)
  have hr0 : Hid (BRow (w.alloc (.cells (madeCells (byteE 0).toArray (a.size * 1)) 5)) w.heap.size (List.replicate a.size 0)) := Lib.hid (BRow.of_owned (Owned.made (e := byteE) (s := 1) byteE_len w 5 0 a.size (by omega) (Nat.le_refl _)))
  have hb0 : Below w.heap.size w (w.alloc (.cells (madeCells (byteE 0).toArray (a.size * 1)) 5)) := by (repeat' (first | (with_reducible exact Below.refl _ _) | (with_reducible assumption) | (with_reducible refine below_drewN ?_ _) | (with_reducible refine Below.drew ?_) | (with_reducible refine below_alloc ?_ _) | (with_reducible refine Below.alloc ?_ ?_ _) | (with_reducible refine Below.setCell ?_ ?_ _) | (with_reducible refine below_go ?_ (by with_reducible assumption)) | (with_reducible refine below_then (by with_reducible assumption) ?_ ?_) | go_size))
  clear hg
  rw [Nat.mul_one] at hr0 hb0 hmk
  go_in
  go_wp2
  clear hmk
  go_loopw [10] (fun i wr => ∃ (k : Nat) (m : List Int), k ≤ a.size ∧ i = .int .i64 k ∧ Hid (∀ j, j < k → m[(PlainAid.bt a j - 49).toNat]? = some (49 + (j : Int))) ∧ m.length = a.size ∧ Hid (BRow wr w.heap.size m) ∧ Below w.heap.size w wr) (fun i _ => a.size - (intOf i).toNat)
  case atStart => exact ⟨0, _, Nat.zero_le _, rfl, Lib.hid (fun j hj => absurd hj (by omega)), by simp, hr0, hb0⟩
  case round =>
    obtain ⟨k, m, hk, rfl, HM, hml, HR, hb⟩ := hrel
    by_cases hlt : k < a.size
    · have hr := row_at HG.out hlt
      obtain ⟨q, hq⟩ : ∃ q : Nat, PlainAid.bt a k = (q : Int) + 49 := ⟨(PlainAid.bt a k - 49).toNat, by omega⟩
      have hqa : q < a.size := by omega
      have hq6 : q % 256 = q := by omega
      have hq1 : PlainAid.bt a k - 49 = (q : Int) := by omega
      have hq2 : (PlainAid.bt a k - 49).toNat = q := by omega
      have d1 := HR.out.2.1 q _ (List.getElem?_eq_getElem (by omega))
      have f1 := HR.out.2.2 q (by omega)
      have hR2 := Lib.hid (HR.out.set (k := q) (by omega) (49 + (k : Int)))
      have HS := Lib.hid (turn_set HG.out hlt hq2 hml HM.out)
      go_wp2
      go_roundw
      case rel => exact ⟨k + 1, m.set q (49 + (k : Int)), by omega, by go_num, HS, by rw [List.length_set]; exact hml, hR2, by (repeat' (first | (with_reducible exact Below.refl _ _) | (with_reducible assumption) | (with_reducible refine below_drewN ?_ _) | (with_reducible refine Below.drew ?_) | (with_reducible refine below_alloc ?_ _) | (with_reducible refine Below.alloc ?_ ?_ _) | (with_reducible refine Below.setCell ?_ ?_ _) | (with_reducible refine below_go ?_ (by with_reducible assumption)) | (with_reducible refine below_then (by with_reducible assumption) ?_ ?_) | go_size))⟩
      case measure => simp [intOf]; omega
    · obtain rfl : k = a.size := by omega
      have ht := HR.out.text (P := Tryz.prog) (src := 22) (e := 5) (dst := 9) a.size a.size hml Tryz.underlying22 Tryz.underlying5 Tryz.underlying9
      have hT : TurnOf a m := ⟨hml, HM.out⟩
      have hR := turn_row HG.out hT
      rw [← turn_eq HG.out hT] at ht
      have HRR := Lib.hid hR
      clear hT hR
      go_wp2
      go_ret
      exact ⟨rfl, hb, HRR.out⟩
set_option maxRecDepth 100000 in
theorem spec_l1Turn {a : ByteArray} {w : World} (hg : goodRow a = true) :
    Calls Tryz.prog 114 #[.string a] w fun e w' => e = .returned (.string (turnS a)) ∧ Below w.heap.size w w' ∧ RowN a.size (turnS a) := by
  have hcv := run_bytes (P := Tryz.prog) (src := 9) (dst := 22) (e := 5) a Tryz.underlying9 Tryz.underlying22 Tryz.underlying5
  have hn := goodRow_n hg
  have hn1 : 3 ≤ a.size := hn.1
  have hn2 : a.size ≤ 8 := hn.2
  have ha : a.size ≤ 16777216 := by omega
  clear hn
  have HG := Lib.hid hg
  clear hg
  go_in
  go_wp2
  have hr0 := Lib.hid (bytesW_row w 5 a)
  have hb0 := bytesW_below w 5 a
  have hl0 := nums_len a
  clear hcv
  generalize grownCap w a.size 0 5 = cc
  go_loopw [4] (fun i wr => ∃ (k : Nat) (m : List Int), k ≤ a.size ∧ i = .int .i64 (k + 1 : Nat) ∧ Hid (∀ j, j < k → m[(PlainAid.bt a j - 49).toNat]? = some (49 + (j : Int))) ∧ m.length = a.size ∧ Hid (BRow wr w.heap.size m) ∧ Below w.heap.size w wr) (fun i _ => a.size + 1 - (intOf i).toNat)
  case atStart => exact ⟨0, _, Nat.zero_le _, rfl, Lib.hid (fun j hj => absurd hj (by omega)), hl0, hr0, hb0⟩
  case round =>
    obtain ⟨k, m, hk, rfl, HM, hml, HR, hb⟩ := hrel
    by_cases hlt : k < a.size
    · have hr := row_at HG.out hlt
      obtain ⟨q, hq⟩ : ∃ q : Nat, PlainAid.bt a k = (q : Int) + 49 := ⟨(PlainAid.bt a k - 49).toNat, by omega⟩
      have hqa : q < a.size := by omega
      have hq2 : (PlainAid.bt a k - 49).toNat = q := by omega
      have hq3 : PlainAid.bt a k - 48 = (q : Int) + 1 := by omega
      have h48 : 48 ≤ PlainAid.bt a k := by omega
      have d1 := HR.out.2.1 q _ (List.getElem?_eq_getElem (by omega))
      have f1 := HR.out.2.2 q (by omega)
      have hR2 := Lib.hid (HR.out.set (k := q) (by omega) (48 + ((k : Int) + 1)))
      have HS := Lib.hid (turn_set HG.out hlt hq2 hml HM.out)
      have he : (48 : Int) + ((k : Int) + 1) = 49 + (k : Int) := by omega
      have HE := Lib.hid he
      clear he
      go_wp2_with (first | (go_at_call 193; refine (spec_l1At hlt ha h48).mono ?_; rw [hq3]; rintro e w' ⟨rfl, rfl⟩))
      go_roundw
      case rel => exact ⟨k + 1, m.set q (48 + ((k : Int) + 1)), by omega, by go_num, Lib.hid (by rw [HE.out]; exact HS.out), by rw [List.length_set]; exact hml, hR2, by (repeat' (first | (with_reducible exact Below.refl _ _) | (with_reducible assumption) | (with_reducible refine below_drewN ?_ _) | (with_reducible refine Below.drew ?_) | (with_reducible refine below_alloc ?_ _) | (with_reducible refine Below.alloc ?_ ?_ _) | (with_reducible refine Below.setCell ?_ ?_ _) | (with_reducible refine below_go ?_ (by with_reducible assumption)) | (with_reducible refine below_then (by with_reducible assumption) ?_ ?_) | go_size))⟩
      case measure => simp [intOf]; omega
    · obtain rfl : k = a.size := by omega
      have ht := HR.out.text (P := Tryz.prog) (src := 22) (e := 5) (dst := 9) a.size cc hml Tryz.underlying22 Tryz.underlying5 Tryz.underlying9
      have hT : TurnOf a m := ⟨hml, HM.out⟩
      have hR := turn_row HG.out hT
      rw [← turn_eq HG.out hT] at ht
      have HRR := Lib.hid hR
      clear hT hR
      go_wp2
      go_ret
      exact ⟨rfl, hb, HRR.out⟩
set_option maxRecDepth 100000 in
theorem spec_l1HasS {A : Option Addr} {N c : Nat} {l : List ByteArray} {s : ByteArray} {w : World} (hN : l.length = N) (h : Strs w A l) (hz : N ≤ 16777216) :
    Calls Tryz.prog 148 #[.slice A N c, .string s] w fun e w' => e = .returned (.bool (inL l s)) ∧ w = w' := by
  subst hN
  go_in
  go_wp2
  go_loopw [9] (fun i wr => ∃ k : Nat, k ≤ l.length ∧ i = .int .i64 k ∧ Hid (∀ j, j < k → l[j]? ≠ some s) ∧ w = wr) (fun i _ => l.length - (intOf i).toNat)
  case atStart => exact ⟨0, Nat.zero_le _, rfl, Lib.hid (fun j hj => absurd hj (by omega)), rfl⟩
  case round =>
    obtain ⟨k, hk, rfl, HK, rfl⟩ := hrel
    by_cases hlt : k < l.length
    · obtain ⟨b1, o1, y, rfl, hbb, hy, hcy⟩ := h.at_str hlt
      by_cases hys : y = s
      · have e0 := Lib.hid (show inL l s = true from inL_iff.2 (by rw [← hys]; exact List.mem_of_getElem? hy))
        clear hy h
        go_wp2
        go_ret
        exact ⟨ret_bool e0.out.symm, rfl⟩
      · have HK2 := Lib.hid (show ∀ j, j < k + 1 → l[j]? ≠ some s from fun j hj => by
          rcases Nat.lt_or_ge j k with h1 | h1
          · exact HK.out j h1
          · obtain rfl : j = k := by omega
            rw [hy]; intro e; injection e with e; exact hys e)
        have hne := bytes_ne hys
        clear hy h
        go_wp2
        go_roundw
        case rel => exact ⟨k + 1, by omega, by go_num, HK2, trivial⟩
        case measure => simp [intOf]; omega
    · obtain rfl : k = l.length := by omega
      have e0 := Lib.hid (show inL l s = false by
        rcases hc : inL l s with _ | _
        · rfl
        · obtain ⟨j, hj⟩ := List.getElem?_of_mem (inL_iff.1 hc)
          exact absurd hj (HK.out j (List.getElem?_eq_some_iff.1 hj).1))
      go_wp2
      go_ret
      exact ⟨ret_bool e0.out.symm, rfl⟩
end Go.Proofs.YtidolgonmimicaaGreat
/-
  DERIVED: THE SHELF's CONTRACTS AT THIS DUMP, IN PLAIN WORDS (tools/lay-plain.mjs out of 'YtidolgonmimicaaGreatShelfb.lean', which tools/lay-shelf.mjs wrote): THE SAME DECLARATIONS UNDER THE SAME NAMES: 'import', 'namespace', 'open', 'def', 'theorem' AND NOTHING ELSE: no command of the shelf's: FOR A HAND-IN. Each laying: the table of numbers ('.._ren') and one theorem, a field a fact of the dump's own or the kernel's comparison; each contract: ONE APPLICATION.
-/
namespace Go.Proofs
open Go.Shelf
def Tryz.laysNm226_ren : Go.Shelf.Ren := ⟨fun | 26 => 206 | 33 => 232 | 34 => 233 | 38 => 255 | n => n, fun | 24 => 23 | 9 => 9 | 3 => 3 | 4 => 4 | 40 => 149 | 0 => 0 | n => n, fun | n => n⟩
theorem Tryz.laysNm226 : Go.Proofs.Lays2.n26 Tryz.prog Tryz.laysNm226_ren := {
  mixed := by kernel_rfl
  f26 := Tryz.func206.trans (congrArg some (by kernel_rfl))
  f33 := Tryz.func232.trans (congrArg some (by kernel_rfl))
  f34 := Tryz.func233.trans (congrArg some (by kernel_rfl))
  f38 := Tryz.func255.trans (congrArg some (by kernel_rfl))
  t0 := Tryz.underlying0
  a0 := Tryz.isAgg0
  z0 := Tryz.sizeOf0
  v0 := Tryz.zeroValue0
  t3 := Tryz.underlying3
  a3 := Tryz.isAgg3
  z3 := Tryz.sizeOf3
  v3 := Tryz.zeroValue3
  t4 := Tryz.underlying4
  a4 := Tryz.isAgg4
  z4 := Tryz.sizeOf4
  v4 := Tryz.zeroValue4
  t9 := Tryz.underlying9
  a9 := Tryz.isAgg9
  z9 := Tryz.sizeOf9
  v9 := Tryz.zeroValue9
  t24 := Tryz.underlying23
  a24 := Tryz.isAgg23
  z24 := Tryz.sizeOf23
  v24 := Tryz.zeroValue23
  t40 := Tryz.underlying149
  a40 := Tryz.isAgg149
  z40 := Tryz.sizeOf149
  v40 := Tryz.zeroValue149 }
theorem Tryz.slices_BinarySearch_string (b off n c : Nat) (Sx : Nat → ByteArray) (x : ByteArray) (w : World) (hbig : n < 4611686018427387904) (hc : ∀ j, j < n → w.cell? ⟨b, off + j, none⟩ = some (.string (Sx j))) :
    Calls Tryz.prog 206 #[.slice (some ⟨b, off, none⟩) n c, .string x] w fun e w' =>
      e = .returned (.tuple #[.int .i64 (Lib.bsGo (fun t => Op.bytesLess (Sx t).toList x.toList) n 0 n : Nat), .bool (decide (Lib.bsGo (fun t => Op.bytesLess (Sx t).toList x.toList) n 0 n < n ∧ Sx (Lib.bsGo (fun t => Op.bytesLess (Sx t).toList x.toList) n 0 n) = x))]) ∧ ∃ q, w' = w.drewN q := Any2.slices_BinarySearch_string Tryz.laysNm226 b off n c Sx x w hbig hc
theorem Tryz.slices_BinarySearch_string_empty (a : Option Addr) (c : Nat) (x : ByteArray) (w : World) :
    Calls Tryz.prog 206 #[.slice a 0 c, .string x] w fun e w' => e = .returned (.tuple #[.int .i64 0, .bool false]) ∧ w' = w := Any2.slices_BinarySearch_string_empty Tryz.laysNm226 a c x w
end Go.Proofs
/-
  DERIVED: THE SHELF's CONTRACTS AT THIS DUMP, IN PLAIN WORDS (tools/lay-plain.mjs out of 'YtidolgonmimicaaGreatShelf.lean', which tools/lay-shelf.mjs wrote): THE SAME DECLARATIONS UNDER THE SAME NAMES: 'import', 'namespace', 'open', 'def', 'theorem' AND NOTHING ELSE: no command of the shelf's: FOR A HAND-IN. Each laying: the table of numbers ('.._ren') and one theorem, a field a fact of the dump's own or the kernel's comparison; each contract: ONE APPLICATION.
-/
namespace Go.Proofs
open Go.Shelf
def Tryz.lays190_ren : Go.Shelf.Ren := ⟨fun | 190 => 155 | 125 => 210 | 258 => 209 | 128 => 242 | 129 => 243 | 302 => 234 | 303 => 235 | 304 => 236 | 305 => 237 | 306 => 238 | 307 => 239 | 308 => 232 | 309 => 240 | 310 => 241 | 333 => 256 | 329 => 257 | 330 => 258 | 334 => 259 | 335 => 260 | 336 => 255 | 344 => 263 | n => n, fun | 31 => 23 | 9 => 9 | 3 => 3 | 46 => 149 | 0 => 0 | 51 => 178 | 53 => 85 | 4 => 4 | 183 => 188 | 182 => 187 | 131 => 60 | 5 => 5 | 218 => 205 | 222 => 209 | 228 => 212 | 229 => 213 | n => n, fun | n => n⟩
theorem Tryz.lays190 : Go.Proofs.Lays.n190 Tryz.prog Tryz.lays190_ren := {
  mixed := by kernel_rfl
  f125 := Tryz.func210.trans (congrArg some (by kernel_rfl))
  f128 := Tryz.func242.trans (congrArg some (by kernel_rfl))
  f129 := Tryz.func243.trans (congrArg some (by kernel_rfl))
  f190 := Tryz.func155.trans (congrArg some (by kernel_rfl))
  f258 := Tryz.func209.trans (congrArg some (by kernel_rfl))
  f302 := Tryz.func234.trans (congrArg some (by kernel_rfl))
  f303 := Tryz.func235.trans (congrArg some (by kernel_rfl))
  f304 := Tryz.func236.trans (congrArg some (by kernel_rfl))
  f305 := Tryz.func237.trans (congrArg some (by kernel_rfl))
  f306 := Tryz.func238.trans (congrArg some (by kernel_rfl))
  f307 := Tryz.func239.trans (congrArg some (by kernel_rfl))
  f308 := Tryz.func232.trans (congrArg some (by kernel_rfl))
  f309 := Tryz.func240.trans (congrArg some (by kernel_rfl))
  f310 := Tryz.func241.trans (congrArg some (by kernel_rfl))
  f329 := Tryz.func257.trans (congrArg some (by kernel_rfl))
  f330 := Tryz.func258.trans (congrArg some (by kernel_rfl))
  f333 := Tryz.func256.trans (congrArg some (by kernel_rfl))
  f334 := Tryz.func259.trans (congrArg some (by kernel_rfl))
  f335 := Tryz.func260.trans (congrArg some (by kernel_rfl))
  f336 := Tryz.func255.trans (congrArg some (by kernel_rfl))
  f344 := Tryz.func263.trans (congrArg some (by kernel_rfl))
  t0 := Tryz.underlying0
  a0 := Tryz.isAgg0
  z0 := Tryz.sizeOf0
  v0 := Tryz.zeroValue0
  t3 := Tryz.underlying3
  a3 := Tryz.isAgg3
  z3 := Tryz.sizeOf3
  v3 := Tryz.zeroValue3
  t4 := Tryz.underlying4
  a4 := Tryz.isAgg4
  z4 := Tryz.sizeOf4
  v4 := Tryz.zeroValue4
  t5 := Tryz.underlying5
  a5 := Tryz.isAgg5
  z5 := Tryz.sizeOf5
  v5 := Tryz.zeroValue5
  t9 := Tryz.underlying9
  a9 := Tryz.isAgg9
  z9 := Tryz.sizeOf9
  v9 := Tryz.zeroValue9
  t31 := Tryz.underlying23
  a31 := Tryz.isAgg23
  z31 := Tryz.sizeOf23
  v31 := Tryz.zeroValue23
  t46 := Tryz.underlying149
  a46 := Tryz.isAgg149
  z46 := Tryz.sizeOf149
  v46 := Tryz.zeroValue149
  t51 := Tryz.underlying178
  a51 := Tryz.isAgg178
  z51 := Tryz.sizeOf178
  v51 := Tryz.zeroValue178
  t53 := Tryz.underlying85
  a53 := Tryz.isAgg85
  z53 := Tryz.sizeOf85
  v53 := Tryz.zeroValue85
  t131 := Tryz.underlying60
  a131 := Tryz.isAgg60
  z131 := Tryz.sizeOf60
  v131 := Tryz.zeroValue60
  t182 := Tryz.underlying187
  a182 := Tryz.isAgg187
  z182 := Tryz.sizeOf187
  v182 := Tryz.zeroValue187
  t183 := Tryz.underlying188
  a183 := Tryz.isAgg188
  z183 := Tryz.sizeOf188
  v183 := Tryz.zeroValue188
  t218 := Tryz.underlying205
  a218 := Tryz.isAgg205
  z218 := Tryz.sizeOf205
  v218 := Tryz.zeroValue205
  t222 := Tryz.underlying209
  a222 := Tryz.isAgg209
  z222 := Tryz.sizeOf209
  v222 := Tryz.zeroValue209
  t228 := Tryz.underlying212
  a228 := Tryz.isAgg212
  z228 := Tryz.sizeOf212
  v228 := Tryz.zeroValue212
  t229 := Tryz.underlying213
  a229 := Tryz.isAgg213
  z229 := Tryz.sizeOf213
  v229 := Tryz.zeroValue213 }
open Go.Sort Go.RowKit in
theorem Tryz.slices_Sort_string (blk off cap : Nat) (ss : List (List UInt8)) (w : World) (hH : Holds encStr w blk off ss.toArray) (hblk : blk < w.heap.size) (hsz : ss.length < 4611686018427387904) :
    Calls Tryz.prog 155 #[.slice (some ⟨blk, off, none⟩) ss.length cap] w fun e w' =>
      e = .returned (.tuple #[]) ∧ ∃ n os, w' = grow (putRow encStr (Sort.ahead w n) blk off (ss.mergeSort fun x y => decide (x ≤ y)).toArray) os := Any.slices_Sort_string Tryz.lays190 blk off cap ss w hH hblk hsz
end Go.Proofs
/- The library's sort of a row of texts of the call's own: the same row, the same texts, in order. -/
namespace Go.Proofs.YtidolgonmimicaaGreat
set_option linter.unusedVariables false
set_option linter.unusedSimpArgs false
open Go.ChangeShapes Go.WideShapes Go.ChangeAt Go.RowKit Go.Deep
theorem bytes_lt : ∀ a b : List UInt8, Op.bytesLess a b = decide (a < b)
  | [], [] => by simp [Op.bytesLess]
  | [], _ :: _ => by simp [Op.bytesLess]
  | _ :: _, [] => by simp [Op.bytesLess]
  | x :: a, y :: b => by
    rw [Op.bytesLess, bytes_lt a b]
    simp only [List.cons_lt_cons_iff]
    rcases Nat.lt_trichotomy x.toNat y.toNat with h | h | h
    · have h1 : x < y := h
      simp [h1]
    · have h1 : x = y := UInt8.toNat_inj.1 h
      subst h1; simp
    · have h1 : ¬ x < y := fun q => Nat.lt_asymm h q
      have h2 : ¬ x = y := fun q => by subst q; exact Nat.lt_irrefl _ h
      simp [h1, h2]
theorem ba_list (s : ByteArray) : (⟨s.data.toList.toArray⟩ : ByteArray) = s := by cases s; simp
theorem le_leS {x y : List UInt8} (h : decide (x ≤ y) = true) : leS ⟨x.toArray⟩ ⟨y.toArray⟩ = true := by
  rw [leS, less, ByteArray.toList_eq, ByteArray.toList_eq, bytes_lt]
  simpa using h
theorem sort_strs {g n c base : Nat} {l : List ByteArray} {w : World} (ho : Owned strE 1 9 w base (some ⟨g, 0, none⟩) n c l) (hn : n ≤ 16777216) :
    Calls Tryz.prog 155 #[.slice (some ⟨g, 0, none⟩) n c] w fun e w' => e = .returned (.tuple #[]) ∧ ∃ L, Owned strE 1 9 w' base (some ⟨g, 0, none⟩) n c L ∧ L.Perm l ∧ Srt L ∧ w.grownBy w' (some g) := by
  obtain ⟨he, hl, _, hv⟩ := ho
  rcases hv with ⟨h0, _⟩ | ⟨g', c', cur, hv, hbase, hb, h1, h2, h3, h4⟩
  · cases h0
  cases hv
  obtain ⟨ss, hss⟩ : ∃ ss, ss = l.map fun s : ByteArray => s.data.toList := ⟨_, rfl⟩
  have hlen : ss.length = n := by rw [hss, List.length_map, hl]
  have hE : ∀ m : List ByteArray, m.flatMap strE = (m.map fun s : ByteArray => s.data.toList).map encStr := fun m => by
    rw [show strE = fun s => [Value.string s] from rfl, flatMap_one, List.map_map]
    exact List.map_congr_left fun s _ => by simp [encStr, ba_list]
  have hH : Sort.Holds encStr w g 0 ss.toArray := holds_of_block hb (by rw [hlen, hss, ← hE]; simpa using h4)
  have hc := Tryz.slices_Sort_string g 0 c ss w hH (Array.getElem?_eq_some_iff.1 hb).1 (by omega)
  rw [hlen] at hc
  refine hc.mono ?_
  rintro e w' ⟨rfl, k, os, rfl⟩
  refine ⟨rfl, (ss.mergeSort fun x y => decide (x ≤ y)).map fun x => (⟨x.toArray⟩ : ByteArray), ?_, ?_, ?_, grownBy_sorted _⟩
  · have hr := ownsRow_sorted (n := k) (os := os) (ss := ss) (ts := ss.mergeSort fun x y => decide (x ≤ y)) (by simp) hbase hb (by rw [hlen]; exact h1) h2 h3
    rw [hlen] at hr
    refine ⟨he, by simp [hlen], ?_⟩
    have e2 : ((ss.mergeSort fun x y => decide (x ≤ y)).map fun x : List UInt8 => (⟨x.toArray⟩ : ByteArray)).map (fun s : ByteArray => s.data.toList) = ss.mergeSort fun x y => decide (x ≤ y) := by
      rw [List.map_map, List.map_congr_left (g := id) (fun x _ => by simp)]; simp
    rw [hE, e2]
    exact hr
  · have hp : (ss.mergeSort fun x y => decide (x ≤ y)).Perm ss := List.mergeSort_perm _ _
    have hq := hp.map fun x => (⟨x.toArray⟩ : ByteArray)
    rw [hss, List.map_map] at hq
    have e1 : l.map ((fun x : List UInt8 => (⟨x.toArray⟩ : ByteArray)) ∘ fun s : ByteArray => s.data.toList) = l := by
      rw [List.map_congr_left (g := id) (fun s _ => by exact ba_list s)]; simp
    rw [e1] at hq
    rw [hss]; exact hq
  · have hs := List.pairwise_mergeSort (le := fun x y : List UInt8 => decide (x ≤ y)) (fun a b c h1 h2 => by simp at h1 h2 ⊢; exact List.le_trans h1 h2) (fun a b => by simp; exact List.le_total a b) ss
    rw [Srt, List.pairwise_map]
    exact hs.imp fun h => le_leS h
end Go.Proofs.YtidolgonmimicaaGreat
/- All changes of a stage as plain functions. -/
namespace Go.Proofs.YtidolgonmimicaaGreat
set_option linter.unusedVariables false
set_option linter.unusedSimpArgs false
open Go.ChangeShapes Go.WideShapes Go.ChangeAt Go.RowKit Go.Deep
/-- All ways to go on from place p with k places left: the places that stay. -/
def fromK : Nat → Nat → List (List Int)
  | _, 0 => [[]]
  | p, 1 => [[(p : Int)]]
  | p, k + 2 => (fromK (p + 1) (k + 1)).map (fun r => (p : Int) :: r) ++ fromK (p + 2) k
def fibK : Nat → Nat
  | 0 => 1
  | 1 => 1
  | k + 2 => fibK (k + 1) + fibK k
theorem fromK_len : ∀ (k p : Nat), (fromK p k).length = fibK k
  | 0, _ => rfl
  | 1, _ => rfl
  | k + 2, p => by rw [fromK, List.length_append, List.length_map, fromK_len (k + 1), fromK_len k, fibK]
theorem fib_le : ∀ k, k < 9 → fibK k ≤ 34 := of_decide_eq_true (by kernel_rfl)
theorem fromK_le {k : Nat} (h : k ≤ 8) (p : Nat) : (fromK p k).length ≤ 34 := by rw [fromK_len]; exact fib_le k (by omega)
theorem fromK_row : ∀ (k p : Nat), ∀ r ∈ fromK p k, r.length ≤ k ∧ ∀ x ∈ r, (p : Int) ≤ x ∧ x < (p : Int) + k
  | 0, p, r, h => by
    simp only [fromK, List.mem_singleton] at h
    subst h; exact ⟨Nat.le_refl _, fun x hx => by cases hx⟩
  | 1, p, r, h => by
    simp only [fromK, List.mem_singleton] at h
    subst h
    refine ⟨Nat.le_refl _, fun x hx => ?_⟩
    rw [List.mem_singleton.1 hx]; omega
  | k + 2, p, r, h => by
    rw [fromK, List.mem_append, List.mem_map] at h
    rcases h with ⟨q, hq, rfl⟩ | h
    · have ih := fromK_row (k + 1) (p + 1) q hq
      refine ⟨by rw [List.length_cons]; omega, fun x hx => ?_⟩
      rcases List.mem_cons.1 hx with rfl | hx
      · omega
      · have := ih.2 x hx; omega
    · have ih := fromK_row k (p + 2) r h
      exact ⟨by omega, fun x hx => by have := ih.2 x hx; omega⟩
/-- A digit. -/
def dig1 (x : Int) : ByteArray := strOfNums [48 + x]
/-- The text of some places. -/
def placesS (l : List Int) : ByteArray := strOfNums (l.map fun x => 48 + x)
theorem placesS_snoc (l : List Int) (x : Int) : placesS (l ++ [x]) = placesS l ++ dig1 x := by
  rw [placesS, placesS, dig1, strOf_append, List.map_append]; rfl
theorem placesS_size (l : List Int) : (placesS l).size = l.length := by rw [placesS, strOfNums_size, List.length_map]
def ofPl (l : List Int) : ByteArray := if l.length = 0 then ⟨#[45]⟩ else placesS l
theorem ofPl_0 {l : List Int} (h : l.length = 0) : ofPl l = ⟨#[45]⟩ := by rw [ofPl, if_pos h]
theorem ofPl_pos {l : List Int} (h : 0 < l.length) : ofPl l = placesS l := by rw [ofPl, if_neg (by omega)]
theorem ofPl_size {l : List Int} (h : l.length ≤ 8) : (ofPl l).size ≤ 8 := by
  by_cases h0 : l.length = 0
  · rw [ofPl_0 h0]; decide
  · rw [ofPl_pos (by omega), placesS_size]; exact h
/-- The changes of stage n, in the order in which their places are told. -/
def chsRaw (n : Nat) : List ByteArray := ((fromK 1 n).map ofPl).filter fun c => goodChange n c
end Go.Proofs.YtidolgonmimicaaGreat
/- The change between two rows: the program's way and the reference's agree on whether there is one. -/
namespace Go.Proofs.YtidolgonmimicaaGreat
set_option linter.unusedVariables false
set_option linter.unusedSimpArgs false
open Go.ChangeShapes Go.WideShapes Go.ChangeAt Go.RowKit Go.Deep
/-- From which places the bytes come, k places left from place i on, ps the places (from 1) that stay. -/
def idxK : Nat → Nat → List Int → List Nat
  | _, 0, _ => []
  | i, 1, _ => [i]
  | i, k + 2, ps => match ps with
    | [] => (i + 1) :: i :: idxK (i + 2) k []
    | x :: r => if x = (i : Int) + 1 then i :: idxK (i + 1) (k + 1) r else (i + 1) :: i :: idxK (i + 2) k (x :: r)
theorem idx_stay (i k : Nat) (r : List Int) : idxK i (k + 2) (((i : Int) + 1) :: r) = i :: idxK (i + 1) (k + 1) r := by rw [idxK, if_pos rfl]
theorem idx_swap {i k : Nat} {ps : List Int} (h : ∀ x ∈ ps, (i : Int) + 1 < x) : idxK i (k + 2) ps = (i + 1) :: i :: idxK (i + 2) k ps := by
  rcases ps with _ | ⟨x, r⟩
  · rw [idxK]
  · rw [idxK, if_neg (by have := h x (List.mem_cons_self ..); omega)]
theorem idxK_len : ∀ (k i : Nat) (ps : List Int), (idxK i k ps).length = k
  | 0, _, _ => rfl
  | 1, _, _ => rfl
  | k + 2, i, [] => by rw [idxK, List.length_cons, List.length_cons, idxK_len k]
  | k + 2, i, x :: r => by
    rw [idxK]
    split
    · rw [List.length_cons, idxK_len (k + 1)]
    · rw [List.length_cons, List.length_cons, idxK_len k]
/-- The program's way: k places left, i done, whether a pair has been swapped. -/
def btwK (a b : ByteArray) : Nat → Nat → Bool → Bool
  | 0, _, sw => sw
  | 1, i, sw => if PlainAid.bt a i = PlainAid.bt b i then sw else false
  | k + 2, i, sw => if PlainAid.bt a i = PlainAid.bt b i then btwK a b (k + 1) (i + 1) sw else
      if PlainAid.bt a i = PlainAid.bt b (i + 1) ∧ PlainAid.bt a (i + 1) = PlainAid.bt b i then btwK a b k (i + 2) true else false
def fromIdx (a b : ByteArray) (i k : Nat) (ps : List Int) : Prop := ∀ j, j < k → PlainAid.bt b (i + j) = PlainAid.bt a ((idxK i k ps).getD j 0)
theorem btw_iff {a b : ByteArray} (n : Nat) (hd : ∀ i j, i < j → j < n → PlainAid.bt a i ≠ PlainAid.bt a j) : ∀ (k i : Nat) (sw : Bool), i + k = n →
    (btwK a b k i sw = true ↔ ∃ ps ∈ fromK (i + 1) k, fromIdx a b i k ps ∧ (sw = true ∨ ps.length < k))
  | 0, i, sw, h => by
    simp only [btwK, fromK, List.mem_singleton, exists_eq_left, fromIdx, List.length_nil]
    constructor
    · intro h; exact ⟨fun j hj => absurd hj (by omega), .inl h⟩
    · rintro ⟨_, h | h⟩
      · exact h
      · omega
  | 1, i, sw, h => by
    simp only [btwK, fromK, List.mem_singleton, exists_eq_left, fromIdx, List.length_cons, List.length_nil]
    constructor
    · intro h
      split at h
      · rename_i e
        exact ⟨fun j hj => by obtain rfl : j = 0 := by omega
                              simp [idxK, e], .inl h⟩
      · cases h
    · rintro ⟨h1, h | h⟩
      · have := h1 0 (by omega)
        simp [idxK] at this
        rw [if_pos this.symm]; exact h
      · omega
  | k + 2, i, sw, h => by
    have ih1 := btw_iff (b := b) n hd (k + 1) (i + 1) sw (by omega)
    have ih2 := btw_iff (b := b) n hd k (i + 2) true (by omega)
    have hsplit : ∀ ps, ps ∈ fromK (i + 1) (k + 2) ↔ (∃ r ∈ fromK (i + 2) (k + 1), ps = ((i : Int) + 1) :: r) ∨ ps ∈ fromK (i + 3) k := fun ps => by
      rw [fromK, List.mem_append, List.mem_map]
      constructor
      · rintro (⟨r, hr, rfl⟩ | h)
        · exact .inl ⟨r, hr, by congr 1⟩
        · exact .inr h
      · rintro (⟨r, hr, rfl⟩ | h)
        · exact .inl ⟨r, hr, by congr 1⟩
        · exact .inr h
    rw [btwK]
    constructor
    · intro hb
      split at hb
      · rename_i e
        obtain ⟨r, hr, h1, h2⟩ := ih1.1 hb
        refine ⟨((i : Int) + 1) :: r, (hsplit _).2 (.inl ⟨r, hr, rfl⟩), fun j hj => ?_, ?_⟩
        · rw [idx_stay]
          rcases j with _ | j
          · simpa using e.symm
          · have := h1 j (by omega)
            rw [show i + (j + 1) = i + 1 + j by omega]
            simpa using this
        · rcases h2 with h2 | h2
          · exact .inl h2
          · right; rw [List.length_cons]; omega
      · split at hb
        · rename_i e
          obtain ⟨ps, hps, h1, h2⟩ := ih2.1 hb
          have hx := (fromK_row k (i + 3) ps hps)
          refine ⟨ps, (hsplit _).2 (.inr hps), fun j hj => ?_, .inr (by omega)⟩
          rw [idx_swap (fun x hx' => by have := hx.2 x hx'; omega)]
          rcases j with _ | _ | j
          · simpa using e.2.symm
          · simpa using e.1.symm
          · have := h1 j (by omega)
            rw [show i + (j + 1 + 1) = i + 2 + j by omega]
            simpa using this
        · cases hb
    · rintro ⟨ps, hps, h1, h2⟩
      rcases (hsplit ps).1 hps with ⟨r, hr, rfl⟩ | hps
      · rw [fromIdx, idx_stay] at h1
        have h0 := h1 0 (by omega)
        simp at h0
        rw [if_pos h0.symm]
        refine ih1.2 ⟨r, hr, fun j hj => ?_, ?_⟩
        · have := h1 (j + 1) (by omega)
          rw [show i + (j + 1) = i + 1 + j by omega] at this
          simpa using this
        · rcases h2 with h2 | h2
          · exact .inl h2
          · right; rw [List.length_cons] at h2; omega
      · have hx := (fromK_row k (i + 3) ps hps)
        rw [fromIdx, idx_swap (fun x hx' => by have := hx.2 x hx'; omega)] at h1
        have h0 := h1 0 (by omega)
        have h3 := h1 1 (by omega)
        simp at h0 h3
        have hne := hd i (i + 1) (by omega) (by omega)
        rw [if_neg (fun e => hne (by rw [e, h0])), if_pos ⟨h3.symm, h0.symm⟩]
        refine ih2.2 ⟨ps, hps, fun j hj => ?_, .inl rfl⟩
        have := h1 (j + 1 + 1) (by omega)
        rw [show i + (j + 1 + 1) = i + 2 + j by omega] at this
        simpa using this
/-! sws by fuel, for the kernel -/
def swsF (st : Int → Bool) (n : Nat) : Nat → Nat → List Int
  | 0, _ => []
  | f + 1, p => if p < n then (if st p then swsF st n f (p + 1) else (p : Int) :: swsF st n f (p + 2)) else []
theorem sws_F (st : Int → Bool) (n : Nat) : ∀ (f p : Nat), n ≤ p + f → sws st n p = swsF st n f p
  | 0, p, h => by rw [sws_end (by omega), swsF]
  | f + 1, p, h => by
    rw [swsF]
    by_cases hp : p < n
    · rw [if_pos hp]
      rcases hs : st p
      · rw [sws_swap hp hs, if_neg (by simp), sws_F st n f (p + 2) (by omega)]
      · rw [sws_stay hp hs, if_pos rfl, sws_F st n f (p + 1) (by omega)]
    · rw [sws_end hp, if_neg hp]
def idxC (n : Nat) (ps : List Int) : List Nat := (List.range n).map fun j => (cval (swsF (stays (ofPl ps)) n 9 1) j - 49).toNat
def okPs (n : Nat) (ps : List Int) : Bool := (idxC n ps == idxK 0 n ps) && (goodChange n (ofPl ps) == decide (ps.length < n))
theorem all_ok : ∀ n, n < 9 → 3 ≤ n → (fromK 1 n).all (okPs n) = true := of_decide_eq_true (by kernel_rfl)
end Go.Proofs.YtidolgonmimicaaGreat
/- A change leads from one row to another just where the program finds one. -/
namespace Go.Proofs.YtidolgonmimicaaGreat
set_option linter.unusedVariables false
set_option linter.unusedSimpArgs false
open Go.ChangeShapes Go.WideShapes Go.ChangeAt Go.RowKit Go.Deep
theorem nums_apply {a : ByteArray} (h : goodRow a = true) (c : ByteArray) : nums (applyR a c) = (rowV a.size (swaps a.size c)).map fun z => PlainAid.bt a (z - 49).toNat := by
  have hn := goodRow_n h
  have hr := goodRow_list h
  have e0 : nums (chRow a.size c) = rowV a.size (swaps a.size c) := by rw [chRow, nums_strOf (rowL_bytes (rowL_ch a.size c) (by rw [rowV_len]; omega))]
  have h2 := rowL_times hr (by rw [e0]; exact rowL_ch a.size c) (chRow_size a.size c).symm
  rw [applyR, timesS, nums_strOf (rowL_bytes h2 (by rw [timesL_len, chRow_size]; omega)), timesL, e0]
theorem apply_iff {a b : ByteArray} (ha : goodRow a = true) (e : a.size = b.size) {ps : List Int} (hps : ps ∈ fromK 1 a.size) : applyR a (ofPl ps) = b ↔ fromIdx a b 0 a.size ps := by
  have hn := goodRow_n ha
  have hok := all_ok a.size (by omega) (by omega)
  rw [List.all_eq_true] at hok
  have hok := hok ps hps
  rw [okPs, Bool.and_eq_true] at hok
  have hi : idxC a.size ps = idxK 0 a.size ps := by simpa using hok.1
  have hsw : swsF (stays (ofPl ps)) a.size 9 1 = swaps a.size (ofPl ps) := (sws_F _ _ _ _ (by omega)).symm
  have hat : ∀ j, j < a.size → (nums (applyR a (ofPl ps)))[j]? = some (PlainAid.bt a ((idxK 0 a.size ps).getD j 0)) := fun j hj => by
    rw [nums_apply ha, ← hi, rowV, List.map_map, List.getElem?_map, List.getElem?_range hj, idxC, hsw]
    simp [hj]
  constructor
  · intro h j hj
    have h1 := hat j hj
    rw [h, nums_at (by omega)] at h1
    injection h1 with h1
    rw [Nat.zero_add]; exact h1
  · intro h
    apply nums_inj
    apply List.ext_getElem?
    intro j
    by_cases hj : j < a.size
    · rw [hat j hj, nums_at (by omega)]
      have := h j hj
      rw [Nat.zero_add] at this
      rw [this]
    · rw [List.getElem?_eq_none (by rw [nums_len, applyR_size]; omega), List.getElem?_eq_none (by rw [nums_len]; omega)]
theorem mem_chs {n : Nat} {c : ByteArray} : c ∈ chsRaw n ↔ (∃ ps ∈ fromK 1 n, ofPl ps = c) ∧ goodChange n c = true := by
  rw [chsRaw, List.mem_filter, List.mem_map]
theorem row_ne {a : ByteArray} (ha : goodRow a = true) {i j : Nat} (hij : i < j) (hj : j < a.size) : PlainAid.bt a i ≠ PlainAid.bt a j := by
  have hp := (goodRow_list ha).1
  rw [List.nodup_iff_pairwise_ne, List.pairwise_iff_getElem] at hp
  have := hp i j (by rw [nums_len]; omega) (by rw [nums_len]; omega) hij
  have h1 := nums_at (s := a) (k := i) (by omega); have h2 := nums_at (s := a) (k := j) (by omega)
  rw [List.getElem?_eq_getElem (by rw [nums_len]; omega)] at h1 h2
  injection h1 with h1; injection h2 with h2
  rw [← h1, ← h2]; exact this
/-- Whether a change leads from a to b. -/
def btwB (a b : ByteArray) : Bool := btwK a b a.size 0 false
theorem btw_change {a b : ByteArray} (ha : goodRow a = true) (e : a.size = b.size) : btwB a b = true ↔ ∃ c ∈ chsRaw a.size, applyR a c = b := by
  have hn := goodRow_n ha
  have hok := all_ok a.size (by omega) (by omega)
  rw [List.all_eq_true] at hok
  rw [btwB, btw_iff (b := b) a.size (fun i j h1 h2 => row_ne ha h1 h2) a.size 0 false (by omega)]
  constructor
  · rintro ⟨ps, hps, h1, h2⟩
    have h3 := hok ps hps
    rw [okPs, Bool.and_eq_true] at h3
    have hl : ps.length < a.size := by rcases h2 with h2 | h2; cases h2; exact h2
    have hg : goodChange a.size (ofPl ps) = true := by
      have := h3.2
      rw [decide_eq_true hl] at this
      simpa using this
    exact ⟨ofPl ps, mem_chs.2 ⟨⟨ps, hps, rfl⟩, hg⟩, (apply_iff ha e hps).2 h1⟩
  · rintro ⟨c, hc, h1⟩
    obtain ⟨⟨ps, hps, rfl⟩, hg⟩ := mem_chs.1 hc
    have h3 := hok ps hps
    rw [okPs, Bool.and_eq_true, hg] at h3
    refine ⟨ps, hps, (apply_iff ha e hps).1 h1, .inr ?_⟩
    have := h3.2
    by_cases hl : ps.length < a.size
    · exact hl
    · rw [decide_eq_false hl] at this; simp at this
end Go.Proofs.YtidolgonmimicaaGreat
/- The walks through all changes of a stage, the reference's side. -/
namespace Go.Proofs.YtidolgonmimicaaGreat
set_option linter.unusedVariables false
set_option linter.unusedSimpArgs false
open Go.ChangeShapes Go.WideShapes Go.ChangeAt Go.RowKit Go.Deep
theorem own_lit1 {α : Type} {e : α → List Value} {s : Nat} (he : ∀ x, (e x).length = s) (w : World) (E : TypeId) (x : α) {base : Nat} (hb : base ≤ w.heap.size) : Owned e s E (w.alloc (.cells ⟨e x⟩ E)) base (some ⟨w.heap.size, 0, none⟩) 1 1 [x] :=
  ⟨he, rfl, by simpa using World.ownsRow_lit (e := E) (base := base) (size := s) w ⟨e x⟩ 1 hb (by unfold maxLen; omega) (by simp [he])⟩
set_option maxHeartbeats 1000000 in
set_option maxRecDepth 100000 in
theorem spec_l2From : ∀ (k n p : Nat) (w : World), k ≤ 8 → n ≤ 8 → n + 1 = p + k → 1 ≤ p →
    Calls Tryz.prog 250 #[.int .i64 n, .int .i64 p] w fun e w' => ∃ vs A c, e = .returned (.slice A (fromK p k).length c) ∧ LT intE 1 3 134 vs w' w.heap.size A (fromK p k).length c (fromK p k) ∧ Below w.heap.size w w' := by
  intro k
  induction k using Nat.strongRecOn with
  | ind k ih =>
    intro n p w hk hn8 hn hp
    by_cases h0 : k = 0
    · subst h0
      have hI : (n : Int) < (p : Int) := by omega
      have hl : LT intE 1 3 134 [(none, 0, 0)] (w.alloc (.cells #[.slice none 0 0] 134)) w.heap.size (some ⟨w.heap.size, 0, none⟩) 1 1 [[]] := ⟨rfl, own_lit1 slcE_len w 134 (none, 0, 0) (Nat.le_refl _), fun j v r hv hr => by
        have hj : j = 0 := by have := (List.getElem?_eq_some_iff.1 hv).1; simp at this; exact this
        subst hj
        simp at hv hr
        subst hv hr
        exact Owned.nil intE_len _ _ _⟩
      go_in
      go_wp2
      go_ret
      exact ⟨_, _, _, rfl, hl, by (repeat' (first | (with_reducible exact Below.refl _ _) | (with_reducible assumption) | (with_reducible refine below_drewN ?_ _) | (with_reducible refine Below.drew ?_) | (with_reducible refine below_alloc ?_ _) | (with_reducible refine Below.alloc ?_ ?_ _) | (with_reducible refine Below.setCell ?_ ?_ _) | (with_reducible refine below_go ?_ (by with_reducible assumption)) | (with_reducible refine below_then (by with_reducible assumption) ?_ ?_) | go_size))⟩
    · obtain ⟨q, rfl⟩ : ∃ q, k = q + 1 := ⟨k - 1, by omega⟩
      have hI : ¬ (n : Int) < (p : Int) := by omega
      have IH := Lib.hid (ih q (by omega))
      have IH2 := Lib.hid (fun m (hm : m + 1 = q) => ih m (by omega))
      have hlen := Lib.hid (fromK_le (k := q) (by omega) (p + 1))
      have hrow := Lib.hid (fromK_row q (p + 1))
      have hT : Hid (fromK p (q + 1) = (fromK (p + 1) q).map (fun r => (p : Int) :: r) ++ (if q = 0 then [] else fromK (p + 2) (q - 1))) := Lib.hid (by rcases q with _ | q <;> simp [fromK])
      clear ih
      go_in
      go_wp2_with fail
      rw [show ((p : Int) + 1) = ((p + 1 : Nat) : Int) by omega]
      refine (IH.out n (p + 1) w (by omega) (by omega) (by omega) (by omega)).mono ?_; rintro e w1 ⟨vs1, A1, c1, rfl, L1, hb1⟩
      have HW1 := hb1.size
      go_wp2
      go_loopw [5, 17] (fun v i wr => ∃ (j : Nat) (us : List Hd) (A' : Option Addr) (c' : Nat), j ≤ (fromK (p + 1) q).length ∧ i = .int .i64 j ∧ v = .slice A' j c' ∧ Hid (LT intE 1 3 134 us wr w1.heap.size A' j c' (((fromK (p + 1) q).take j).map fun r => (p : Int) :: r)) ∧ Below w1.heap.size w1 wr) (fun _ i _ => (fromK (p + 1) q).length - (intOf i).toNat)
      case atStart => exact ⟨0, [], none, 0, Nat.zero_le _, rfl, rfl, Lib.hid (LT.nil _ _), Below.refl _ _⟩
      case round =>
        obtain ⟨j, us, A', c', hj, rfl, rfl, HL, hb⟩ := hrel
        by_cases hlt : j < (fromK (p + 1) q).length
        · obtain ⟨b3, o3, v, r, rfl, hbb, hr, hv, hc, ho⟩ := (L1.up hb).at_ hlt
          have hrl := hrow.out r (List.mem_of_getElem? hr)
          have HR := Lib.hid hr
          have HO := Lib.hid ho
          have hsz := hb.size
          have hl := hlen.out
          clear hr hv ho
          go_wp2_with (first | (at_builtin; ((refine wpList_append_recs Tryz.elInt intE_one rfl (.tmp 23) (.tmp 24) rfl rfl (own_lit1 intE_len _ _ (p : Int) (base := wr.heap.size) (Nat.le_refl _)) rfl (HO.out.recs.alloc _) rfl ?_ (by decide) ?_ ?_; (focus (first | omega | (simp only [World.size_alloc]; done) | (simp only [World.size_alloc]; omega) | (simp; done) | (simp; omega))); (focus (first | omega | (simp only [World.size_alloc]; done) | (simp only [World.size_alloc]; omega) | (simp; done) | (simp; omega))); intro A2 c2 w2 ho2 hg2 hl2; have hb2 := lit_app hg2; have HL2 := Lib.hid (HL.out.up hb2); have hsz2 := hb2.size))) | (at_builtin; go_must ((refine wpList_append_recs Tryz.elInts slcE_one rfl (.tmp 21) (.tmp 26) rfl rfl (HL2.out.top.alloc _) rfl (own_lit1 slcE_len _ _ ((A2, 1 + r.length, c2) : Hd) (Nat.le_refl _)).recs rfl ?_ (by decide) ?_ ?_; (focus (first | omega | (simp only [World.size_alloc]; done) | (simp only [World.size_alloc]; omega) | (simp; done) | (simp; omega))); (focus (first | omega | (simp only [World.size_alloc]; done) | (simp only [World.size_alloc]; omega) | (simp; done) | (simp; omega))); intro A3 c3 w3 ho3 hg3 hl3))))
          have hL3 := (HL2.out.alloc (.cells #[.slice A2 (1 + r.length) c2] 134)).add (by decide) ((ho2.base_le hsz).alloc _) ho3 hg3
          have hb3 : Below w1.heap.size w1 w3 := ((hb.trans (hb2.mono hsz)).alloc (by omega) _).trans (grown_base hg3 (by simp; omega) (fun k hk => (HL2.out.top.blk hk).1))
          go_roundw
          case rel => exact ⟨j + 1, _, A3, c3, by omega, by go_num, by go_num, Lib.hid (by rw [take_succ_some HR.out, List.map_append]; exact hL3), hb3⟩
          case measure => simp [intOf]; omega
        · obtain rfl : j = (fromK (p + 1) q).length := by omega
          have e1 := Lib.hid (show ((fromK (p + 1) q).take (fromK (p + 1) q).length).map (fun r => (p : Int) :: r) = (fromK (p + 1) q).map fun r => (p : Int) :: r by rw [List.take_of_length_le (Nat.le_refl _)])
          have hsz := hb.size
          rcases Nat.eq_zero_or_pos q with hq | hq
          · subst hq
            have hI2 : ¬ (p : Int) < (n : Int) := by omega
            have e2 := Lib.hid (show fromK p (0 + 1) = (fromK (p + 1) 0).map (fun r => (p : Int) :: r) by rw [hT.out]; simp)
            have e3 := Lib.hid (show (fromK (p + 1) 0).length = 1 from rfl)
            go_wp2
            go_ret
            have hl := HL.out
            rw [e1.out, ← e2.out] at hl
            exact ⟨_, _, _, rfl, hl.base_le HW1, below_go hb1 hb⟩
          · obtain ⟨m, rfl⟩ : ∃ m, q = m + 1 := ⟨q - 1, by omega⟩
            have hI2 : (p : Int) < (n : Int) := by omega
            go_wp2_with fail
            rw [show ((p : Int) + 2) = ((p + 2 : Nat) : Int) by omega]
            refine (IH2.out m rfl n (p + 2) wr (by omega) (by omega) (by omega) (by omega)).mono ?_; rintro e w4 ⟨vs4, A4, c4, rfl, L4, hb4⟩
            have HL4 := Lib.hid (HL.out.up hb4)
            have hl2 := Lib.hid (fromK_le (k := m) (by omega) (p + 2))
            have hl3 := hl2.out
            have hl1 := hlen.out
            have hsz4 := hb4.size
            have e2 := Lib.hid (show fromK p (m + 1 + 1) = (fromK (p + 1) (m + 1)).map (fun r => (p : Int) :: r) ++ fromK (p + 2) m by rw [hT.out, if_neg (by omega)]; rfl)
            have e3 := Lib.hid (show (fromK p (m + 1 + 1)).length = (fromK (p + 1) (m + 1)).length + (fromK (p + 2) m).length by rw [e2.out, List.length_append, List.length_map])
            go_wp2_with (first | (at_builtin; go_must ((refine wpList_append_recs Tryz.elInts slcE_one rfl (.tmp 32) (.tmp 36) rfl rfl HL4.out.top rfl L4.top.recs L4.top.len ?_ (by decide) ?_ ?_; (focus (first | omega | (simp only [World.size_alloc]; done) | (simp only [World.size_alloc]; omega) | (simp; done) | (simp; omega))); (focus (first | omega | (simp only [World.size_alloc]; done) | (simp only [World.size_alloc]; omega) | (simp; done) | (simp; omega))); intro A5 c5 w5 ho5 hg5 hl5))))
            go_ret
            have hL5 := HL4.out.join (by decide) (L4.base_le hsz) ho5 hg5
            rw [e1.out, ← e2.out, ← e3.out] at hL5
            rw [e3.out]
            rw [e3.out] at hL5
            exact ⟨_, _, _, rfl, hL5.base_le HW1, below_go hb1 ((hb.trans (hb4.mono hsz)).trans (grown_base hg5 (by omega) (fun k hk => (HL4.out.top.blk hk).1)))⟩
end Go.Proofs.YtidolgonmimicaaGreat
/- The walks through the text of places and the list of all changes, the reference's side. -/
namespace Go.Proofs.YtidolgonmimicaaGreat
set_option linter.unusedVariables false
set_option linter.unusedSimpArgs false
open Go.ChangeShapes Go.WideShapes Go.ChangeAt Go.RowKit Go.Deep
theorem spec_l1Num_1 {x : Int} {w : World} (h0 : 0 ≤ x) (h1 : x ≤ 9) :
    Calls Tryz.prog 222 #[.int .i64 x] w fun e w' => e = .returned (.string (dig1 x)) ∧ Below w.heap.size w w' := by
  have hI : x < 10 := by omega
  have hcv := run_convert_bytes_arg (P := Tryz.prog) (w.alloc (.cells #[.int .u8 (48 + x)] 5)) 22 5 Tryz.underlying22 Tryz.underlying5 w.heap.size 0 1 1 [48 + x] rfl (fun i hi => by
    obtain rfl : i = 0 := by omega
    exact Box.new w [.int .u8 (48 + x)] 5 0 _ rfl) 9 Tryz.underlying9
  have hdef : strOfNums [48 + x] = dig1 x := rfl
  rw [hdef] at hcv
  clear hdef
  go_in
  go_wp2
  go_ret
  exact ⟨rfl, by (repeat' (first | (with_reducible exact Below.refl _ _) | (with_reducible assumption) | (with_reducible refine below_drewN ?_ _) | (with_reducible refine Below.drew ?_) | (with_reducible refine below_alloc ?_ _) | (with_reducible refine Below.alloc ?_ ?_ _) | (with_reducible refine Below.setCell ?_ ?_ _) | (with_reducible refine below_go ?_ (by with_reducible assumption)) | (with_reducible refine below_then (by with_reducible assumption) ?_ ?_) | go_size))⟩
set_option maxRecDepth 100000 in
theorem spec_l2Of {A : Option Addr} {n c : Nat} {l : List Int} {w : World} (hn : l.length = n) (h : Ints w A l) (hz : n ≤ 8) (hl : ∀ x ∈ l, 0 ≤ x ∧ x ≤ 9) :
    Calls Tryz.prog 251 #[.slice A n c] w fun e w' => e = .returned (.string (ofPl l)) ∧ Below w.heap.size w w' := by
  subst hn
  have HL := Lib.hid hl
  clear hl
  go_in
  go_wp2
  go_loopw [3, 8] (fun v i wr => ∃ k : Nat, k ≤ l.length ∧ i = .int .i64 k ∧ v = .string (placesS (l.take k)) ∧ Below w.heap.size w wr) (fun _ i _ => l.length - (intOf i).toNat)
  case atStart => exact ⟨0, Nat.zero_le _, rfl, rfl, Below.refl _ _⟩
  case round =>
    obtain ⟨k, hk, rfl, rfl, hb⟩ := hrel
    by_cases hlt : k < l.length
    · obtain ⟨b1, o1, x, rfl, _, hx, hcx⟩ := (h.below hb (Nat.le_refl _)).at_int hlt
      have hxb := HL.out x (List.mem_of_getElem? hx)
      have e1 := Lib.hid (show placesS (l.take (k + 1)) = placesS (l.take k) ++ dig1 x by rw [take_succ_some hx, placesS_snoc])
      have hs1 : (placesS (l.take k)).size ≤ 8 := by rw [placesS_size, List.length_take]; omega
      have hs2 : (dig1 x).size = 1 := rfl
      clear hx h
      go_wp2_with (first | (go_at_call 222; refine (spec_l1Num_1 hxb.1 hxb.2).mono ?_; rintro e w1 ⟨rfl, hb1⟩))
      go_roundw
      case rel => exact ⟨k + 1, by omega, by go_num, by rw [e1.out], below_go hb hb1⟩
      case measure => simp [intOf]; omega
    · obtain rfl : k = l.length := by omega
      rw [List.take_of_length_le (Nat.le_refl _)]
      by_cases h0 : l.length = 0
      · have e1 := Lib.hid (ofPl_0 h0)
        have e2 : (placesS l).toList.isEmpty = true ∧ (placesS l).toList = [] := no_bytes (by rw [placesS_size]; omega)
        obtain ⟨e3, e4⟩ := e2
        go_wp2
        go_ret
        rw [e1.out]
        exact ⟨rfl, hb⟩
      · have e1 := Lib.hid (ofPl_pos (l := l) (by omega))
        have e2 : (placesS l).toList.isEmpty = false ∧ ¬ (placesS l).toList = [] := some_bytes (by rw [placesS_size]; omega)
        obtain ⟨e3, e4⟩ := e2
        go_wp2
        go_ret
        rw [e1.out]
        exact ⟨rfl, hb⟩
end Go.Proofs.YtidolgonmimicaaGreat
/- The walk through the list of all changes, the reference's side. -/
namespace Go.Proofs.YtidolgonmimicaaGreat
set_option linter.unusedVariables false
set_option linter.unusedSimpArgs false
open Go.ChangeShapes Go.WideShapes Go.ChangeAt Go.RowKit Go.Deep
theorem ins_at {α : Type} {M : List α} {y : α} {q : Nat} (h : q ≤ M.length) : (M.take q ++ y :: M.drop q)[q]? = some y := by
  rw [List.getElem?_append_right (by rw [List.length_take]; omega), List.length_take, Nat.min_eq_left h, Nat.sub_self, List.getElem?_cons_zero]
theorem ins_before {α : Type} {M : List α} {y : α} {q : Nat} (h : q < M.length) : (M.take (q + 1) ++ y :: M.drop (q + 1))[q]? = M[q]? := by
  rw [List.getElem?_append_left (by rw [List.length_take]; omega), List.getElem?_take, if_pos (by omega)]
theorem ins_set {α : Type} {M : List α} {y z : α} {q : Nat} (h : q ≤ M.length) : (M.take q ++ y :: M.drop q).set q z = M.take q ++ z :: M.drop q := by
  rw [List.set_append_right _ _ (by rw [List.length_take]; omega), List.length_take, Nat.min_eq_left h, Nat.sub_self, List.set_cons_zero]
theorem ins_down {α : Type} {M : List α} {y z : α} {q : Nat} (hz : M[q]? = some z) : (M.take (q + 1) ++ y :: M.drop (q + 1)).set (q + 1) z = M.take q ++ z :: M.drop q := by
  have h := (List.getElem?_eq_some_iff.1 hz).1
  rw [ins_set (by omega), take_succ_some hz, List.append_assoc]
  congr 1
  rw [List.drop_eq_getElem_cons h, (List.getElem?_eq_some_iff.1 hz).2]; rfl
theorem ins_len {α : Type} {M : List α} {y : α} {q : Nat} (h : q ≤ M.length) : (M.take q ++ y :: M.drop q).length = M.length + 1 := by
  rw [List.length_append, List.length_cons, List.length_take, List.length_drop]; omega
theorem ins_perm {α : Type} {M : List α} {y : α} {q : Nat} : (M.take q ++ y :: M.drop q).Perm (M ++ [y]) := by
  refine (List.perm_middle).trans ?_
  rw [List.take_append_drop]
  exact (List.perm_append_singleton y M).symm
theorem filt_hit {f : ByteArray → Bool} {g : List Int → ByteArray} {T : List (List Int)} {j : Nat} {r : List Int} (hr : T[j]? = some r) (h : f (g r) = true) : ((T.take (j + 1)).map g).filter f = ((T.take j).map g).filter f ++ [g r] := by
  rw [take_succ_some hr, List.map_append, List.filter_append]
  simp [h]
theorem filt_miss {f : ByteArray → Bool} {g : List Int → ByteArray} {T : List (List Int)} {j : Nat} {r : List Int} (hr : T[j]? = some r) (h : f (g r) = false) : ((T.take (j + 1)).map g).filter f = ((T.take j).map g).filter f := by
  rw [take_succ_some hr, List.map_append, List.filter_append]
  simp [h]
set_option maxHeartbeats 2000000 in
set_option maxRecDepth 100000 in
theorem spec_l2All {n : Nat} {w : World} (hn : n ≤ 8) :
    Calls Tryz.prog 224 #[.int .i64 n] w fun e w' => ∃ A c L, e = .returned (.slice A L.length c) ∧ Owned strE 1 9 w' w.heap.size A L.length c L ∧ L.Perm (chsRaw n) ∧ Below w.heap.size w w' := by
  have hlen := fromK_le (k := n) hn 1
  have HR := Lib.hid (fromK_row n 1)
  have HC : Hid (chsRaw n = ((fromK 1 n).map ofPl).filter fun c => goodChange n c) := Lib.hid rfl
  go_in
  go_wp2_with fail
  refine (spec_l2From n n 1 w hn hn (by omega) (Nat.le_refl _)).mono ?_; rintro e w1 ⟨vs, A1, c1, rfl, L1, hb1⟩
  obtain ⟨T, hT⟩ : ∃ T, T = fromK 1 n := ⟨_, rfl⟩
  rw [← hT] at hlen HR HC L1 ⊢
  clear hT
  go_wp2
  go_loopw [3, 11] (fun v i wr => ∃ (j : Nat) (M : List ByteArray) (A' : Option Addr) (c' : Nat), j ≤ T.length ∧ i = .int .i64 j ∧ v = .slice A' M.length c' ∧ M.length ≤ j ∧ Hid (M.Perm (((T.take j).map ofPl).filter fun c => goodChange n c)) ∧ Hid (Owned strE 1 9 wr w1.heap.size A' M.length c' M) ∧ Below w1.heap.size w1 wr) (fun _ i _ => T.length - (intOf i).toNat)
  case atStart => exact ⟨0, [], none, 0, Nat.zero_le _, rfl, rfl, Nat.le_refl _, Lib.hid (by simp), Lib.hid (Owned.nil strE_len _ _ _), Below.refl _ _⟩
  case round =>
    obtain ⟨j, M, A', c', hj, rfl, rfl, hm, HP, HO, hb⟩ := hrel
    rename World => wo
    by_cases hlt : j < T.length
    · obtain ⟨b3, o3, v, r, rfl, hbb, hr, hv, hc, ho⟩ := (L1.up hb).at_ hlt
      have hrr := HR.out r (List.mem_of_getElem? hr)
      have hrb : ∀ x ∈ r, 0 ≤ x ∧ x ≤ 9 := fun x hx => by have := hrr.2 x hx; omega
      have hrl : r.length ≤ 8 := by omega
      have hsz := hb.size
      have hos := ofPl_size hrl
      have HRr := Lib.hid hr
      clear hr hv hrr
      go_wp2_with fail
      refine (spec_l2Of rfl ho.recs hrl hrb).mono ?_; rintro e w2 ⟨rfl, hb2⟩
      obtain ⟨s, hs⟩ : ∃ s, s = ofPl r := ⟨_, rfl⟩
      rw [← hs] at hos ⊢
      have HS := Lib.hid hs
      clear hs ho hc hrb
      go_wp2_with fail
      refine (spec_l2Change (by omega) (by unfold I64; omega)).mono ?_; rintro e w' ⟨rfl, rfl⟩
      have hbt := hb.trans (hb2.mono hsz)
      have hsz2 := hb2.size
      rcases hg : goodChange n s
      · have e1 := Lib.hid (filt_miss (f := fun c => goodChange n c) (g := ofPl) HRr.out (by rw [← HS.out]; exact hg))
        go_wp2
        go_roundw
        case rel => exact ⟨j + 1, M, A', c', by omega, by go_num, rfl, by omega, Lib.hid (by rw [e1.out]; exact HP.out), Lib.hid (HO.out.up hb2), hbt⟩
        case measure => simp [intOf]; omega
      · have e1 := Lib.hid (filt_hit (f := fun c => goodChange n c) (g := ofPl) HRr.out (by rw [← HS.out]; exact hg))
        have HO2 := Lib.hid (HO.out.up hb2)
        go_wp2_with (first | (at_builtin; go_must ((refine wpList_append_rec Tryz.elStr rfl (.tmp 23) (.tmp 25) rfl rfl (HO2.out.alloc _) s rfl (Box.at_ _ [.string s] _ ?_) (strE_one _) ?_ (by decide) ?_ ?_; (focus (first | omega | (simp only [World.size_alloc]; done) | (simp only [World.size_alloc]; omega) | (simp; done) | (simp; omega))); (focus (first | omega | (simp only [World.size_alloc]; done) | (simp only [World.size_alloc]; omega) | (simp; done) | (simp; omega))); (focus (first | omega | (simp only [World.size_alloc]; done) | (simp only [World.size_alloc]; omega) | (simp; done) | (simp; omega))); intro A3 c3 w3 ho3 hg3 hb3))))
        have hb3' : Below w1.heap.size w1 w3 := (hbt.alloc (by omega) _).trans hb3
        have h0 : Hid (Owned strE 1 9 w3 w1.heap.size A3 (M.length + 1) c3 (M.take M.length ++ s :: M.drop M.length)) := Lib.hid (by rw [List.take_of_length_le (Nat.le_refl _), List.drop_length]; exact ho3)
        clear ho3 hg3
        go_loopw [7] (fun k wr => ∃ (q : Nat) (y : ByteArray), q ≤ M.length ∧ k = .int .i64 q ∧ Hid (Owned strE 1 9 wr w1.heap.size A3 (M.length + 1) c3 (M.take q ++ y :: M.drop q)) ∧ Below w1.heap.size w1 wr) (fun k _ => (intOf k).toNat)
        case atStart => exact ⟨M.length, s, Nat.le_refl _, rfl, h0, hb3'⟩
        case round =>
          obtain ⟨q, y, hq, rfl, HQ, hbq⟩ := hrel
          obtain ⟨g, rfl, _, lg, hcell, hfz⟩ := HQ.out.at_ (by omega)
          have cy := hcell q y 0 _ (ins_at hq) rfl
          have fq := hfz q
          have pt := Lib.hid (HQ.out.put (j := 0) (x := s) (u := .string s) (ins_at hq) (by decide) rfl)
          simp only [Nat.mul_one, Nat.add_zero] at cy
          have PT : Hid (Owned strE 1 9 (wr.setCell ⟨g, q, none⟩ (.string s)) w1.heap.size (some ⟨g, 0, none⟩) (M.length + 1) c3 (M.take q ++ s :: M.drop q)) := Lib.hid (by have h := pt.out.1; simp only [Nat.mul_one, Nat.add_zero] at h; rw [ins_set hq] at h; exact h)
          have PB : Below w1.heap.size w1 (wr.setCell ⟨g, q, none⟩ (.string s)) := hbq.setCell (HQ.out.at_own).1 _
          have il := Lib.hid (ins_len (y := s) hq)
          have EP : Hid ((M.take q ++ s :: M.drop q).Perm (((T.take (j + 1)).map ofPl).filter fun c => goodChange n c)) := Lib.hid (by rw [e1.out, ← HS.out]; exact ins_perm.trans (HP.out.append_right [s]))
          rcases q with _ | q
          · clear hcell hfz pt
            go_wp2
            go_roundw
            case rel => exact ⟨j + 1, M.take 0 ++ s :: M.drop 0, _, c3, by omega, by go_num, by rw [il.out], by rw [il.out]; omega, EP, by rw [il.out]; exact PT, PB⟩
            case measure => simp [intOf]; omega
          · obtain ⟨z, hz⟩ := some_of_lt (l := M) (k := q) (by omega)
            have cz := hcell q z 0 _ ((ins_before (by omega)).trans hz) rfl
            simp only [Nat.mul_one, Nat.add_zero] at cz
            have HZ := Lib.hid (ins_down (y := y) hz)
            clear hcell hfz pt hz
            rcases hgt : less s z
            · obtain ⟨l1, l2⟩ := less_no hgt
              rcases l2 with l2 | ⟨l2, l3⟩
              all_goals
                go_wp2
                go_roundw
                case rel => exact ⟨j + 1, M.take (q + 1) ++ s :: M.drop (q + 1), _, c3, by omega, by go_num, by rw [il.out], by rw [il.out]; omega, EP, by rw [il.out]; exact PT, PB⟩
                case measure => simp [intOf]; omega
            · obtain ⟨l1, l2, l3⟩ := less_yes hgt
              have PZ := Lib.hid (HQ.out.put (j := 0) (x := z) (u := .string z) (ins_at hq) (by decide) rfl)
              have PZ2 : Hid (Owned strE 1 9 (wr.setCell ⟨g, q + 1, none⟩ (.string z)) w1.heap.size (some ⟨g, 0, none⟩) (M.length + 1) c3 (M.take q ++ z :: M.drop q)) := Lib.hid (by have h := PZ.out.1; simp only [Nat.mul_one, Nat.add_zero] at h; rw [HZ.out] at h; exact h)
              have PZ3 : Below w1.heap.size w1 (wr.setCell ⟨g, q + 1, none⟩ (.string z)) := hbq.setCell (HQ.out.at_own).1 _
              clear PZ
              go_wp2
              go_roundw
              case rel => exact ⟨q, z, by omega, rfl, PZ2, PZ3⟩
              case measure => simp [intOf]
    · obtain rfl : j = T.length := by omega
      go_wp2
      go_ret
      have h := HP.out
      rw [List.take_of_length_le (Nat.le_refl _), ← HC.out] at h
      exact ⟨_, _, M, rfl, HO.out.base_le hb1.size, h, below_go hb1 hb⟩
end Go.Proofs.YtidolgonmimicaaGreat
/- The walks through rows under changes, both sides. -/
namespace Go.Proofs.YtidolgonmimicaaGreat
set_option linter.unusedVariables false
set_option linter.unusedSimpArgs false
open Go.ChangeShapes Go.WideShapes Go.ChangeAt Go.RowKit Go.Deep
theorem impl_apply {a c : ByteArray} {w : World} (ha : a.size ≤ 8) (hz : c.size ≤ 16777216) (hg : isDash c = true ∨ validD c = true) :
    Calls Tryz.prog 226 #[.string a, .string c] w fun e w' => e = .returned (.string (applyR a c)) ∧ Below w.heap.size w w' := by
  have ha2 : a.size ≤ 16777216 := by omega
  have hcs : (chRow a.size c).size ≤ 16777216 := by rw [chRow_size]; omega
  have hft := chRow_fits ha c
  go_in
  go_wp2_with (first | (go_at_call 252; refine (impl_changeRow hz ha hg).mono ?_; rintro e w1 ⟨rfl, hb1⟩) | (go_at_call 123; refine (impl_times ha2 hcs hft).mono ?_; rintro e w2 ⟨rfl, hb2⟩))
  go_ret
  exact ⟨rfl, below_go hb1 hb2⟩
theorem spec_l2Apply {a c : ByteArray} {w : World} (ha : a.size ≤ 8) (hz : c.size ≤ 16777216) :
    Calls Tryz.prog 227 #[.string a, .string c] w fun e w' => e = .returned (.string (applyR a c)) ∧ Below w.heap.size w w' := by
  have ha2 : a.size ≤ 16777216 := by omega
  have hcs : (chRow a.size c).size ≤ 16777216 := by rw [chRow_size]; omega
  have hft := chRow_fits ha c
  go_in
  go_wp2_with (first | (go_at_call 253; refine (spec_l2Row hz ha).mono ?_; rintro e w1 ⟨rfl, hb1⟩) | (go_at_call 118; refine (spec_l1Times ha2 hcs hft).mono ?_; rintro e w2 ⟨rfl, rfl⟩))
  go_ret
  exact ⟨rfl, hb1⟩
set_option maxRecDepth 100000 in
theorem impl_rowsUnder {A : Option Addr} {N c : Nat} {a : ByteArray} {l : List ByteArray} {w : World} (ha : a.size ≤ 8) (hN : l.length = N) (h : Strs w A l) (hz : N ≤ 16000000) (hs : ∀ s ∈ l, s.size ≤ 16777216) (hg : ∀ s ∈ l, isDash s = true ∨ validD s = true) :
    Calls Tryz.prog 191 #[.string a, .slice A N c] w fun e w' => ∃ A' c', e = .returned (.slice A' (N + 1) c') ∧
      Owned strE 1 9 w' w.heap.size A' (N + 1) c' (rowsL a l (N + 1)) ∧ Below w.heap.size w w' := by
  subst hN
  have HS := Lib.hid hs
  have HGd := Lib.hid hg
  have h1 : Hid (Owned strE 1 9 (w.alloc (.cells #[.string a] 9)) w.heap.size (some ⟨w.heap.size, 0, none⟩) 1 1 (rowsL a l 1)) := Lib.hid ⟨strE_len, by simp [rowsL], by simpa [rowsL, rAt, strE] using World.ownsRow_lit (e := 9) (base := w.heap.size) (size := 1) w #[.string a] 1 (Nat.le_refl _) (by decide) (by simp)⟩
  clear hs hg
  go_in
  go_wp2
  go_loopw [0, 5, 12] (fun r v i wr => ∃ (k : Nat) (A' : Option Addr) (m c' : Nat), k ≤ l.length ∧ i = .int .i64 k ∧ r = .string (rAt a l k) ∧ v = .slice A' m c' ∧ m = k + 1 ∧ Owned strE 1 9 wr w.heap.size A' m c' (rowsL a l (k + 1)) ∧ Below w.heap.size w wr) (fun _ _ i _ => l.length - (intOf i).toNat)
  case atStart => exact ⟨0, _, _, _, Nat.zero_le _, rfl, rfl, rfl, rfl, h1.out, by (repeat' (first | (with_reducible exact Below.refl _ _) | (with_reducible assumption) | (with_reducible refine below_drewN ?_ _) | (with_reducible refine Below.drew ?_) | (with_reducible refine below_alloc ?_ _) | (with_reducible refine Below.alloc ?_ ?_ _) | (with_reducible refine Below.setCell ?_ ?_ _) | (with_reducible refine below_go ?_ (by with_reducible assumption)) | (with_reducible refine below_then (by with_reducible assumption) ?_ ?_) | go_size))⟩
  case round =>
    obtain ⟨k, A', m, c', hk, rfl, rfl, rfl, rfl, ho, hb⟩ := hrel
    have HO := Lib.hid ho
    have hsz := hb.size
    clear ho
    by_cases hlt : k < l.length
    · obtain ⟨b1, o1, y, rfl, hbb, hy, hcy⟩ := (h.below hb (Nat.le_refl _)).at_str hlt
      have hys := HS.out y (List.mem_of_getElem? hy)
      have hgy := HGd.out y (List.mem_of_getElem? hy)
      have hra : (rAt a l k).size ≤ 8 := by rw [rAt_size]; exact ha
      have E := Lib.hid (rAt_succ (a := a) hy)
      have HT := Lib.hid (rowsL_succ a l (k + 1))
      clear hy
      go_wp2_with (first | (go_at_call 226; refine (impl_apply hra hys hgy).mono ?_; rw [← E.out]; rintro e w1 ⟨rfl, hb1⟩; have HO1 := Lib.hid (HO.out.up hb1); have hsz1 := hb1.size) | (at_builtin; go_must ((refine wpList_append_rec Tryz.elStr rfl (.tmp 19) (.tmp 21) rfl rfl (HO1.out.alloc _) (rAt a l (k + 1)) rfl (Box.at_ _ [.string (rAt a l (k + 1))] _ ?_) (strE_one _) ?_ (by decide) ?_ ?_; (focus (first | omega | (simp only [World.size_alloc]; done) | (simp only [World.size_alloc]; omega) | (simp; done) | (simp; omega))); (focus (first | omega | (simp only [World.size_alloc]; done) | (simp only [World.size_alloc]; omega) | (simp; done) | (simp; omega))); (focus (first | omega | (simp only [World.size_alloc]; done) | (simp only [World.size_alloc]; omega) | (simp; done) | (simp; omega))); intro A2 c2 w2 ho2 hg2 hb2))))
      go_roundw
      case rel => exact ⟨k + 1, A2, k + 1 + 1, c2, by omega, by go_num, rfl, by go_num, rfl, by rw [HT.out]; exact ho2, ((hb.trans (hb1.mono hsz)).alloc (by omega) _).trans hb2⟩
      case measure => simp [intOf]; omega
    · obtain rfl : k = l.length := by omega
      go_wp2
      go_ret
      exact ⟨_, _, rfl, HO.out, hb⟩
set_option maxRecDepth 100000 in
theorem spec_l4Lead {A : Option Addr} {N c : Nat} {a : ByteArray} {l : List ByteArray} {w : World} (ha : a.size ≤ 8) (hN : l.length = N) (h : Strs w A l) (hz : N ≤ 16000000) (hs : ∀ s ∈ l, s.size ≤ 16777216) :
    Calls Tryz.prog 192 #[.slice A N c, .string a] w fun e w' => ∃ A' c', e = .returned (.tuple #[.slice A' N c', .string (rAt a l N)]) ∧
      Owned strE 1 9 w' w.heap.size A' N c' (rowsL a l N) ∧ Below w.heap.size w w' := by
  subst hN
  have HS := Lib.hid hs
  clear hs
  go_in
  go_wp2
  go_loopw [6, 7, 13] (fun v r i wr => ∃ (k : Nat) (A' : Option Addr) (m c' : Nat), k ≤ l.length ∧ i = .int .i64 k ∧ r = .string (rAt a l k) ∧ v = .slice A' m c' ∧ m = k ∧ Owned strE 1 9 wr w.heap.size A' m c' (rowsL a l k) ∧ Below w.heap.size w wr) (fun _ _ i _ => l.length - (intOf i).toNat)
  case atStart => exact ⟨0, none, 0, 0, Nat.zero_le _, rfl, rfl, rfl, rfl, Owned.nil strE_len _ _ _, Below.refl _ _⟩
  case round =>
    obtain ⟨k, A', m, c', hk, rfl, rfl, rfl, rfl, ho, hb⟩ := hrel
    have HO := Lib.hid ho
    have hsz := hb.size
    clear ho
    by_cases hlt : m < l.length
    · obtain ⟨b1, o1, y, rfl, hbb, hy, hcy⟩ := (h.below hb (Nat.le_refl _)).at_str hlt
      have hys := HS.out y (List.mem_of_getElem? hy)
      have hra : (rAt a l m).size ≤ 8 := by rw [rAt_size]; exact ha
      have E := Lib.hid (rAt_succ (a := a) hy)
      have HT := Lib.hid (rowsL_succ a l m)
      clear hy
      go_wp2_with (first | (go_at_call 227; refine (spec_l2Apply hra hys).mono ?_; rw [← E.out]; rintro e w3 ⟨rfl, hb3⟩) | (at_builtin; go_must ((refine wpList_append_rec Tryz.elStr rfl (.tmp 17) (.tmp 19) rfl rfl (HO.out.alloc _) (rAt a l m) rfl (Box.at_ _ [.string (rAt a l m)] _ ?_) (strE_one _) ?_ (by decide) ?_ ?_; (focus (first | omega | (simp only [World.size_alloc]; done) | (simp only [World.size_alloc]; omega) | (simp; done) | (simp; omega))); (focus (first | omega | (simp only [World.size_alloc]; done) | (simp only [World.size_alloc]; omega) | (simp; done) | (simp; omega))); (focus (first | omega | (simp only [World.size_alloc]; done) | (simp only [World.size_alloc]; omega) | (simp; done) | (simp; omega))); intro A2 c2 w2 ho2 hg2 hb2; have hsz2 := hb2.size))))
      go_roundw
      case rel => exact ⟨m + 1, A2, m + 1, c2, by omega, by go_num, rfl, by go_num, rfl, by rw [HT.out]; exact ho2.up hb3, below_go ((hb.alloc hsz _).trans hb2) hb3⟩
      case measure => simp [intOf]; omega
    · obtain rfl : m = l.length := by omega
      go_wp2
      go_ret2
      exact ⟨_, _, rfl, HO.out, hb⟩
end Go.Proofs.YtidolgonmimicaaGreat
/- The walks through rows: good rows, even rows. -/
namespace Go.Proofs.YtidolgonmimicaaGreat
set_option linter.unusedVariables false
set_option linter.unusedSimpArgs false
open Go.ChangeShapes Go.WideShapes Go.ChangeAt Go.RowKit Go.Deep
set_option maxRecDepth 100000 in
theorem spec_l1Row {s : ByteArray} {w : World} (hz : s.size ≤ 16777216) :
    Calls Tryz.prog 113 #[.string s] w fun e w' => e = .returned (.bool (goodRow s)) ∧ Below w.heap.size w w' := by
  have hb := PlainAid.get_bt s
  rcases h1 : inB s.size 3 8
  · have e0 := Lib.hid (goodRow_stage h1)
    go_in
    go_wp2_with (first | (go_at_call 81; refine (spec_l1In _ _ _ _).mono ?_; rintro e w' ⟨rfl, rfl⟩))
    go_ret
    exact ⟨ret_bool e0.out.symm, Below.refl _ _⟩
  have hs8 := inB_t h1
  have HG := Lib.hid (goodRow_all h1)
  have HO : Hid (∀ i, okDig s i = (inB (dg s i) 1 s.size && (List.range i).all (fresh s i))) := Lib.hid (fun _ => rfl)
  go_in
  go_wp2_with (first | (go_at_call 81; refine (spec_l1In _ _ _ _).mono ?_; rintro e w' ⟨rfl, rfl⟩))
  go_loopw [3] (fun i wr => ∃ k : Nat, k ≤ s.size ∧ i = .int .i64 k ∧ Hid (∀ j, j < k → okDig s j = true) ∧ Below w.heap.size w wr) (fun i _ => s.size - (intOf i).toNat)
  case atStart => exact ⟨0, Nat.zero_le _, rfl, Lib.hid (fun j hj => absurd hj (by omega)), Below.refl _ _⟩
  case round =>
    obtain ⟨i, hi, rfl, HK, hbl⟩ := hrel
    by_cases hlt : i < s.size
    · have hn0 := PlainAid.bt_nonneg s i
      have hn1 := PlainAid.bt_le s i
      have hdg : PlainAid.bt s i - 48 = dg s i := rfl
      have EO := Lib.hid (HO.out i)
      by_cases hlo : PlainAid.bt s i < 49
      · have e0 := Lib.hid (show okDig s i = false by rw [EO.out, show inB (dg s i) 1 s.size = false by rw [inB, decide_eq_false_iff_not, ← hdg]; omega]; rfl)
        go_wp2
        go_ret
        refine ⟨ret_bool ?_, hbl⟩
        rw [HG.out, all_no hlt e0.out]
      by_cases hhi : (s.size : Int) < dg s i
      · have e0 := Lib.hid (show okDig s i = false by rw [EO.out, show inB (dg s i) 1 s.size = false by rw [inB, decide_eq_false_iff_not]; omega]; rfl)
        go_wp2
        go_ret
        refine ⟨ret_bool ?_, hbl⟩
        rw [HG.out, all_no hlt e0.out]
      have e1 := Lib.hid (show okDig s i = (List.range i).all (fresh s i) by rw [EO.out, show inB (dg s i) 1 s.size = true by rw [inB, decide_eq_true_iff, ← hdg]; omega]; rfl)
      have HF : Hid (∀ k, fresh s i k = !(PlainAid.bt s k == PlainAid.bt s i)) := Lib.hid (fun k => by
        rw [fresh, Bool.eq_iff_iff]
        simp [dg])
      go_wp2
      go_loopw [4] (fun x wr => ∃ k : Nat, k ≤ i ∧ x = .int .i64 k ∧ Hid (∀ j, j < k → fresh s i j = true) ∧ Below w.heap.size w wr) (fun x _ => i - (intOf x).toNat)
      case atStart => exact ⟨0, Nat.zero_le _, rfl, Lib.hid (fun j hj => absurd hj (by omega)), hbl⟩
      case round =>
        obtain ⟨k, hk, rfl, HJ, hb2⟩ := hrel
        by_cases hlt2 : k < i
        · have hks : k < s.size := by omega
          have EF := Lib.hid (HF.out k)
          rcases hc : (PlainAid.bt s k == PlainAid.bt s i)
          · have e2 := Lib.hid (show fresh s i k = true by rw [EF.out, hc]; rfl)
            go_wp2
            go_quiet (fail)
            go_wp2
            go_roundw
            case rel => exact ⟨k + 1, by omega, by go_num, Lib.hid (upto_succ HJ.out e2.out), by (repeat' (first | (with_reducible exact Below.refl _ _) | (with_reducible assumption) | (with_reducible refine below_drewN ?_ _) | (with_reducible refine Below.drew ?_) | (with_reducible refine below_alloc ?_ _) | (with_reducible refine Below.alloc ?_ ?_ _) | (with_reducible refine Below.setCell ?_ ?_ _) | (with_reducible refine below_go ?_ (by with_reducible assumption)) | (with_reducible refine below_then (by with_reducible assumption) ?_ ?_) | go_size))⟩
            case measure => simp [intOf]; omega
          · have e2 := Lib.hid (show fresh s i k = false by rw [EF.out, hc]; rfl)
            go_wp2
            go_quiet (fail)
            go_wp2
            go_ret
            refine ⟨ret_bool ?_, by (repeat' (first | (with_reducible exact Below.refl _ _) | (with_reducible assumption) | (with_reducible refine below_drewN ?_ _) | (with_reducible refine Below.drew ?_) | (with_reducible refine below_alloc ?_ _) | (with_reducible refine Below.alloc ?_ ?_ _) | (with_reducible refine Below.setCell ?_ ?_ _) | (with_reducible refine below_go ?_ (by with_reducible assumption)) | (with_reducible refine below_then (by with_reducible assumption) ?_ ?_) | go_size))⟩
            rw [HG.out, all_no hlt (by rw [e1.out, all_no hlt2 e2.out])]
        · obtain rfl : k = i := by omega
          have e3 := Lib.hid (show okDig s k = true by rw [e1.out, all_yes (fun j hj => HJ.out j hj)])
          go_wp2
          go_roundw
          case rel => exact ⟨k + 1, by omega, by go_num, Lib.hid (upto_succ HK.out e3.out), hb2⟩
          case measure => simp [intOf]; omega
    · obtain rfl : i = s.size := by omega
      go_wp2
      go_ret
      refine ⟨ret_bool ?_, hbl⟩
      rw [HG.out, all_yes (fun j hj => HK.out j hj)]
end Go.Proofs.YtidolgonmimicaaGreat
/- GoodRow of the program: the bits. -/
namespace Go.Proofs.YtidolgonmimicaaGreat
set_option linter.unusedVariables false
set_option linter.unusedSimpArgs false
open Go.ChangeShapes Go.WideShapes Go.ChangeAt Go.RowKit Go.Deep
set_option maxRecDepth 100000 in
theorem impl_GoodRow {s : ByteArray} {w : World} (hz : s.size ≤ 16777216) :
    Calls Tryz.prog 189 #[.string s] w fun e w' => e = .returned (.bool (goodRow s)) ∧ w = w' := by
  have hb := PlainAid.get_bt s
  rcases h1 : inB s.size 3 8
  · have e0 := Lib.hid (goodRow_stage h1)
    go_in
    go_wp2_with (first | (go_at_call 225; refine (impl_isStage _ _).mono ?_; rintro e w' ⟨rfl, rfl⟩))
    go_ret
    exact ⟨ret_bool e0.out.symm, rfl⟩
  have hs8 := inB_t h1
  have HG := Lib.hid (goodRow_all h1)
  have HO : Hid (∀ i, okDig s i = (inB (dg s i) 1 s.size && (List.range i).all (fresh s i))) := Lib.hid (fun _ => rfl)
  go_in
  go_wp2_with (first | (go_at_call 225; refine (impl_isStage _ _).mono ?_; rintro e w' ⟨rfl, rfl⟩))
  go_loopw [3, 12] (fun v i wr => ∃ k : Nat, k ≤ s.size ∧ i = .int .i64 k ∧ v = .int .i64 (mask s k) ∧ mask s k < 256 ∧ Hid (∀ j, j < k → okDig s j = true) ∧ w = wr) (fun _ i _ => s.size - (intOf i).toNat)
  case atStart => exact ⟨0, Nat.zero_le _, rfl, rfl, by rw [mask_0]; decide, Lib.hid (fun j hj => absurd hj (by omega)), rfl⟩
  case round =>
    obtain ⟨i, hi, rfl, rfl, hm, HK, rfl⟩ := hrel
    by_cases hlt : i < s.size
    · have hn0 := PlainAid.bt_nonneg s i
      have hn1 := PlainAid.bt_le s i
      have hw := wrap_bt s i
      have hdg : dg s i = PlainAid.bt s i - 48 := rfl
      have EO := Lib.hid (HO.out i)
      by_cases hlo : PlainAid.bt s i < 49
      · have e0 := Lib.hid (show okDig s i = false by rw [EO.out, show inB (dg s i) 1 s.size = false by rw [inB, decide_eq_false_iff_not]; omega]; rfl)
        go_wp2
        go_ret
        refine ⟨ret_bool ?_, rfl⟩
        rw [HG.out, all_no hlt e0.out]
      by_cases hhi : (s.size : Int) ≤ PlainAid.bt s i - 49
      · have e0 := Lib.hid (show okDig s i = false by rw [EO.out, show inB (dg s i) 1 s.size = false by rw [inB, decide_eq_false_iff_not]; omega]; rfl)
        go_wp2
        go_ret
        refine ⟨ret_bool ?_, rfl⟩
        rw [HG.out, all_no hlt e0.out]
      have hB8 : (PlainAid.bt s i - 49).toNat < 8 := by omega
      have hBd : (PlainAid.bt s i - 49).toNat = (dg s i - 1).toNat := by omega
      have hA := bits_and _ hm _ hB8
      have hOr := (bits_or _ hm _ hB8).1
      have hOr8 := (bits_or _ hm _ hB8).2
      have hmk : (mask s i ||| (1 <<< (PlainAid.bt s i - 49).toNat)) = mask s (i + 1) := by rw [hBd]; rfl
      rw [hmk] at hOr hOr8
      have e1 := Lib.hid (show okDig s i = !(mask s i).testBit (PlainAid.bt s i - 49).toNat by
        rw [EO.out, show inB (dg s i) 1 s.size = true by (rw [inB, decide_eq_true_iff]; omega), hBd, mask_bit i (fun j hj => by
          have := HK.out j hj
          rw [HO.out, Bool.and_eq_true] at this
          exact (inB_t this.1).1) (by omega), Bool.not_not]
        rfl)
      clear hmk hBd hdg
      rcases hbit : (mask s i).testBit (PlainAid.bt s i - 49).toNat
      · rw [hbit] at hA
        have e2 := Lib.hid (show okDig s i = true by rw [e1.out, hbit]; rfl)
        clear hbit
        go_wp2
        go_roundw
        case rel => exact ⟨i + 1, by omega, by go_num, rfl, hOr8, Lib.hid (upto_succ HK.out e2.out), trivial⟩
        case measure => simp [intOf]; omega
      · rw [hbit] at hA
        have e2 := Lib.hid (show okDig s i = false by rw [e1.out, hbit]; rfl)
        clear hbit
        go_wp2
        go_ret
        refine ⟨ret_bool ?_, rfl⟩
        rw [HG.out, all_no hlt e2.out]
    · obtain rfl : i = s.size := by omega
      go_wp2
      go_ret
      refine ⟨ret_bool ?_, rfl⟩
      rw [HG.out, all_yes (fun j hj => HK.out j hj)]
end Go.Proofs.YtidolgonmimicaaGreat
/- The walks through the change between two rows, both sides. -/
namespace Go.Proofs.YtidolgonmimicaaGreat
set_option linter.unusedVariables false
set_option linter.unusedSimpArgs false
open Go.ChangeShapes Go.WideShapes Go.ChangeAt Go.RowKit Go.Deep
theorem chs_len {n : Nat} (h : n ≤ 8) : (chsRaw n).length ≤ 34 := by
  rw [chsRaw]
  exact Nat.le_trans (List.length_filter_le _ _) (by rw [List.length_map]; exact fromK_le h 1)
theorem btw_eq {a b : ByteArray} {k i : Nat} {sw : Bool} (h : PlainAid.bt a i = PlainAid.bt b i) : btwK a b (k + 1) i sw = btwK a b k (i + 1) sw := by
  rcases k with _ | k
  · show (if PlainAid.bt a i = PlainAid.bt b i then sw else false) = sw
    exact if_pos h
  · rw [btwK, if_pos h]
theorem btw_no1 {a b : ByteArray} {i : Nat} {sw : Bool} (h : ¬ PlainAid.bt a i = PlainAid.bt b i) : btwK a b 1 i sw = false := by rw [btwK, if_neg h]
theorem btw_swap {a b : ByteArray} {k i : Nat} {sw : Bool} (h : ¬ PlainAid.bt a i = PlainAid.bt b i) (h1 : PlainAid.bt a i = PlainAid.bt b (i + 1)) (h2 : PlainAid.bt a (i + 1) = PlainAid.bt b i) : btwK a b (k + 2) i sw = btwK a b k (i + 2) true := by
  rw [btwK, if_neg h, if_pos ⟨h1, h2⟩]
theorem btw_no {a b : ByteArray} {k i : Nat} {sw : Bool} (h : ¬ PlainAid.bt a i = PlainAid.bt b i) (h1 : ¬ (PlainAid.bt a i = PlainAid.bt b (i + 1) ∧ PlainAid.bt a (i + 1) = PlainAid.bt b i)) : btwK a b (k + 2) i sw = false := by
  rw [btwK, if_neg h, if_neg h1]
theorem spec_l1Two {a b : ByteArray} {w : World} (ha : goodRow a = true) (hb : goodRow b = true) (e : a.size = b.size) :
    Calls Tryz.prog 128 #[.string a, .string b] w fun e w' => e = .returned (.bool true) ∧ Below w.heap.size w w' := by
  have h1 := goodRow_n ha; have h2 := goodRow_n hb
  have e1 : ((a.size : Int) == (b.size : Int)) = true := beq_iff_eq.2 (by omega)
  have HA := Lib.hid ha; have HB := Lib.hid hb
  clear ha hb e
  go_in
  go_wp2_with fail
  refine (spec_l1Row (by omega)).mono ?_; rw [HA.out]; rintro e w1 ⟨rfl, hb1⟩
  go_wp2_with fail
  refine (spec_l1Row (by omega)).mono ?_; rw [HB.out]; rintro e w2 ⟨rfl, hb2⟩
  go_wp2
  go_ret
  exact ⟨rfl, below_go hb1 hb2⟩
end Go.Proofs.YtidolgonmimicaaGreat
/- The walks through lists of rows: which are good, their signs. -/
namespace Go.Proofs.YtidolgonmimicaaGreat
set_option linter.unusedVariables false
set_option linter.unusedSimpArgs false
open Go.ChangeShapes Go.WideShapes Go.ChangeAt Go.RowKit Go.Deep
theorem impl_isRowOf {s : ByteArray} {n : Nat} {w : World} (hz : s.size ≤ 16777216) :
    Calls Tryz.prog 99 #[.int .i64 n, .string s] w fun e w' => e = .returned (.bool (goodRow s && (s.size == n))) ∧ w = w' := by
  by_cases h1 : s.size = n
  · have h2 : ((s.size : Int) == (n : Int)) = true := beq_iff_eq.2 (by omega)
    have e0 := Lib.hid (show (goodRow s && (s.size == n)) = goodRow s by rw [show (s.size == n) = true from beq_iff_eq.2 h1, Bool.and_true])
    clear h1
    go_in
    go_wp2_with (first | (go_at_call 189; refine (impl_GoodRow hz).mono ?_; rintro e w' ⟨rfl, rfl⟩))
    go_ret
    exact ⟨ret_bool e0.out.symm, rfl⟩
  · have h2 : ((s.size : Int) == (n : Int)) = false := beq_eq_false_iff_ne.2 (by omega)
    have e0 := Lib.hid (show (goodRow s && (s.size == n)) = false by rw [show (s.size == n) = false from beq_eq_false_iff_ne.2 h1, Bool.and_false])
    clear h1
    go_in
    go_wp2
    go_ret
    exact ⟨ret_bool e0.out.symm, rfl⟩
set_option maxRecDepth 100000 in
theorem spec_l6Rows {A : Option Addr} {N c : Nat} {l : List ByteArray} {w : World} (hN : l.length = N) (h : Strs w A l) (hz : N ≤ 16777216) (hs : ∀ s ∈ l, s.size ≤ 16777216) :
    Calls Tryz.prog 144 #[.slice A N c] w fun e w' => e = .returned (.bool (goodRows l)) ∧ Below w.heap.size w w' := by
  subst hN
  have HG : Hid (goodRows l = ((List.range l.length).all (okRow l) && decide (l.length ≤ 800))) := Lib.hid rfl
  have HS := Lib.hid hs
  clear hs
  go_in
  go_wp2
  go_loopw [7] (fun i wr => ∃ k : Nat, k ≤ l.length ∧ i = .int .i64 k ∧ Hid (∀ j, j < k → okRow l j = true) ∧ Below w.heap.size w wr) (fun i _ => l.length - (intOf i).toNat)
  case atStart => exact ⟨0, Nat.zero_le _, rfl, Lib.hid (fun j hj => absurd hj (by omega)), Below.refl _ _⟩
  case round =>
    obtain ⟨k, hk, rfl, HK, hb⟩ := hrel
    by_cases hlt : k < l.length
    · have hr := h.below hb (Nat.le_refl _)
      obtain ⟨b1, o1, y, rfl, hbb, hy, hcy⟩ := hr.at_str hlt
      obtain ⟨b2, o2, x, e, _, hx, hcx0⟩ := hr.at_str (k := 0) (by omega)
      injection e with e
      injection e with e1 e2
      subst e1 e2
      simp only [Nat.add_zero] at hcx0
      have hys := HS.out y (List.mem_of_getElem? hy)
      have hxs := HS.out x (List.mem_of_getElem? hx)
      have E := Lib.hid (okRow_at hx hy)
      have hl0 : 0 < l.length := by omega
      clear hx hy h hr
      rcases hg : goodRow y
      · have e0 := Lib.hid (show okRow l k = false by rw [E.out, hg]; rfl)
        go_wp2_with (first | (go_at_call 113; refine (spec_l1Row hys).mono ?_; rintro e w1 ⟨rfl, hb1⟩))
        go_ret
        refine ⟨ret_bool ?_, below_go hb hb1⟩
        rw [HG.out, all_bad hlt e0.out]
      · rcases hq : (y.size == x.size)
        · have e0 := Lib.hid (show okRow l k = false by rw [E.out, hg, hq]; rfl)
          have hq1 : ((y.size : Int) != (x.size : Int)) = true := by
            have := beq_eq_false_iff_ne.1 hq
            exact bne_iff_ne.2 (by omega)
          clear hq
          go_wp2_with (first | (go_at_call 113; refine (spec_l1Row hys).mono ?_; rintro e w1 ⟨rfl, hb1⟩; have hcx := (hb1.cell (p := ⟨b1, o1, none⟩) hbb).trans hcx0))
          go_ret
          refine ⟨ret_bool ?_, below_go hb hb1⟩
          rw [HG.out, all_bad hlt e0.out]
        · have e0 := Lib.hid (show okRow l k = true by rw [E.out, hg, hq]; rfl)
          have hq1 : ((y.size : Int) != (x.size : Int)) = false := by
            have := beq_iff_eq.1 hq
            rw [bne_eq_false_iff_eq]; omega
          clear hq
          go_wp2_with (first | (go_at_call 113; refine (spec_l1Row hys).mono ?_; rintro e w1 ⟨rfl, hb1⟩; have hcx := (hb1.cell (p := ⟨b1, o1, none⟩) hbb).trans hcx0))
          go_roundw
          case rel => exact ⟨k + 1, by omega, by go_num, Lib.hid (upto_succ HK.out e0.out), below_go hb hb1⟩
          case measure => simp [intOf]; omega
    · obtain rfl : k = l.length := by omega
      go_wp2
      go_ret
      refine ⟨ret_bool ?_, hb⟩
      rw [HG.out, all_good (fun j hj => HK.out j hj)]
      exact decide_eq_decide.2 (by omega)
end Go.Proofs.YtidolgonmimicaaGreat
/- The walks through lists of changes between rows, truth by sorting, factorials, and extents. -/
namespace Go.Proofs.YtidolgonmimicaaGreat
set_option linter.unusedVariables false
set_option linter.unusedSimpArgs false
open Go.ChangeShapes Go.WideShapes Go.ChangeAt Go.RowKit Go.Deep
theorem fact_le : ∀ k, k < 9 → fact k ≤ 40320 := of_decide_eq_true (by kernel_rfl)
theorem fact_one {n : Nat} (h : n ≤ 1) : fact n = 1 := by
  rcases n with _ | _ | n
  · rfl
  · rfl
  · omega
theorem spec_l1Fact {n : Nat} {w : World} (hn : n ≤ 8) :
    Calls Tryz.prog 185 #[.int .i64 n] w fun e w' => e = .returned (.int .i64 (fact n)) ∧ w = w' := by
  have HF : Hid (∀ k, fact (k + 1) = (k + 1) * fact k) := Lib.hid (fun _ => rfl)
  have hfn := fact_le n (by omega)
  go_in
  go_wp2
  go_loopw [0, 3] (fun i v wr => ∃ (k q : Nat), k ≤ n ∧ i = .int .i64 k ∧ v = .int .i64 q ∧ q ≤ 40320 ∧ Hid (q * fact k = fact n) ∧ w = wr) (fun i _ _ => (intOf i).toNat)
  case atStart => exact ⟨n, 1, Nat.le_refl _, rfl, rfl, by omega, Lib.hid (Nat.one_mul _), rfl⟩
  case round =>
    obtain ⟨k, q, hk, rfl, rfl, hq, HQ, rfl⟩ := hrel
    by_cases hlt : 1 < k
    · obtain ⟨m, rfl⟩ : ∃ m, k = m + 1 := ⟨k - 1, by omega⟩
      have hI : (1 : Int) < (m : Int) + 1 := by omega
      have h2 := Lib.hid (show q * (m + 1) * fact m = fact n by rw [Nat.mul_assoc, ← HF.out, HQ.out])
      have h3 : q * (m + 1) ≤ 40320 := Nat.le_trans (Nat.le_mul_of_pos_right _ (fact_pos m)) (by rw [h2.out]; exact hfn)
      have h4 : ((q : Int) * ((m : Int) + 1)) = ((q * (m + 1) : Nat) : Int) := by rw [Int.natCast_mul]; rfl
      have h5 : 0 ≤ (q : Int) * ((m : Int) + 1) ∧ (q : Int) * ((m : Int) + 1) ≤ 40320 := by rw [h4]; omega
      have H4 := Lib.hid h4
      obtain ⟨h6, h7⟩ := h5
      clear h4
      go_wp2
      go_roundw
      case rel => exact ⟨m, q * (m + 1), by omega, by first | go_num | rfl, by rw [H4.out], h3, Lib.hid h2.out, trivial⟩
      case measure => simp [intOf]
    · have hI : ¬ (1 : Int) < (k : Int) := by omega
      have e1 := Lib.hid (show q = fact n by rw [← HQ.out, fact_one (by omega : k ≤ 1), Nat.mul_one])
      go_wp2
      go_ret
      rw [← e1.out]
      exact ⟨rfl, rfl⟩
set_option maxRecDepth 100000 in
theorem spec_l7True {A : Option Addr} {N c : Nat} {l : List ByteArray} {w : World} (hN : l.length = N) (h : Strs w A l) (hz : N ≤ 16000000) (hs : ∀ s ∈ l, s.size ≤ 16777216) :
    Calls Tryz.prog 108 #[.slice A N c] w fun e w' => e = .returned (.bool (nodupB l)) ∧ Below w.heap.size w w' := by
  go_in
  go_wp2_with fail
  refine (spec_l6Sort N A c l w hN h hz hs).mono ?_; rintro e w1 ⟨A1, c1, L, rfl, ho, hp, hS, hb1⟩
  have HE := Lib.hid (show nodupB l = true ↔ ∀ k, 1 ≤ k → k < L.length → nextEq L k = false by
    rw [nodupB, decide_eq_true_iff, ← hp.nodup_iff]; exact srt_nodup hS)
  have hL := ho.len
  subst hL
  clear hp hS hN h hs
  go_wp2
  go_loopw [4] (fun i wr => ∃ k : Nat, 1 ≤ k ∧ (k ≤ L.length ∨ k = 1) ∧ i = .int .i64 k ∧ Hid (∀ j, 1 ≤ j → j < k → nextEq L j = false) ∧ Below w1.heap.size w1 wr) (fun i _ => L.length - (intOf i).toNat)
  case atStart => exact ⟨1, Nat.le_refl _, .inr rfl, rfl, Lib.hid (fun j h1 h2 => absurd h1 (by omega)), Below.refl _ _⟩
  case round =>
    obtain ⟨k, hk0, hk, rfl, HK, hb⟩ := hrel
    by_cases hlt : k < L.length
    · obtain ⟨q, rfl⟩ : ∃ q, k = q + 1 := ⟨k - 1, by omega⟩
      obtain ⟨b3, o3, y, rfl, _, hy, hcy⟩ := (ho.up hb).recs.at_str hlt
      obtain ⟨b4, o4, x, e, _, hx, hcx⟩ := (ho.up hb).recs.at_str (k := q) (by omega)
      injection e with e
      injection e with e1 e2
      subst e1 e2
      have HX := Lib.hid (nextEq_at (k := q + 1) hx hy)
      have hw1 := wrap_id (x := (q : Int) + 1 - 1) (by omega)
      have hw2 : (q : Int) + 1 - 1 = (q : Int) := by omega
      have hw3 := wrap_id (x := (q : Int)) (by omega)
      clear hx hy ho
      by_cases hxy : y = x
      · have e1 := Lib.hid (show nodupB l = false by
          rcases hq : nodupB l
          · rfl
          · have := HE.out.1 hq (q + 1) (by omega) hlt
            rw [HX.out, decide_eq_true hxy] at this; cases this)
        have e2 : (y.toList == x.toList) = true := by rw [hxy]; simp
        clear hxy
        go_wp2
        go_quiet (fail)
        clear hw1 hw2 hw3
        go_wp2
        go_ret
        rw [e1.out]
        exact ⟨rfl, by (repeat' (first | (with_reducible exact Below.refl _ _) | (with_reducible assumption) | (with_reducible refine below_drewN ?_ _) | (with_reducible refine Below.drew ?_) | (with_reducible refine below_alloc ?_ _) | (with_reducible refine Below.alloc ?_ ?_ _) | (with_reducible refine Below.setCell ?_ ?_ _) | (with_reducible refine below_go ?_ (by with_reducible assumption)) | (with_reducible refine below_then (by with_reducible assumption) ?_ ?_) | go_size))⟩
      · have e2 : (y.toList == x.toList) = false := by
          rw [beq_eq_false_iff_ne]; exact fun q => hxy (toList_inj q)
        have HN := Lib.hid (show nextEq L (q + 1) = false by rw [HX.out, decide_eq_false hxy])
        clear hxy
        go_wp2
        go_quiet (fail)
        clear hw1 hw2 hw3
        go_wp2
        go_roundw
        case rel => exact ⟨q + 2, by omega, by omega, by go_num, Lib.hid (fun j h1 h2 => by
          rcases Nat.lt_succ_iff_lt_or_eq.1 h2 with h | rfl
          · exact HK.out j h1 h
          · exact HN.out), by (repeat' (first | (with_reducible exact Below.refl _ _) | (with_reducible assumption) | (with_reducible refine below_drewN ?_ _) | (with_reducible refine Below.drew ?_) | (with_reducible refine below_alloc ?_ _) | (with_reducible refine Below.alloc ?_ ?_ _) | (with_reducible refine Below.setCell ?_ ?_ _) | (with_reducible refine below_go ?_ (by with_reducible assumption)) | (with_reducible refine below_then (by with_reducible assumption) ?_ ?_) | go_size))⟩
        case measure => simp [intOf]; omega
    · have e1 := Lib.hid (show nodupB l = true from HE.out.2 (fun j h1 h2 => HK.out j h1 (by omega)))
      go_wp2
      go_ret
      rw [e1.out]
      exact ⟨rfl, below_go hb1 hb⟩
/-- Row k of a list of rows, cyclically. -/
def cyc (l : List ByteArray) (k : Nat) : ByteArray := l.getD (k % l.length) ByteArray.empty
def nextAt (l : List ByteArray) (k : Nat) : Bool := btwB (cyc l k) (cyc l (k + 1))
def nextsB (l : List ByteArray) : Bool := (List.range l.length).all (nextAt l)
theorem cyc_at {l : List ByteArray} {k : Nat} {x : ByteArray} (h : l[k]? = some x) : cyc l k = x := by
  have := (List.getElem?_eq_some_iff.1 h).1
  rw [cyc, Nat.mod_eq_of_lt this, List.getD, h]; rfl
theorem cyc_last {l : List ByteArray} {x : ByteArray} (h : l[0]? = some x) : cyc l l.length = x := by
  rw [cyc, Nat.mod_self, List.getD, h]; rfl
theorem btw_self (a : ByteArray) : ∀ (k i : Nat) (sw : Bool), btwK a a k i sw = sw
  | 0, _, _ => by rw [btwK]
  | k + 1, i, sw => by rw [btw_eq rfl, btw_self a k]
theorem nexts_one {l : List ByteArray} (h : l.length = 1) : nextsB l = false := by
  match l, h with
  | [x], _ =>
    show (List.all [0] (nextAt [x])) = false
    simp [nextAt, cyc, btwB, btw_self]
theorem goodRows_size {l : List ByteArray} (h : goodRows l = true) {i j : Nat} {x y : ByteArray} (hx : l[i]? = some x) (hy : l[j]? = some y) : x.size = y.size := by
  rw [goodRows, Bool.and_eq_true, List.all_eq_true] at h
  have key : ∀ (k : Nat) (z : ByteArray), l[k]? = some z → z.size = (l.getD 0 ByteArray.empty).size := fun k z hz => by
    have := h.1 k (List.mem_range.2 (List.getElem?_eq_some_iff.1 hz).1)
    rw [okRow, Bool.and_eq_true, List.getD, hz] at this
    simpa using this.2
  rw [key i x hx, key j y hy]
/-! extents -/
def smallR (l : List ByteArray) : Bool := goodRows l && (decide (0 < l.length) && decide ((l.getD 0 ByteArray.empty).size ≤ 6))
def extR (l : List ByteArray) : Bool := smallR l && (nextsB l && (nodupB l && (l.length == fact (l.getD 0 ByteArray.empty).size)))
theorem small_t {l : List ByteArray} (h : smallR l = true) : goodRows l = true ∧ 0 < l.length ∧ ∀ x, l[0]? = some x → x.size ≤ 6 := by
  simp only [smallR, Bool.and_eq_true, decide_eq_true_eq] at h
  exact ⟨h.1, h.2.1, fun x hx => by have := h.2.2; rw [List.getD, hx] at this; exact this⟩
end Go.Proofs.YtidolgonmimicaaGreat
/- The walks through closures: the group that some rows generate, both sides. -/
namespace Go.Proofs.YtidolgonmimicaaGreat
set_option linter.unusedVariables false
set_option linter.unusedSimpArgs false
open Go.ChangeShapes Go.WideShapes Go.ChangeAt Go.RowKit Go.Deep
open Go.Maps (Keyed string_keyed)
open Go.WideMaps (keyOf_string_mk)
theorem pre_at {α : Type} {l m : List α} {k : Nat} {x : α} (h : l <+: m) (hx : l[k]? = some x) : m[k]? = some x := by
  obtain ⟨t, rfl⟩ := h
  rw [List.getElem?_append_left (List.getElem?_eq_some_iff.1 hx).1]; exact hx
theorem pre_len {α : Type} {l m : List α} (h : l <+: m) : l.length ≤ m.length := h.length_le
theorem own_lit1_at' {α : Type} {e : α → List Value} {s : Nat} (he : ∀ x, (e x).length = s) (w : World) (E : TypeId) (x : α) {b base : Nat} (h : b = w.heap.size) (hb : base ≤ w.heap.size) : Owned e s E (w.alloc (.cells ⟨e x⟩ E)) base (some ⟨b, 0, none⟩) 1 1 [x] := by
  subst h
  exact ⟨he, rfl, by simpa using World.ownsRow_lit (e := E) (base := base) (size := s) w ⟨e x⟩ 1 hb (by unfold maxLen; omega) (by simp [he])⟩
theorem wpList_set_ins {P : Program} {ops : Array Oper} {rest : List Oper} {o : Oper} {a : Act} {Q : Exit → Act → World → Prop} {W : World} (hgd : o.guard = none) (M X V : Operand) (t : TypeId) (hop : o.op = Op.insert t M X V)
    {k e : TypeId} (K : Keyed P k) (ht : P.underlying t = some (.map k e)) (he : P.underlying e = some .bool) {b n : Nat} {S : List Value} (hm : a.eval M = .map (some b)) (h : SetOf P W k e b n S) (hn : n ≤ 16777216) {key : Value} (hx : a.eval X = key) (hv : a.eval V = .bool true)
    {kl : Lit} (hkey : keyOf P k key = some kl) (hK : ∀ w', SetOf P w' k e b (n + 1) (key :: S) → W.grownBy w' (some b) → wpList P ops Q rest (a.put o.dst undef) w') : wpList P ops Q (o :: rest) a W := by
  obtain ⟨D, h1, h2⟩ := h
  obtain ⟨w', hrun, hown, hg⟩ := h1.update K ht (by unfold maxLen; omega) hkey (plainElem_bool he true)
  refine wpList_plain hgd fun K' hK' => ?_
  unfold Oper.wp
  simp [execOp, hop, hm, hx, hv, hrun, Result.andThen]
  refine hK' _ _ (hK w' ⟨_, hown, fun key' kl' hk' => ?_⟩ hg)
  by_cases ek : kl' = kl
  · subst ek
    have e1 : key' = key := K.inj hk' hkey
    subst e1
    rw [Maps.atKey_put_same h1.isMap (K.key hkey)]
    exact ⟨fun _ => rfl, fun hne => absurd (List.mem_cons_self ..) hne⟩
  · have e1 : key' ≠ key := fun e2 => ek (by rw [e2, hkey] at hk'; injection hk' with hk'; exact hk'.symm)
    rw [Maps.atKey_put_other ek]
    obtain ⟨a1, a2⟩ := h2 key' kl' hk'
    refine ⟨fun hi => a1 ?_, fun hi => a2 (fun hc => hi (List.mem_cons_of_mem _ hc))⟩
    rcases List.mem_cons.1 hi with hi | hi
    · exact absurd hi e1
    · exact hi
/-- The keys of a set of texts. -/
def keysS (L : List ByteArray) : List Value := (L.map strV).reverse
theorem keysS_mem {s : ByteArray} {L : List ByteArray} : strV s ∈ keysS L ↔ s ∈ L := by rw [keysS, List.mem_reverse, strV_mem]
theorem keysS_snoc (L : List ByteArray) (s : ByteArray) : keysS (L ++ [s]) = strV s :: keysS L := by rw [keysS, keysS, List.map_append, List.reverse_append]; rfl
end Go.Proofs.YtidolgonmimicaaGreat
/- The walks of chapter 17: the program's search of a row, a row's powers, its Q-set. -/
namespace Go.Proofs.YtidolgonmimicaaGreat
set_option linter.unusedVariables false
set_option linter.unusedSimpArgs false
open Go.ChangeShapes Go.WideShapes Go.ChangeAt Go.RowKit Go.Deep
theorem first_false (f : Nat → Bool) : ∀ n, f n = false → ∃ k, k ≤ n ∧ (∀ t, t < k → f t = true) ∧ f k = false
  | 0, h => ⟨0, Nat.le_refl _, fun t ht => absurd ht (by omega), h⟩
  | n + 1, h => by
    by_cases hb : ∃ k, k ≤ n ∧ f k = false
    · obtain ⟨j, hj, hf⟩ := hb
      obtain ⟨k, hk, h1, h2⟩ := first_false (fun t => if t < j then f t else false) n (by simp [show ¬ n < j by omega])
      by_cases hkj : k < j
      · refine ⟨k, by omega, fun t ht => ?_, by simpa [hkj] using h2⟩
        have := h1 t ht
        simpa [show t < j by omega] using this
      · refine ⟨j, by omega, fun t ht => ?_, hf⟩
        have := h1 t (by omega)
        simpa [ht] using this
    · refine ⟨n + 1, Nat.le_refl _, fun t ht => ?_, h⟩
      rcases hc : f t with _ | _
      · exact absurd ⟨t, by omega, hc⟩ hb
      · rfl
theorem srt_le {l : List ByteArray} (h : Srt l) {i j : Nat} {x y : ByteArray} (hij : i < j) (hx : l[i]? = some x) (hy : l[j]? = some y) : less y x = false := by
  obtain ⟨h1, e1⟩ := List.getElem?_eq_some_iff.1 hx
  obtain ⟨h2, e2⟩ := List.getElem?_eq_some_iff.1 hy
  have := (List.pairwise_iff_getElem.1 h) i j h1 h2 hij
  rw [e1, e2, leS] at this
  rcases hc : less y x with _ | _
  · rfl
  · rw [hc] at this; cases this
theorem search_in {l : List ByteArray} {s : ByteArray} (h : Srt l) : decide (Lib.bsGo (fun t => less (l.getD t s) s) l.length 0 l.length < l.length ∧ l.getD (Lib.bsGo (fun t => less (l.getD t s) s) l.length 0 l.length) s = s) = inL l s := by
  have hout : ∀ t, l.length ≤ t → less (l.getD t s) s = false := fun t ht => by rw [List.getD, List.getElem?_eq_none ht]; exact less_irr s
  obtain ⟨k, hk, h1, h2⟩ := first_false (fun t => less (l.getD t s) s) l.length (hout _ (Nat.le_refl _))
  have h3 : ∀ t, k ≤ t → less (l.getD t s) s = false := fun t ht => by
    rcases Nat.lt_or_ge t l.length with hl | hl
    · rcases Nat.lt_or_ge k t with hkt | hkt
      · rcases hc : less (l.getD t s) s with _ | _
        · rfl
        · have hy := List.getElem?_eq_getElem hl
          have hx := List.getElem?_eq_getElem (show k < l.length by omega)
          have hle := srt_le h hkt hx hy
          have e1 : l.getD k s = l[k] := by rw [List.getD, hx]; rfl
          have e2 : l.getD t s = l[t] := by rw [List.getD, hy]; rfl
          rw [e1] at h2
          rw [e2] at hc
          rcases less_tri l[k] l[t] with h4 | h4 | h4
          · have := less_trans h4 hc
            rw [h2] at this; cases this
          · rw [h4, hc] at h2; cases h2
          · rw [hle] at h4; cases h4
      · obtain rfl : t = k := by omega
        exact h2
    · exact hout t hl
  rw [Lib.bsGo_spec _ k h1 h3 l.length 0 l.length (by omega) (by omega) hk]
  rw [Bool.eq_iff_iff, decide_eq_true_iff, inL_iff]
  constructor
  · rintro ⟨hl, e⟩
    rw [List.getD, List.getElem?_eq_getElem hl] at e
    rw [← e]; exact List.getElem_mem hl
  · intro hm
    obtain ⟨j, hj⟩ := List.getElem?_of_mem hm
    have hjl := (List.getElem?_eq_some_iff.1 hj).1
    have hkj : k ≤ j := by
      rcases Nat.lt_or_ge j k with hc | hc
      · have := h1 j hc
        rw [List.getD, hj] at this
        have h5 : less s s = true := this
        rw [less_irr] at h5; cases h5
      · exact hc
    refine ⟨by omega, ?_⟩
    rcases Nat.lt_or_ge k j with hc | hc
    · have hx := List.getElem?_eq_getElem (show k < l.length by omega)
      have hle := srt_le h hc hx hj
      have e1 : l.getD k s = l[k] := by rw [List.getD, hx]; rfl
      rw [e1] at h2 ⊢
      rcases less_tri l[k] s with h4 | h4 | h4
      · rw [h2] at h4; cases h4
      · exact h4
      · rw [hle] at h4; cases h4
    · obtain rfl : j = k := by omega
      rw [List.getD, hj]; rfl
theorem search_strs {A : Option Addr} {N c : Nat} {l : List ByteArray} {s : ByteArray} {w : World} (hN : l.length = N) (h : Strs w A l) (hz : N ≤ 16777216) (hs : Srt l) :
    Calls Tryz.prog 206 #[.slice A N c, .string s] w fun e w' => ∃ i : Int, e = .returned (.tuple #[.int .i64 i, .bool (inL l s)]) ∧ ∃ q, w' = w.drewN q := by
  subst hN
  rcases Nat.eq_zero_or_pos l.length with h0 | h0
  · have e := List.eq_nil_of_length_eq_zero h0
    subst e
    refine (Tryz.slices_BinarySearch_string_empty A c s w).mono ?_
    rintro e w' ⟨rfl, rfl⟩
    exact ⟨0, rfl, 0, rfl⟩
  · obtain ⟨b, o, y, rfl, _, _, _⟩ := h.at_str h0
    refine (Tryz.slices_BinarySearch_string b o l.length c (fun t => l.getD t s) s w (by omega) (fun j hj => ?_)).mono ?_
    · obtain ⟨b2, o2, x, e, _, hx, hcx⟩ := h.at_str hj
      injection e with e
      injection e with e1 e2
      subst e1 e2
      rw [hcx, List.getD, hx]; rfl
    · rintro e w' ⟨rfl, hq⟩
      have hin := search_in (s := s) hs
      rw [← hin]
      exact ⟨_, rfl, hq⟩
theorem impl_has {A : Option Addr} {N c : Nat} {l : List ByteArray} {s : ByteArray} {w : World} (hN : l.length = N) (h : Strs w A l) (hz : N ≤ 16777216) (hs : Srt l) :
    Calls Tryz.prog 146 #[.slice A N c, .string s] w fun e w' => e = .returned (.bool (inL l s)) ∧ Below w.heap.size w w' := by
  go_in
  go_wp2_with fail
  refine (search_strs hN h hz hs).mono ?_; rintro e w1 ⟨i, rfl, q, rfl⟩
  go_wp2
  go_ret
  exact ⟨rfl, by (repeat' (first | (with_reducible exact Below.refl _ _) | (with_reducible assumption) | (with_reducible refine below_drewN ?_ _) | (with_reducible refine Below.drew ?_) | (with_reducible refine below_alloc ?_ _) | (with_reducible refine Below.alloc ?_ ?_ _) | (with_reducible refine Below.setCell ?_ ?_ _) | (with_reducible refine below_go ?_ (by with_reducible assumption)) | (with_reducible refine below_then (by with_reducible assumption) ?_ ?_) | go_size))⟩
set_option maxHeartbeats 1000000 in
set_option maxRecDepth 100000 in
theorem impl_powers {a : ByteArray} {n : Nat} {w : World} (hg : RowN n a) :
    Calls Tryz.prog 205 #[.string a] w fun e w' => ∃ m A' c', e = .returned (.slice A' m c') ∧ 1 ≤ m ∧ m ≤ 40320 ∧ pwS n a m = roundsS n ∧ Owned strE 1 9 w' w.heap.size A' m c' (pwL n a m) ∧ Below w.heap.size w w' := by
  obtain ⟨h3, h8⟩ := hg.st
  have h40 : fact n ≤ 40320 := fact_le8 h8
  have hsz := hg.2
  have HG := Lib.hid hg
  have ha16 : a.size ≤ 16777216 := by omega
  clear hg
  go_in
  go_wp2_with (first | (go_at_call 105; refine (impl_rounds h8).mono ?_; rintro e w' ⟨rfl, rfl⟩))
  have ho0 := Lib.hid (own_lit1_at' strE_len w 9 (roundsS n) rfl (Nat.le_refl _))
  go_loopw [3, 4] (fun v p wr => ∃ (k : Nat) (A' : Option Addr) (c' : Nat), 1 ≤ k ∧ v = .slice A' k c' ∧ p = .string (pwS n a k) ∧ Hid (∀ j, 1 ≤ j → j < k → pwS n a j ≠ roundsS n) ∧ Hid (Owned strE 1 9 wr w.heap.size A' k c' (pwL n a k)) ∧ Below w.heap.size w wr) (fun v _ _ => 40321 - slLen v)
  case atStart => exact ⟨1, _, _, Nat.le_refl _, rfl, by rw [pw_one HG.out], Lib.hid (fun j h1 h2 => absurd h1 (by omega)), ho0, by (repeat' (first | (with_reducible exact Below.refl _ _) | (with_reducible assumption) | (with_reducible refine below_drewN ?_ _) | (with_reducible refine Below.drew ?_) | (with_reducible refine below_alloc ?_ _) | (with_reducible refine Below.alloc ?_ ?_ _) | (with_reducible refine Below.setCell ?_ ?_ _) | (with_reducible refine below_go ?_ (by with_reducible assumption)) | (with_reducible refine below_then (by with_reducible assumption) ?_ ?_) | go_size))⟩
  case round =>
    obtain ⟨k, A1, c1, hk, rfl, rfl, HK, HO, hb⟩ := hrel
    have hle : k ≤ 40320 := Nat.le_trans (pwL_le HG.out HK.out) h40
    obtain ⟨b1, rfl, hb1lo, _, gc, _⟩ := HO.out.at_ (by omega)
    have hc0 := gc 0 (roundsS n) 0 _ (by rw [pwL, List.getElem?_map, List.getElem?_range (by omega)]; rfl) rfl
    simp only [Nat.zero_mul, Nat.add_zero] at hc0
    have hpN := pw_row HG.out k
    have HPS := Lib.hid (show pwS n a (k + 1) = timesS (pwS n a k) a from rfl)
    have HLS := Lib.hid (pwL_succ n a k)
    have hft := rowN_fits hpN HG.out
    obtain ⟨p, hp⟩ : ∃ p, p = pwS n a k := ⟨_, rfl⟩
    have HP := Lib.hid hp
    rw [← hp] at hpN hft
    rw [← hp]
    have hps : p.size ≤ 16777216 := by rw [hpN.2]; omega
    clear gc
    by_cases he : p = roundsS n
    · have HE := Lib.hid (show pwS n a k = roundsS n by rw [← hp, he])
      have hbe : (p.toList == (roundsS n).toList) = true := by rw [he]; simp
      clear hp he
      go_wp2
      go_ret
      exact ⟨k, _, _, rfl, hk, hle, HE.out, HO.out, hb⟩
    · have hbe := bytes_ne he
      have HK2 := Lib.hid (show ∀ j, 1 ≤ j → j < k + 1 → pwS n a j ≠ roundsS n from fun j h1 h2 => by
        rcases Nat.lt_or_ge j k with h4 | h4
        · exact HK.out j h1 h4
        · obtain rfl : j = k := by omega
          rw [← hp]; exact he)
      have hle2 : k + 1 ≤ 40320 := Nat.le_trans (pwL_le HG.out HK2.out) h40
      clear hp he
      have hszr := hb.size
      go_wp2_with (first | (at_builtin; go_must ((refine wpList_append_recs Tryz.elStr strE_one rfl (.tmp 18) (.tmp 20) rfl rfl (HO.out.alloc _) rfl (own_lit1_at' strE_len _ 9 p rfl (Nat.le_refl _)).recs rfl ?_ (by decide) ?_ ?_; (focus (first | omega | (simp only [World.size_alloc]; done) | (simp only [World.size_alloc]; omega) | (simp; done) | (simp; omega))); (focus (first | omega | (simp only [World.size_alloc]; done) | (simp only [World.size_alloc]; omega) | (simp; done) | (simp; omega))); intro A3 c3 w6 ho6 hg6 hl6))) | (go_at_call 123; refine (impl_times hps ha16 hft).mono ?_; rintro e w7 ⟨rfl, hb7⟩))
      have hb6 : Below w.heap.size w w6 := (hb.alloc hszr _).trans (grown_base hg6 (by simp; omega) (fun k hk => by injection hk with hk; dsimp only at hk; omega))
      go_roundw
      case rel => exact ⟨k + 1, A3, c3, by omega, rfl, by rw [HPS.out, HP.out], HK2, Lib.hid (by rw [HLS.out, ← HP.out]; exact ho6.up hb7), below_go hb6 hb7⟩
      case measure => simp [slLen]; omega
end Go.Proofs.YtidolgonmimicaaGreat
/- The inverse of a row: it is a row, and the product with it is rounds. -/
namespace Go.Proofs.YtidolgonmimicaaGreat
set_option linter.unusedVariables false
set_option linter.unusedSimpArgs false
open Go.ChangeShapes Go.WideShapes Go.ChangeAt Go.RowKit Go.Deep
theorem turn_ex {a : ByteArray} (h : goodRow a = true) : ∃ m, TurnOf a m := by
  refine ⟨(List.range a.size).map fun (j : Nat) => (49 : Int) + (((nums a).idxOf (49 + (j : Int)) : Nat) : Int), by simp, fun i hi => ?_⟩
  have h1 := row_at h hi
  rw [List.getElem?_map, List.getElem?_range (by omega)]
  have h2 := nums_at hi
  have hl : i < (nums a).length := by rw [nums_len]; exact hi
  have h3 : (nums a).idxOf (PlainAid.bt a i) = i := by
    rw [List.getElem?_eq_getElem hl] at h2
    injection h2 with h2
    rw [← h2]
    exact (goodRow_list h).1.idxOf_getElem i hl
  simp only [Option.map_some]
  rw [show (49 : Int) + ((PlainAid.bt a i - 49).toNat : Nat) = PlainAid.bt a i by omega, h3]
theorem turn_rowN {a : ByteArray} {n : Nat} (h : RowN n a) : RowN n (turnS a) := by
  obtain ⟨m, hm⟩ := turn_ex h.1
  have := turn_row h.1 hm
  rwa [h.2] at this
theorem times_turn {a : ByteArray} {n : Nat} (h : RowN n a) : timesS a (turnS a) = roundsS n := by
  have ht := turn_rowN h
  have hs := h.st
  obtain ⟨m, hm⟩ := turn_ex h.1
  have hr := turn_row h.1 hm
  have hb : ∀ x ∈ m, 0 ≤ x ∧ x < 256 := by
    intro x hx
    obtain ⟨j, hj⟩ := List.getElem?_of_mem hx
    have hl := (List.getElem?_eq_some_iff.1 hj).1
    rw [hm.1] at hl
    obtain ⟨i, hi, e⟩ := row_hit h.1 hl
    have h1 := hm.2 i hi
    rw [e, show ((49 : Int) + (j : Int) - 49).toNat = j by omega, hj] at h1
    injection h1 with h1
    rw [h.2] at hi
    omega
  refine row_ext (by rw [(h.times ht).2, rounds_size n (by omega)]) fun k hk => ?_
  rw [(h.times ht).2] at hk
  rw [times_at h ht hk, rounds_bt (by omega) hk]
  obtain ⟨i, hi, e⟩ := row_hit h.1 (j := k) (by rw [h.2]; exact hk)
  have h1 := hm.2 i hi
  rw [e, show ((49 : Int) + (k : Int) - 49).toNat = k by omega] at h1
  have h2 := nums_at (s := turnS a) (k := k) (by rw [ht.2]; exact hk)
  rw [turn_eq h.1 hm, nums_strOf hb, h1] at h2
  injection h2 with h2
  rw [turn_eq h.1 hm, ← h2, show ((49 : Int) + (i : Int) - 49).toNat = i by omega, e]
theorem times_back {x b : ByteArray} {n : Nat} (hx : RowN n x) (hb : RowN n b) : timesS (timesS x b) (turnS b) = x := by
  have ht := turn_rowN hb
  rw [← times_assoc hx.1 hb.1 ht.1 (by rw [hx.2, hb.2]) (by rw [hb.2, ht.2]), times_turn hb]
  have := times_rounds hx.1
  rwa [hx.2] at this
end Go.Proofs.YtidolgonmimicaaGreat
/- False lead heads as a plain list: products of rows of the lead by turned ones; sorted, each once. -/
namespace Go.Proofs.YtidolgonmimicaaGreat
set_option linter.unusedVariables false
set_option linter.unusedSimpArgs false
open Go.ChangeShapes Go.WideShapes Go.ChangeAt Go.RowKit Go.Deep
/-- The rows of the lead from rounds. -/
def leadL (st : Nat) (l : List ByteArray) : List ByteArray := rowsL (roundsS st) l l.length
theorem leadL_len (st : Nat) (l : List ByteArray) : (leadL st l).length = l.length := rowsL_len ..
theorem leadL_row {st : Nat} (h3 : 3 ≤ st) (h8 : st ≤ 8) (l : List ByteArray) : ∀ x ∈ leadL st l, RowN st x := fun x hx => by
  rw [leadL, rowsL, List.mem_map] at hx
  obtain ⟨k, _, rfl⟩ := hx
  exact ⟨good_rAt (rowN_rounds h3 h8).1 l k, by rw [rAt_size, rounds_size st (by omega)]⟩
theorem rAt_times {st : Nat} {f : ByteArray} (hf : RowN st f) (l : List ByteArray) : ∀ k, rAt f l k = timesS f (rAt (roundsS st) l k)
  | 0 => by
    have := times_rounds hf.1
    rw [hf.2] at this
    exact this.symm
  | k + 1 => by
    have h38 := hf.st
    have hr := rowN_rounds h38.1 h38.2
    have hg := good_rAt hr.1 l k
    have hz : (rAt (roundsS st) l k).size = st := by rw [rAt_size]; exact hr.2
    show applyR (rAt f l k) _ = timesS f (applyR (rAt (roundsS st) l k) _)
    rw [rAt_times hf l k, times_apply hf.1 hg (by rw [hf.2, hz])]
theorem rowsL_times {st : Nat} {f : ByteArray} (hf : RowN st f) (l : List ByteArray) (k : Nat) : rowsL f l k = (rowsL (roundsS st) l k).map (timesS f) := by
  rw [rowsL, rowsL, List.map_map]
  exact List.map_congr_left fun j _ => rAt_times hf l j
/-- All products, in the order in which both programs make them. -/
noncomputable def falL (L : List ByteArray) : List ByteArray := L.flatMap fun r => L.map fun s => timesS r (turnS s)
theorem falL_mem {L : List ByteArray} {f : ByteArray} : f ∈ falL L ↔ ∃ r ∈ L, ∃ s ∈ L, timesS r (turnS s) = f := by
  rw [falL, List.mem_flatMap]
  exact ⟨fun ⟨r, hr, h⟩ => ⟨r, hr, by obtain ⟨s, hs, e⟩ := List.mem_map.1 h; exact ⟨s, hs, e⟩⟩, fun ⟨r, hr, s, hs, e⟩ => ⟨r, hr, List.mem_map.2 ⟨s, hs, e⟩⟩⟩
theorem falL_row {n : Nat} {L : List ByteArray} (hL : ∀ x ∈ L, RowN n x) : ∀ f ∈ falL L, RowN n f := fun f hf => by
  obtain ⟨r, hr, s, hs, rfl⟩ := falL_mem.1 hf
  exact (hL r hr).times (turn_rowN (hL s hs))
theorem turn_turn {a : ByteArray} {n : Nat} (h : RowN n a) : turnS (turnS a) = a := by
  have h1 := turn_rowN h
  have e := times_back h h1
  rw [times_turn h, rounds_times (turn_rowN h1)] at e
  exact e
theorem turn_times {a b : ByteArray} {n : Nat} (ha : RowN n a) (hb : RowN n b) : turnS (timesS a (turnS b)) = timesS b (turnS a) := by
  have hx := ha.times (turn_rowN hb)
  have hy := hb.times (turn_rowN ha)
  have h38 := ha.st
  have hr : ∀ {y : ByteArray}, RowN n y → timesS y (roundsS n) = y := fun {y} hy => by have := times_rounds hy.1; rwa [hy.2] at this
  have asc : ∀ {x y z : ByteArray}, RowN n x → RowN n y → RowN n z → timesS x (timesS y z) = timesS (timesS x y) z := fun hx hy hz => times_assoc hx.1 hy.1 hz.1 (by rw [hx.2, hy.2]) (by rw [hy.2, hz.2])
  have e1 : timesS (timesS b (turnS a)) (timesS a (turnS b)) = roundsS n := by
    have hta := turn_rowN ha; have htb := turn_rowN hb
    have q : timesS (turnS a) a = roundsS n := by
      have := times_turn hta
      rwa [turn_turn ha] at this
    rw [asc hy ha htb, ← asc hb hta ha, q, hr hb, times_turn hb]
  have e2 := times_back hy hx
  rw [e1, rounds_times (turn_rowN hx)] at e2
  exact e2
theorem falL_turn {n : Nat} {L : List ByteArray} (hL : ∀ x ∈ L, RowN n x) {f : ByteArray} (h : f ∈ falL L) : turnS f ∈ falL L := by
  obtain ⟨r, hr, s, hs, rfl⟩ := falL_mem.1 h
  exact falL_mem.2 ⟨s, hs, r, hr, (turn_times (hL r hr) (hL s hs)).symm⟩
theorem falL_turn_iff {n : Nat} {L : List ByteArray} (hL : ∀ x ∈ L, RowN n x) {f : ByteArray} (hf : RowN n f) : turnS f ∈ falL L ↔ f ∈ falL L :=
  ⟨fun h => by have := falL_turn hL h; rwa [turn_turn hf] at this, falL_turn hL⟩
theorem falL_rounds {n : Nat} {L : List ByteArray} (hL : ∀ x ∈ L, RowN n x) (h : L ≠ []) : roundsS n ∈ falL L := by
  obtain ⟨r, hr⟩ := List.exists_mem_of_ne_nil L h
  exact falL_mem.2 ⟨r, hr, r, hr, times_turn (hL r hr)⟩
/-- The rows of one list that stand in another one. -/
def meetL (L M : List ByteArray) : List ByteArray := L.filter fun r => inL M r
theorem meet_iff {n : Nat} {L : List ByteArray} (hL : ∀ x ∈ L, RowN n x) {f : ByteArray} (hf : RowN n f) : meetL L (L.map (timesS f)) ≠ [] ↔ f ∈ falL L := by
  rw [falL_mem]
  constructor
  · intro h
    obtain ⟨r, hr⟩ := List.exists_mem_of_ne_nil _ h
    rw [meetL, List.mem_filter] at hr
    obtain ⟨hr, hm⟩ := hr
    obtain ⟨s, hs, e⟩ := List.mem_map.1 (inL_iff.1 hm)
    exact ⟨r, hr, s, hs, by rw [← e]; exact times_back hf (hL s hs)⟩
  · rintro ⟨r, hr, s, hs, e⟩ h
    have hm : r ∈ meetL L (L.map (timesS f)) := by
      rw [meetL, List.mem_filter]
      refine ⟨hr, inL_iff.2 (List.mem_map.2 ⟨s, hs, ?_⟩)⟩
      have q := times_back (hL r hr) (turn_rowN (hL s hs))
      rw [turn_turn (hL s hs), e] at q
      exact q
    rw [h] at hm
    cases hm
end Go.Proofs.YtidolgonmimicaaGreat
/- A sorted list, each of its rows once: what the reference makes of all products, and what the program makes of its set. -/
namespace Go.Proofs.YtidolgonmimicaaGreat
set_option linter.unusedVariables false
set_option linter.unusedSimpArgs false
open Go.ChangeShapes Go.WideShapes Go.ChangeAt Go.RowKit Go.Deep
def uniqStep (out : List ByteArray) (f : ByteArray) : List ByteArray := if out.getLast? = some f then out else out ++ [f]
def uniqF (L : List ByteArray) : List ByteArray := L.foldl uniqStep []
theorem uniqF_snoc (L : List ByteArray) (f : ByteArray) : uniqF (L ++ [f]) = uniqStep (uniqF L) f := by rw [uniqF, List.foldl_append]; rfl
theorem uniqF_step {L : List ByteArray} {k : Nat} {f : ByteArray} (h : L[k]? = some f) : uniqF (L.take (k + 1)) = uniqStep (uniqF (L.take k)) f := by
  rw [List.take_add_one, h]; exact uniqF_snoc _ _
theorem uniqF_len (L : List ByteArray) : ∀ k, k ≤ L.length → (uniqF (L.take k)).length ≤ k
  | 0, _ => by simp [uniqF]
  | k + 1, h => by
    obtain ⟨f, hf⟩ : ∃ f, L[k]? = some f := ⟨L[k], List.getElem?_eq_getElem (by omega)⟩
    have := uniqF_len L k (by omega)
    rw [uniqF_step hf, uniqStep]
    split
    · omega
    · simp; omega
theorem uniqF_ok : ∀ (n : Nat) (L : List ByteArray), L.length = n → Srt L → Srt (uniqF L) ∧ (uniqF L).Nodup ∧ (∀ x, x ∈ uniqF L ↔ x ∈ L) ∧ (uniqF L).getLast? = L.getLast?
  | 0, L, h, _ => by
    obtain rfl := List.length_eq_zero_iff.1 h
    exact ⟨List.Pairwise.nil, List.nodup_nil, fun x => Iff.rfl, rfl⟩
  | n + 1, L, h, hs => by
    obtain ⟨M, f, rfl⟩ : ∃ M f, L = M ++ [f] := by
      rcases List.eq_nil_or_concat L with rfl | ⟨M, f, e⟩
      · simp at h
      · exact ⟨M, f, by simpa using e⟩
    have hM : M.length = n := by simpa using h
    have hsp := List.pairwise_append.1 hs
    obtain ⟨i1, i2, i3, i4⟩ := uniqF_ok n M hM hsp.1
    rw [uniqF_snoc, uniqStep]
    split
    · rename_i hl
      refine ⟨i1, i2, fun x => ?_, by rw [hl]; simp⟩
      rw [i3, List.mem_append, List.mem_singleton]
      refine ⟨Or.inl, fun q => q.elim id fun e => ?_⟩
      rw [i4] at hl
      rw [e]; exact List.mem_of_getLast? hl
    · rename_i hl
      have hfM : f ∉ M := by
        intro hf
        obtain ⟨x, hx⟩ : ∃ x, M.getLast? = some x := by
          cases hg : M.getLast? with
          | none => rw [List.getLast?_eq_none_iff] at hg; rw [hg] at hf; cases hf
          | some x => exact ⟨x, rfl⟩
        have hxM := List.mem_of_getLast? hx
        have h1 := hsp.2.2 x hxM f (by simp)
        have h2 : leS f x = true := by
          obtain ⟨Q, hQ⟩ : ∃ Q, M = Q ++ [x] := by
            rcases List.eq_nil_or_concat M with e | ⟨Q, y, e⟩
            · rw [e] at hf; cases hf
            · refine ⟨Q, ?_⟩
              rw [e] at hx
              simp at hx
              rw [e, hx]; simp
          rw [hQ] at hf
          rcases List.mem_append.1 hf with q | q
          · have := (List.pairwise_append.1 (hQ ▸ hsp.1)).2.2 f q x (by simp)
            exact this
          · rw [List.mem_singleton.1 q]
            have := leS_total x x
            simpa using this
        have := leS_anti h1 h2
        rw [i4, hx, this] at hl
        exact hl rfl
      refine ⟨?_, ?_, fun x => ?_, by simp⟩
      · rw [Srt, List.pairwise_append]
        exact ⟨i1, List.pairwise_singleton _ _, fun a ha b hb => hsp.2.2 a ((i3 a).1 ha) b hb⟩
      · rw [List.nodup_append]
        exact ⟨i2, List.nodup_cons.2 ⟨by simp, List.nodup_nil⟩, fun a ha b hb => by
          rw [List.mem_singleton.1 hb]; rintro rfl; exact hfM ((i3 _).1 ha)⟩
      · rw [List.mem_append, List.mem_append, i3]
/-- All false lead heads in increasing order. -/
noncomputable def falS (L : List ByteArray) : List ByteArray := uniqF ((falL L).mergeSort leS)
theorem falS_mem {L : List ByteArray} {x : ByteArray} : x ∈ falS L ↔ x ∈ falL L := by
  have h := (uniqF_ok _ ((falL L).mergeSort leS) rfl (List.pairwise_mergeSort leS_trans leS_total _)).2.2.1 x
  rw [falS, h, List.mem_mergeSort]
theorem falS_of {L K : List ByteArray} (hk : K.Nodup) (hm : ∀ x, x ∈ K ↔ x ∈ falL L) (hs : Srt K) : K = falS L := by
  have h := uniqF_ok _ ((falL L).mergeSort leS) rfl (List.pairwise_mergeSort leS_trans leS_total _)
  refine srt_unique hs h.1 ((List.perm_ext_iff_of_nodup hk h.2.1).2 fun x => ?_)
  rw [hm]
  exact falS_mem.symm
end Go.Proofs.YtidolgonmimicaaGreat
/- Chapter 12 as plain lists: the cosets of a row under the powers of a part head, their least rows, and the rows of the whole. -/
namespace Go.Proofs.YtidolgonmimicaaGreat
set_option linter.unusedVariables false
set_option linter.unusedSimpArgs false
open Go.ChangeShapes Go.WideShapes Go.ChangeAt Go.RowKit Go.Deep
/-- m is the least power that gives rounds. -/
def IsOrd (n : Nat) (e : ByteArray) (m : Nat) : Prop := 1 ≤ m ∧ pwS n e m = roundsS n ∧ ∀ k, 1 ≤ k → k < m → pwS n e k ≠ roundsS n
theorem IsOrd.uniq {n m k : Nat} {e : ByteArray} (h : IsOrd n e m) (g : IsOrd n e k) : m = k := by
  rcases Nat.lt_trichotomy m k with q | q | q
  · exact absurd h.2.1 (g.2.2 m h.1 q)
  · exact q
  · exact absurd g.2.1 (h.2.2 k g.1 q)
theorem mul_assoc' {n : Nat} {x y z : ByteArray} (hx : RowN n x) (hy : RowN n y) (hz : RowN n z) : timesS x (timesS y z) = timesS (timesS x y) z := times_assoc hx.1 hy.1 hz.1 (by rw [hx.2, hy.2]) (by rw [hy.2, hz.2])
theorem mul_rounds {n : Nat} {x : ByteArray} (hx : RowN n x) : timesS x (roundsS n) = x := by
  have := times_rounds hx.1
  rwa [hx.2] at this
theorem turn_mul {n : Nat} {x : ByteArray} (hx : RowN n x) : timesS (turnS x) x = roundsS n := by
  have := times_turn (turn_rowN hx)
  rwa [turn_turn hx] at this
theorem mul_left {n : Nat} {p x y : ByteArray} (hp : RowN n p) (hx : RowN n x) (hy : RowN n y) (e : timesS p x = timesS p y) : x = y := by
  have h : ∀ {z : ByteArray}, RowN n z → timesS (turnS p) (timesS p z) = z := fun {z} hz => by
    rw [mul_assoc' (turn_rowN hp) hp hz, turn_mul hp, rounds_times hz]
  rw [← h hx, e, h hy]
section
variable {n m : Nat} {e : ByteArray}
theorem pw_add (he : RowN n e) (i : Nat) : ∀ j, pwS n e (i + j) = timesS (pwS n e i) (pwS n e j)
  | 0 => (mul_rounds (pw_row he i)).symm
  | j + 1 => by
    show timesS (pwS n e (i + j)) e = timesS (pwS n e i) (timesS (pwS n e j) e)
    rw [pw_add he i j, mul_assoc' (pw_row he i) (pw_row he j) he]
theorem pw_mul (he : RowN n e) (hm : IsOrd n e m) : ∀ q, pwS n e (m * q) = roundsS n
  | 0 => rfl
  | q + 1 => by rw [Nat.mul_succ, pw_add he, pw_mul he hm q, hm.2.1]; exact rounds_times (rowN_rounds he.st.1 he.st.2)
theorem pw_mod (he : RowN n e) (hm : IsOrd n e m) (k : Nat) : pwS n e k = pwS n e (k % m) := by
  conv => lhs; rw [← Nat.div_add_mod k m]
  rw [pw_add he, pw_mul he hm, rounds_times (pw_row he _)]
theorem pw_inj (he : RowN n e) (hm : IsOrd n e m) {i j : Nat} (hi : i < m) (hj : j < m) (h : pwS n e i = pwS n e j) : i = j := by
  rcases Nat.lt_trichotomy i j with q | q | q
  · exact absurd (pw_eq he i (j - i) (by rw [h]; congr 1; omega)) (hm.2.2 (j - i) (by omega) (by omega))
  · exact q
  · exact absurd (pw_eq he j (i - j) (by rw [← h]; congr 1; omega)) (hm.2.2 (i - j) (by omega) (by omega))
/-- The coset of a row. -/
def cosL (n : Nat) (e : ByteArray) (m : Nat) (x : ByteArray) : List ByteArray := (pwL n e m).map fun p => timesS p x
theorem cosL_mem {x y : ByteArray} : y ∈ cosL n e m x ↔ ∃ k, k < m ∧ y = timesS (pwS n e k) x := by
  rw [cosL, List.mem_map]
  constructor
  · rintro ⟨p, hp, rfl⟩
    rw [pwL, List.mem_map] at hp
    obtain ⟨k, hk, rfl⟩ := hp
    exact ⟨k, List.mem_range.1 hk, rfl⟩
  · rintro ⟨k, hk, rfl⟩
    exact ⟨_, List.mem_map.2 ⟨k, List.mem_range.2 hk, rfl⟩, rfl⟩
theorem cosL_all (he : RowN n e) (hm : IsOrd n e m) (x : ByteArray) (k : Nat) : timesS (pwS n e k) x ∈ cosL n e m x := by
  rw [pw_mod he hm k]
  exact cosL_mem.2 ⟨k % m, Nat.mod_lt _ hm.1, rfl⟩
theorem cosL_nodup (he : RowN n e) (hm : IsOrd n e m) {x : ByteArray} (hx : RowN n x) : (cosL n e m x).Nodup := by
  rw [cosL, pwL, List.map_map]
  refine nodup_of fun i j hij hj hc => ?_
  rw [List.length_map, List.length_range] at hj
  rw [List.getElem?_map, List.getElem?_map, List.getElem?_range (by omega), List.getElem?_range hj] at hc
  injection hc with hc
  have := pw_inj he hm (by omega) hj (times_cancel (pw_row he i) (pw_row he j) hx hc)
  omega
theorem cosL_row (he : RowN n e) {x : ByteArray} (hx : RowN n x) : ∀ y ∈ cosL n e m x, RowN n y := fun y hy => by
  obtain ⟨k, _, rfl⟩ := cosL_mem.1 hy
  exact (pw_row he k).times hx
/-- The least row of a coset. -/
def leastS (n : Nat) (e : ByteArray) (m : Nat) (x : ByteArray) : ByteArray := ((cosL n e m x).mergeSort leS).headD ByteArray.empty
theorem least_mem (hm : IsOrd n e m) (x : ByteArray) : leastS n e m x ∈ cosL n e m x := by
  have h : (cosL n e m x).mergeSort leS ≠ [] := fun h => by
    have h1 := congrArg List.length h
    rw [List.length_mergeSort, cosL, List.length_map, pwL_len] at h1
    have := hm.1
    simp at h1; omega
  obtain ⟨a, r, e1⟩ := List.exists_cons_of_ne_nil h
  have : leastS n e m x = a := by rw [leastS, e1]; rfl
  rw [this, ← List.mem_mergeSort (le := leS), e1]
  exact List.mem_cons_self ..
theorem least_same (he : RowN n e) (hm : IsOrd n e m) {x : ByteArray} (hx : RowN n x) (k : Nat) : leastS n e m (timesS (pwS n e k) x) = leastS n e m x := by
  have hy := (pw_row he k).times hx
  have hsub : ∀ z ∈ cosL n e m (timesS (pwS n e k) x), z ∈ cosL n e m x := fun z hz => by
    obtain ⟨i, _, rfl⟩ := cosL_mem.1 hz
    rw [mul_assoc' (pw_row he i) (pw_row he k) hx, ← pw_add he]
    exact cosL_all he hm x _
  have hp : (cosL n e m (timesS (pwS n e k) x)).Perm (cosL n e m x) := by
    refine (List.perm_ext_iff_of_nodup (cosL_nodup he hm hy) (cosL_nodup he hm hx)).2 fun z => ⟨hsub z, fun hz => ?_⟩
    obtain ⟨i, _, rfl⟩ := cosL_mem.1 hz
    have e1 : timesS (pwS n e (i + (m - k % m))) (timesS (pwS n e k) x) = timesS (pwS n e i) x := by
      have hk := Nat.mod_lt k hm.1
      rw [pw_mod he hm k, mul_assoc' (pw_row he _) (pw_row he _) hx, ← pw_add he, show i + (m - k % m) + k % m = i + m by omega, pw_add he, hm.2.1, mul_rounds (pw_row he i)]
    rw [← e1]
    exact cosL_all he hm _ _
  have : (cosL n e m (timesS (pwS n e k) x)).mergeSort leS = (cosL n e m x).mergeSort leS :=
    srt_unique (List.pairwise_mergeSort leS_trans leS_total _) (List.pairwise_mergeSort leS_trans leS_total _) (((List.mergeSort_perm _ leS).trans hp).trans (List.mergeSort_perm _ leS).symm)
  rw [leastS, leastS, this]
theorem least_eq (he : RowN n e) (hm : IsOrd n e m) {x y : ByteArray} (hx : RowN n x) (hy : RowN n y) (h : leastS n e m x = leastS n e m y) : ∃ k, k < m ∧ y = timesS (pwS n e k) x := by
  obtain ⟨i, hi, ei⟩ := cosL_mem.1 (least_mem hm x)
  obtain ⟨j, hj, ej⟩ := cosL_mem.1 (least_mem hm y)
  have e1 : timesS (pwS n e i) x = timesS (pwS n e j) y := by rw [← ei, ← ej, h]
  have e2 : timesS (pwS n e (m - j)) (timesS (pwS n e j) y) = y := by
    rw [mul_assoc' (pw_row he _) (pw_row he _) hy, ← pw_add he, show m - j + j = m by omega, hm.2.1, rounds_times hy]
  rw [← e1, mul_assoc' (pw_row he _) (pw_row he _) hx, ← pw_add he, pw_mod he hm] at e2
  exact ⟨_, Nat.mod_lt _ hm.1, e2.symm⟩
/-- The rows of the whole: of each part. -/
def wholeL (n : Nat) (e : ByteArray) (m : Nat) (R : List ByteArray) : List ByteArray := (List.range m).flatMap fun j => R.map (timesS (pwS n e j))
theorem whole_iff (he : RowN n e) (hm : IsOrd n e m) {R : List ByteArray} (hR : ∀ x ∈ R, RowN n x) : (wholeL n e m R).Nodup ↔ (R.map (leastS n e m)).Nodup := by
  have hz : ∀ x ∈ R, timesS (pwS n e 0) x = x := fun x hx => rounds_times (hR x hx)
  rw [wholeL, List.Nodup, List.pairwise_flatMap]
  constructor
  · rintro ⟨h1, h2⟩
    have hR0 : R.Nodup := by
      have h0 := h1 0 (List.mem_range.2 hm.1)
      rw [List.pairwise_map] at h0
      exact h0.imp fun h e => h (by rw [e])
    rw [List.pairwise_map]
    refine List.Pairwise.imp_of_mem (fun {x y} hx hy hne hq => ?_) hR0
    obtain ⟨k, hk, ek⟩ := least_eq he hm (hR x hx) (hR y hy) hq
    rcases Nat.eq_zero_or_pos k with rfl | hk0
    · rw [hz x hx] at ek
      exact hne ek.symm
    · rw [List.pairwise_iff_getElem] at h2
      have h3 := h2 0 k (by have := hm.1; simp; omega) (by simpa using hk) hk0
      simp only [List.getElem_range] at h3
      exact h3 y (List.mem_map.2 ⟨y, hy, hz y hy⟩) y (List.mem_map.2 ⟨x, hx, ek.symm⟩) rfl
  · intro h
    rw [List.pairwise_map] at h
    refine ⟨fun j _ => ?_, ?_⟩
    · rw [List.pairwise_map]
      refine List.Pairwise.imp_of_mem (fun {x y} hx hy hne hq => ?_) h
      exact hne (by rw [mul_left (pw_row he j) (hR x hx) (hR y hy) hq])
    · rw [List.pairwise_iff_getElem]
      intro i j hi hj hij x hx y hy hxy
      simp only [List.getElem_range] at hx hy
      obtain ⟨a, ha, rfl⟩ := List.mem_map.1 hx
      obtain ⟨b, hb, rfl⟩ := List.mem_map.1 hy
      have e1 : leastS n e m a = leastS n e m b := by rw [← least_same he hm (hR a ha) i, hxy, least_same he hm (hR b hb) j]
      have hab : a = b := by
        obtain ⟨p, hp, ep⟩ := List.getElem_of_mem ha
        obtain ⟨q, hq, eq⟩ := List.getElem_of_mem hb
        rw [List.pairwise_iff_getElem] at h
        rcases Nat.lt_trichotomy p q with g | g | g
        · exact absurd (by rw [ep, eq]; exact e1) (h p q hp hq g)
        · subst g; rw [← ep, ← eq]
        · exact absurd (by rw [ep, eq]; exact e1.symm) (h q p hq hp g)
      subst hab
      have := pw_inj he hm (by simpa using hi) (by simpa using hj) (times_cancel (pw_row he i) (pw_row he j) (hR a ha) hxy)
      omega
end
/-! The whole of a part: its text is the part's, said again and again. -/
theorem rAt_mul {n : Nat} {p h : ByteArray} (hp : RowN n p) (hh : RowN n h) (l : List ByteArray) : ∀ k, rAt (timesS p h) l k = timesS p (rAt h l k)
  | 0 => rfl
  | k + 1 => by
    have hg := good_rAt hh.1 l k
    have hz : (rAt h l k).size = n := by rw [rAt_size]; exact hh.2
    show applyR (rAt (timesS p h) l k) _ = timesS p (applyR (rAt h l k) _)
    rw [rAt_mul hp hh l k, times_apply hp.1 hg (by rw [hp.2, hz])]
theorem rowsL_mul {n : Nat} {p h : ByteArray} (hp : RowN n p) (hh : RowN n h) (l : List ByteArray) (k : Nat) : rowsL (timesS p h) l k = (rowsL h l k).map (timesS p) := by
  rw [rowsL, rowsL, List.map_map]
  exact List.map_congr_left fun j _ => rAt_mul hp hh l j
section
variable {st : Nat} {l : List ByteArray} {b s u v : ByteArray}
/-- v says u again and again, m times. -/
def Again (u v : ByteArray) (m : Nat) : Prop := v.size = m * u.size ∧ ∀ j i, j < m → i < u.size → letter v (j * u.size + i) = letter u i
theorem hd_row (h3 : 3 ≤ st) (h8 : st ≤ 8) (k : Nat) : RowN st (hdAt st l b s u k) := hdAt_good h3 h8 l b s u k
theorem call_row (h3 : 3 ≤ st) (h8 : st ≤ 8) (c : ByteArray) : RowN st (callHd st l b s c) := ⟨headX_good h3 h8 l _, headX_size (by omega) l _⟩
theorem hd_again (h3 : 3 ≤ st) (h8 : st ≤ 8) {m : Nat} (h : Again u v m) : ∀ j i, j < m → i ≤ u.size → hdAt st l b s v (j * u.size + i) = timesS (pwS st (hdAt st l b s u u.size) j) (hdAt st l b s u i)
  | 0, 0, _, _ => by
    rw [Nat.zero_mul]
    exact (mul_rounds (rowN_rounds h3 h8)).symm
  | j + 1, 0, hj, _ => by
    have e := hd_again h3 h8 h j u.size (by omega) (Nat.le_refl _)
    rw [Nat.add_zero, Nat.succ_mul, e]
    exact (mul_rounds (pw_row (hd_row h3 h8 _) (j + 1))).symm
  | j, i + 1, hj, hi => by
    have e := hd_again h3 h8 h j i hj (by omega)
    show timesS (hdAt st l b s v (j * u.size + i)) (callHd st l b s (letter v (j * u.size + i))) = timesS _ (timesS (hdAt st l b s u i) (callHd st l b s (letter u i)))
    rw [e, h.2 j i hj (by omega), mul_assoc' (pw_row (hd_row h3 h8 _) j) (hd_row h3 h8 i) (call_row h3 h8 _)]
theorem rows_again (h3 : 3 ≤ st) (h8 : st ≤ 8) {m : Nat} (h : Again u v m) {j : Nat} (hj : j < m) : ∀ i, i ≤ u.size → tRows st l b s v (j * u.size + i) = tRows st l b s v (j * u.size) ++ (tRows st l b s u i).map (timesS (pwS st (hdAt st l b s u u.size) j))
  | 0, _ => by simp [tRows, hdsL]
  | i + 1, hi => by
    rw [← Nat.add_assoc, tRows_succ, tRows_succ, rows_again h3 h8 h hj i (by omega), hd_again h3 h8 h j i hj (by omega), rowsL_mul (pw_row (hd_row h3 h8 _) j) (hd_row h3 h8 i), List.map_append, List.append_assoc]
theorem whole_rows (h3 : 3 ≤ st) (h8 : st ≤ 8) {m : Nat} (h : Again u v m) : tRows st l b s v v.size = wholeL st (hdAt st l b s u u.size) m (tRows st l b s u u.size) := by
  have key : ∀ j, j ≤ m → tRows st l b s v (j * u.size) = wholeL st (hdAt st l b s u u.size) j (tRows st l b s u u.size) := by
    intro j
    induction j with
    | zero => intro _; simp [tRows, hdsL, wholeL]
    | succ j ih =>
      intro hj
      rw [Nat.succ_mul, rows_again h3 h8 h hj u.size (Nat.le_refl _), ih (by omega), wholeL, wholeL, List.range_succ, List.flatMap_append]
      simp
  rw [h.1]
  exact key m (Nat.le_refl _)
theorem tRows_row (h3 : 3 ≤ st) (h8 : st ≤ 8) (k : Nat) : ∀ x ∈ tRows st l b s u k, RowN st x := fun x hx => by
  rw [tRows, List.mem_flatMap] at hx
  obtain ⟨h, hh, hx⟩ := hx
  rw [hdsL, List.mem_map] at hh
  obtain ⟨i, _, rfl⟩ := hh
  rw [rowsL, List.mem_map] at hx
  obtain ⟨j, _, rfl⟩ := hx
  have hr : RowN st (hdAt st l b s u i) := hd_row h3 h8 i
  exact ⟨good_rAt hr.1 l j, by rw [rAt_size]; exact hr.2⟩
/-- The proof by one part tells what the rows of the whole tell. -/
theorem parts_law (h3 : 3 ≤ st) (h8 : st ≤ 8) {m : Nat} (hu : 1 ≤ u.size) (hm : IsOrd st (hdAt st l b s u u.size) m) (h : Again u v m) :
    (decide (leadL st l).Nodup && decide ((tRows st l b s u u.size).map (leastS st (hdAt st l b s u u.size) m)).Nodup) = decide (tRows st l b s v v.size).Nodup := by
  have he : RowN st (hdAt st l b s u u.size) := hd_row h3 h8 _
  have hi := whole_iff he hm (tRows_row (l := l) (b := b) (s := s) (u := u) h3 h8 u.size)
  rw [whole_rows h3 h8 h]
  have hl : (wholeL st (hdAt st l b s u u.size) m (tRows st l b s u u.size)).Nodup → (leadL st l).Nodup := fun hw => by
    rw [← whole_rows h3 h8 h] at hw
    obtain ⟨k, hk⟩ : ∃ k, v.size = 1 + k := ⟨v.size - 1, by
      have : 1 ≤ v.size := by rw [h.1]; exact Nat.le_trans hm.1 (Nat.le_mul_of_pos_right _ hu)
      omega⟩
    have hp : ∀ d, (tRows st l b s v (1 + d)).Nodup → (tRows st l b s v 1).Nodup := by
      intro d
      induction d with
      | zero => exact fun q => q
      | succ d ih =>
        intro q
        rw [← Nat.add_assoc, tRows_succ, List.nodup_append] at q
        exact ih q.1
    rw [hk] at hw
    have h1 := hp k hw
    rw [show (1 : Nat) = 0 + 1 from rfl, tRows_succ] at h1
    simpa [tRows, hdsL, leadL, hdAt] using h1
  by_cases hw : (wholeL st (hdAt st l b s u u.size) m (tRows st l b s u u.size)).Nodup
  · rw [decide_eq_true hw, decide_eq_true (hl hw), decide_eq_true (hi.1 hw)]; rfl
  · rw [decide_eq_false hw, decide_eq_false (fun q => hw (hi.2 q)), Bool.and_false]
end
end Go.Proofs.YtidolgonmimicaaGreat
