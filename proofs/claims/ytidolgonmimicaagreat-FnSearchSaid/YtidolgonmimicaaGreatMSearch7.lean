/- Texts 7 of 9 that the claim leans on: plain laws and the walks' contracts, in order. -/
import Derived.Test.YtidolgonmimicaaGreatMSearch6
import Derived.Shelf.Strings.OnBuilder
import Derived.Shelf.Strings.BuilderF
import Derived.Shelf.Strings.BuilderK
import Derived.Shelf.LaysM
import Derived.Shelf.Strings.Repeat
import Derived.Test.YtidolgonmimicaaGreatProg
import Derived.Deep.RegionHeld3
import Derived.Deep.Cut
import Derived.Deep.DeepCutAuto
import Derived.Laws.RangeString
import Derived.Lib.Strings
import Derived.Shelf.Slices.CompactS
import Derived.Lib.OwnBridge
import Derived.BigRegion
set_option linter.unusedVariables false
set_option linter.unusedSimpArgs false
namespace Go.Proofs.YtidolgonmimicaaGreat
open Go.ChangeShapes Go.WideShapes Go.ChangeAt Go.RowKit Go.Deep
theorem incLt {l : List ByteArray} (h : incB l = true) : ∀ (d i : Nat) (x y : ByteArray), l[i]? = some x → l[i + d + 1]? = some y → less x y = true
 | 0, i, x, y, hx, hy => by
  rw [incB, List.all_eq_true] at h
  have := h (i + 1) (List.mem_range.2 (List.getElem?_eq_some_iff.1 hy).1)
  rwa [okInc_pos (by omega) (by simpa using hx) hy] at this
 | d + 1, i, x, y, hx, hy => by
  have hl := (List.getElem?_eq_some_iff.1 hy).1
  have hz : l[i + d + 1]? = some (l[i + d + 1]'(by omega)) := List.getElem?_eq_getElem (by omega)
  have h1 := incLt h d i x _ hx hz
  have h2 := incLt h 0 (i + d + 1) _ y hz hy
  exact less_trans h1 h2
theorem jus_p3 (N : Nat) : ∀ C : List Cut3, C.length ≤ sumC N C
 | [] => Nat.zero_le _
 | x :: C => by
  have h1 := jus_p3 N C
  have h2 : 0 < 3 ^ (N - x.1.size) := Nat.pow_pos (by omega)
  have h3 : sumC N (x :: C) = 3 ^ (N - x.1.size) + sumC N C := by simp [sumC]
  rw [h3, List.length_cons]
  omega
theorem preB_refl (a : ByteArray) : preB a a = true := by simp [preB]
theorem preB_same {a b : ByteArray} (h : preB a b = true) (hs : b.size ≤ a.size) : a = b := by
 rw [preB, Bool.and_eq_true, decide_eq_true_iff] at h
 have e : b.size = a.size := by omega
 have h2 := h.2
 rw [← e, ByteArray.extract_zero_size, bytes_beq, decide_eq_true_iff] at h2
 exact h2.symm
theorem okA_iff {l : List ByteArray} {i j : Nat} {x y : ByteArray} (hx : l[i]? = some x) (hy : l[j]? = some y) : okA l i j = true ↔ (i = j ∨ preB x y = false) := by
 rw [okA_at hx hy]
 by_cases h : i = j
 ·simp [h]
 ·rw [beq_false_of_ne h]; simp [h]
theorem apS_iff {l : List ByteArray} : apS l = true ↔ ∀ (i j : Nat) (x y : ByteArray), l[i]? = some x → l[j]? = some y → i = j ∨ preB x y = false := by
 rw [apS, List.all_eq_true]
 constructor
 ·intro h i j x y hx hy
  have hi := (List.getElem?_eq_some_iff.1 hx).1
  have hj := (List.getElem?_eq_some_iff.1 hy).1
  have h1 := h i (List.mem_range.2 hi)
  rw [rowA, List.all_eq_true] at h1
  exact (okA_iff hx hy).1 (h1 j (List.mem_range.2 hj))
 ·intro h i hi
  rw [rowA, List.all_eq_true]
  intro j hj
  have hi := List.mem_range.1 hi
  have hj := List.mem_range.1 hj
  exact (okA_iff (List.getElem?_eq_getElem hi) (List.getElem?_eq_getElem hj)).2 (h i j _ _ (List.getElem?_eq_getElem hi) (List.getElem?_eq_getElem hj))
theorem apI_iff {T D : List ByteArray} : apI T D = true ↔ apS D = true ∧ ∀ x ∈ D, ∀ t ∈ T, preB x t = false := by
 rw [apI, apS, List.all_eq_true, List.all_eq_true]
 constructor
 ·intro h
  refine ⟨fun i hi => ?_, fun x hx t ht => ?_⟩
  ·have h1 := h i hi
   rw [rowI, Bool.and_eq_true] at h1
   exact h1.1
  ·obtain ⟨i, hi⟩ := List.mem_iff_getElem?.1 hx
   obtain ⟨j, hj⟩ := List.mem_iff_getElem?.1 ht
   have h1 := h i (List.mem_range.2 (List.getElem?_eq_some_iff.1 hi).1)
   rw [rowI, Bool.and_eq_true, List.all_eq_true, List.all_eq_true] at h1
   have h2 := h1.2 j (List.mem_range.2 (List.getElem?_eq_some_iff.1 hj).1)
   rw [okT_at hi hj] at h2
   simpa using h2
 ·rintro ⟨h1, h2⟩ i hi
  rw [rowI, Bool.and_eq_true]
  refine ⟨h1 i hi, ?_⟩
  rw [List.all_eq_true]
  intro j hj
  have hi := List.mem_range.1 hi
  have hj := List.mem_range.1 hj
  rw [okT_at (List.getElem?_eq_getElem hi) (List.getElem?_eq_getElem hj), h2 _ (List.getElem_mem hi) _ (List.getElem_mem hj)]
  rfl
theorem tok_both {st : Nat} {l : List ByteArray} {kb ks : ByteArray} {N : Nat} {T : List ByteArray} (hN1 : 1 ≤ N) (hN6 : N ≤ 6) : (List.range T.length).all (tokS st l kb ks N T) = (incB T && T.all (tokI st l kb ks N)) := by
 rw [Bool.eq_iff_iff, Bool.and_eq_true, List.all_eq_true, List.all_eq_true, incB, List.all_eq_true]
 have good : ∀ t : ByteArray, t.size = N → ((List.range t.size).all (callB t) = true ↔ goodT t = true) := fun t ht => by
  rw [goodT, inB, show decide (1 ≤ (t.size : Int) ∧ (t.size : Int) ≤ 60) = true from decide_eq_true ⟨by omega, by omega⟩, Bool.and_true]
 have one : ∀ (k : Nat) (t : ByteArray), T[k]? = some t → (tokS st l kb ks N T k = true ↔ (okInc T k = true ∧ tokI st l kb ks N t = true)) := fun k t ht => by
  rw [tokS_at ht, tokI]
  simp only [Bool.and_eq_true, decide_eq_true_iff]
  constructor
  ·rintro ⟨h1, h2, h3, h4, h5⟩
   exact ⟨h3, h2, (good t h2).2 h1, h4, h5⟩
  ·rintro ⟨h3, h2, h1, h4, h5⟩
   exact ⟨(good t h2).1 h1, h2, h3, h4, h5⟩
 constructor
 ·intro h
  refine ⟨fun k hk => ?_, fun t ht => ?_⟩
  ·exact ((one k _ (List.getElem?_eq_getElem (List.mem_range.1 hk))).1 (h k hk)).1
  ·obtain ⟨k, hk⟩ := List.mem_iff_getElem?.1 ht
   exact ((one k _ hk).1 (h k (List.mem_range.2 (List.getElem?_eq_some_iff.1 hk).1))).2
 ·rintro ⟨h1, h2⟩ k hk
  exact (one k _ (List.getElem?_eq_getElem (List.mem_range.1 hk))).2 ⟨h1 k hk, h2 _ (List.getElem_mem (List.mem_range.1 hk))⟩
theorem ck_eq {nm : ByteArray} {st : Nat} {l : List ByteArray} {kb ks : ByteArray} {N : Nat} {T : List ByteArray} {C : List Cut3} {ok : Bool} : ckI nm st l kb ks N T C ok = ckS nm st l kb ks N T C ok := by
 rcases ha : askS nm st l kb ks N
 ·rw [ckI, ckS, ha]; rfl
 obtain ⟨_, hN1, hN6⟩ := askS_t ha
 rcases ok
 ·rw [ckI, ckS]; simp
 rw [ckI, ckS, ha, tok_both hN1 hN6]
 simp only [Bool.true_and]
 rw [Bool.eq_iff_iff]
 simp only [Bool.and_eq_true, decide_eq_true_iff]
 constructor
 ·rintro ⟨h1, h2, h3, h4, h5⟩
  have hc := jus_p3 N C
  refine ⟨by omega, ⟨h1, h4⟩, h2, ?_, h3⟩
  obtain ⟨a1, a2⟩ := apI_iff.1 h5
  have hT : ∀ t ∈ T, t.size = N := fun t ht => by
   have := List.all_eq_true.1 h4 t ht
   rw [tokI, Bool.and_eq_true, decide_eq_true_iff] at this
   exact this.1
  have hD : ∀ d ∈ txC C, d.size ≤ N := fun d hd => by
   obtain ⟨x, hx, rfl⟩ := List.mem_map.1 hd
   have := List.all_eq_true.1 h2 x hx
   rw [jusB, Bool.and_eq_true, pfxB, Bool.and_eq_true, decide_eq_true_iff] at this
   exact this.1.1
  rw [apS_iff] at a1 ⊢
  intro i j x y hx hy
  rw [List.getElem?_append] at hx hy
  by_cases hi : i < T.length <;> by_cases hj : j < T.length
  ·rw [if_pos hi] at hx
   rw [if_pos hj] at hy
   by_cases hij : i = j
   ·exact Or.inl hij
   ·right
    rcases hp : preB x y
    ·rfl
    ·have e := preB_same hp (by rw [hT x (List.mem_of_getElem? hx), hT y (List.mem_of_getElem? hy)]; exact Nat.le_refl _)
     subst e
     rcases Nat.lt_or_gt_of_ne hij with q | q
     ·have := incLt h1 (j - i - 1) i x x hx (by rw [show i + (j - i - 1) + 1 = j by omega]; exact hy)
      rw [less_irr] at this; cases this
     ·have := incLt h1 (i - j - 1) j x x hy (by rw [show j + (i - j - 1) + 1 = i by omega]; exact hx)
      rw [less_irr] at this; cases this
  ·rw [if_pos hi] at hx
   rw [if_neg hj] at hy
   right
   have mx := List.mem_of_getElem? hx
   have my := List.mem_of_getElem? hy
   rcases hp : preB x y
   ·rfl
   ·have e := preB_same hp (by rw [hT x mx]; exact hD y my)
    subst e
    have := a2 x my x mx
    rw [preB_refl] at this; cases this
  ·rw [if_neg hi] at hx
   rw [if_pos hj] at hy
   exact Or.inr (a2 x (List.mem_of_getElem? hx) y (List.mem_of_getElem? hy))
  ·rw [if_neg hi] at hx
   rw [if_neg hj] at hy
   rcases a1 _ _ x y hx hy with q | q
   ·left; omega
   ·exact Or.inr q
 ·rintro ⟨h0, ⟨h1, h4⟩, h2, h5, h3⟩
  refine ⟨h1, h2, h3, h4, ?_⟩
  rw [apS_iff] at h5
  rw [apI_iff, apS_iff]
  refine ⟨fun i j x y hx hy => ?_, fun x hx t ht => ?_⟩
  ·rcases h5 (T.length + i) (T.length + j) x y (by rw [List.getElem?_append_right (by omega), Nat.add_sub_cancel_left]; exact hx) (by rw [List.getElem?_append_right (by omega), Nat.add_sub_cancel_left]; exact hy) with q | q
   ·left; omega
   ·exact Or.inr q
  ·obtain ⟨i, hi⟩ := List.mem_iff_getElem?.1 hx
   obtain ⟨j, hj⟩ := List.mem_iff_getElem?.1 ht
   have hjl := (List.getElem?_eq_some_iff.1 hj).1
   rcases h5 (T.length + i) j x t (by rw [List.getElem?_append_right (by omega), Nat.add_sub_cancel_left]; exact hi) (by rw [List.getElem?_append_left hjl]; exact hj) with q | q
   ·omega
   ·exact q
end Go.Proofs.YtidolgonmimicaaGreat
namespace Go.Proofs.YtidolgonmimicaaGreat
open Go.ChangeShapes Go.WideShapes Go.ChangeAt Go.RowKit Go.Deep
theorem goodF_of {nm : ByteArray} {st : Nat} {l : List ByteArray} {kb ks : ByteArray} {N : Nat} {t : ByteArray} (h : askS nm st l kb ks N = true) (hp : preT t) (ht : t.size = N) : goodF nm (st : Int) l kb ks t = true := by
 obtain ⟨h1, h2, h3⟩ := askS_t h
 rw [goodF, h1, Bool.true_and, goodT, Bool.and_eq_true, List.all_eq_true]
 refine ⟨fun k hk => hp.2 k (List.mem_range.1 hk), ?_⟩
 rw [inB, decide_eq_true_iff]; omega
end Go.Proofs.YtidolgonmimicaaGreat
namespace Go.Proofs
open Go.Shelf
def Tryz.lays105_ren : Go.Shelf.Ren := ⟨fun | 105 => 86 | 212 => 171 | 99 => 172 | 165 => 173 | 166 => 174 | 170 => 175 | 169 => 176 | 263 => 217 | 264 => 218 | 206 => 219 | 240 => 220 | 241 => 221 | 276 => 248 | 277 => 249 | n => n, fun | 9 => 9 | 3 => 3 | 4 => 4 | 20 => 20 | 0 => 0 | 46 => 149 | 109 => 150 | 5 => 5 | 72 => 154 | 76 => 158 | 51 => 178 | 146 => 179 | 53 => 85 | 148 => 181 | 70 => 152 | 37 => 22 | 75 => 157 | 127 => 183 | 164 => 198 | 80 => 108 | n => n, fun | n => n⟩
end Go.Proofs
namespace Go.Proofs.YtidolgonmimicaaGreat
open Go.ChangeShapes Go.WideShapes Go.ChangeAt Go.RowKit Go.Deep
def repT (t : ByteArray) (m : Nat) : ByteArray := ⟨(Lib.repeatL t.data.toList m).toArray⟩
def WhP (nm : ByteArray) (st : Nat) (l : List ByteArray) (kb ks t : ByteArray) (x : ByteArray) (ok : Bool) : Prop :=
 ∃ m, PaP nm st l kb ks t m ∧ ok = (goodF nm (st : Int) l kb ks t && decide (m * t.size ≤ 60)) ∧ x = if ok = true then repT t m else ⟨#[]⟩
theorem WhP.uniq {nm : ByteArray} {st : Nat} {l : List ByteArray} {kb ks t x y : ByteArray} {a b : Bool} (h : WhP nm st l kb ks t x a) (g : WhP nm st l kb ks t y b) : a = b ∧ x = y := by
 obtain ⟨m, h1, h2, h3⟩ := h
 obtain ⟨k, g1, g2, g3⟩ := g
 obtain rfl := h1.uniq g1
 obtain rfl : a = b := by rw [h2, g2]
 exact ⟨rfl, by rw [h3, g3]⟩
def WhR (nm : ByteArray) (st : Nat) (l : List ByteArray) (kb ks t : ByteArray) (w : World) (e : Ending) (w' : World) : Prop :=
 ∃ (x : ByteArray) (ok : Bool), e = .returned (.tuple #[.string x, .bool ok]) ∧ WhP nm st l kb ks t x ok ∧ Below w.heap.size w w'
theorem WhR.mk {nm : ByteArray} {st : Nat} {l : List ByteArray} {kb ks t : ByteArray} {w w' : World} {e : Ending} (x : ByteArray) (ok : Bool) (he : e = .returned (.tuple #[.string x, .bool ok])) (h1 : WhP nm st l kb ks t x ok) (h2 : Below w.heap.size w w') : WhR nm st l kb ks t w e w' := ⟨x, ok, he, h1, h2⟩
end Go.Proofs.YtidolgonmimicaaGreat
namespace Go.Proofs.YtidolgonmimicaaGreat
open Go.ChangeShapes Go.WideShapes Go.ChangeAt Go.RowKit Go.Deep
theorem bt_of {t : ByteArray} {k : Nat} {x : UInt8} (h : t.data.toList[k]? = some x) : PlainAid.bt t k = (x.toNat : Int) := by
 obtain ⟨hk, hx⟩ := List.getElem?_eq_some_iff.1 h
 have hk' : k < t.size := by simpa using hk
 rw [← PlainAid.get_bt t k hk', ← hx]
 rfl
end Go.Proofs.YtidolgonmimicaaGreat
namespace Go.Proofs.YtidolgonmimicaaGreat
open Go.ChangeShapes Go.WideShapes Go.ChangeAt Go.RowKit Go.Deep
def nxB (z : Int) : Int := if z = 98 then 112 else 115
def ntL (t : ByteArray) (i : Nat) : List Int := (nums t).take i ++ nxB (PlainAid.bt t i) :: List.replicate (t.size - 1 - i) 98
def ntS (t : ByteArray) (i : Nat) : ByteArray := strOfNums (ntL t i)
theorem ntL_len {t : ByteArray} {i : Nat} (h : i < t.size) : (ntL t i).length = t.size := by
 rw [ntL, List.length_append, List.length_cons, List.length_replicate, List.length_take, nums_len]
 omega
theorem ntS_size {t : ByteArray} {i : Nat} (h : i < t.size) : (ntS t i).size = t.size := by rw [ntS, strOfNums_size, ntL_len h]
theorem nums_back (t : ByteArray) : (nums t).map (fun n => UInt8.ofNat n.toNat) = t.data.toList := by
 apply List.ext_getElem?
 intro k
 rw [List.getElem?_map]
 by_cases hk : k < t.size
 ·rw [nums_at hk, Option.map_some, ← PlainAid.get_bt t k hk, Int.toNat_natCast]
  have : t.data.toList[k]? = some t.data[k] := by rw [Array.getElem?_toList]; exact Array.getElem?_eq_getElem hk
  rw [this]
  congr 1
  have : t[k] = t.data[k] := rfl
  rw [this]
  exact UInt8.ofNat_toNat
 ·rw [List.getElem?_eq_none (by rw [nums_len]; omega), List.getElem?_eq_none (by simp; omega)]; rfl
theorem ntS_data (t : ByteArray) (i : Nat) : (ntS t i).data.toList = t.data.toList.take i ++ UInt8.ofNat (nxB (PlainAid.bt t i)).toNat :: List.replicate (t.size - 1 - i) 98 := by
 have e : (ntS t i).data.toList = (ntL t i).map fun n => UInt8.ofNat n.toNat := strOfNums_data _
 rw [e, ntL, List.map_append, List.map_cons, List.map_take, nums_back, List.map_replicate]
 rfl
theorem ntS_less {t : ByteArray} {i : Nat} (h : i < t.size) (hc : PlainAid.bt t i = 98 ∨ PlainAid.bt t i = 112) : less t (ntS t i) = true := by
 rw [less, ByteArray.toList_eq, ByteArray.toList_eq, ntS_data]
 have hk : i < t.data.toList.length := by simpa using h
 have e : t.data.toList = t.data.toList.take i ++ t.data.toList[i] :: t.data.toList.drop (i + 1) := by
  rw [← List.drop_eq_getElem_cons hk, List.take_append_drop]
 have hb := bt_of (List.getElem?_eq_getElem hk)
 conv => arg 1; arg 1; rw [e]
 apply bytes_step
 have hb2 : (t.data.toList[i]).toNat = 98 ∨ (t.data.toList[i]).toNat = 112 := by omega
 rw [UInt8.lt_iff_toNat_lt]
 rcases hc with hc | hc
 ·rw [hc] at hb ⊢
  have : (UInt8.ofNat (nxB 98).toNat).toNat = 112 := by decide
  omega
 ·rw [hc] at hb ⊢
  have : (UInt8.ofNat (nxB 112).toNat).toNat = 115 := by decide
  omega
def NtP (t y : ByteArray) (ok : Bool) : Prop :=
 (ok = true ∧ goodT t = true ∧ ∃ i, i < t.size ∧ PlainAid.bt t i ≠ 115 ∧ (∀ j, i < j → j < t.size → PlainAid.bt t j = 115) ∧ y = ntS t i) ∨ (ok = false ∧ y = ⟨#[]⟩ ∧ (goodT t = false ∨ ∀ j, j < t.size → PlainAid.bt t j = 115))
theorem NtP.uniq {t x y : ByteArray} {a b : Bool} (h : NtP t x a) (g : NtP t y b) : a = b ∧ x = y := by
 rcases h with ⟨rfl, h1, i, h2, h3, h4, rfl⟩ | ⟨rfl, rfl, h1⟩ <;> rcases g with ⟨rfl, g1, j, g2, g3, g4, rfl⟩ | ⟨rfl, rfl, g1⟩
 ·have : i = j := by
   rcases Nat.lt_trichotomy i j with q | q | q
   ·exact absurd (h4 j q g2) g3
   ·exact q
   ·exact absurd (g4 i q h2) h3
  subst this
  exact ⟨rfl, rfl⟩
 ·rcases g1 with g1 | g1
  ·rw [h1] at g1; cases g1
  ·exact absurd (g1 i h2) h3
 ·rcases h1 with h1 | h1
  ·rw [g1] at h1; cases h1
  ·exact absurd (h1 j g2) g3
 ·exact ⟨rfl, rfl⟩
theorem callB_or {t : ByteArray} {k : Nat} (h : callB t k = true) : PlainAid.bt t k = 98 ∨ PlainAid.bt t k = 112 ∨ PlainAid.bt t k = 115 := by
 rw [callB, Bool.or_eq_true, Bool.or_eq_true, beq_iff_eq, beq_iff_eq, beq_iff_eq] at h
 omega
theorem NtP.law {t y : ByteArray} (h : NtP t y true) : y.size = t.size ∧ less t y = true := by
 rcases h with ⟨_, h1, i, h2, h3, h4, rfl⟩ | ⟨h, _⟩
 ·refine ⟨ntS_size h2, ntS_less h2 ?_⟩
  have := callB_or ((goodT_t h1).2.2 i h2)
  omega
 ·cases h
def ntM (t : ByteArray) (k : Nat) : List Int := (nums t).take k ++ List.replicate (t.size - k) 98
end Go.Proofs.YtidolgonmimicaaGreat
namespace Go.Proofs.YtidolgonmimicaaGreat
open Go.ChangeShapes Go.WideShapes Go.ChangeAt Go.RowKit Go.Deep
def stOk (nm : ByteArray) (st : Nat) (l : List ByteArray) (kb ks : ByteArray) (N bd : Nat) : Bool := askS nm st l kb ks N && inB (bd : Int) 1 5000
noncomputable def stR (nm : ByteArray) (st : Nat) (l : List ByteArray) (kb ks : ByteArray) (N bd : Nat) : SS := if stOk nm st l kb ks N bd = true then foundF st l kb ks N bd else ⟨0, [], [], false⟩
theorem stR_t {nm : ByteArray} {st : Nat} {l : List ByteArray} {kb ks : ByteArray} {N bd : Nat} (h : stOk nm st l kb ks N bd = true) : stR nm st l kb ks N bd = foundF st l kb ks N bd := if_pos h
theorem stR_f {nm : ByteArray} {st : Nat} {l : List ByteArray} {kb ks : ByteArray} {N bd : Nat} (h : stOk nm st l kb ks N bd = false) : stR nm st l kb ks N bd = ⟨0, [], [], false⟩ := if_neg (by rw [h]; simp)
theorem pre_kidT {p q : ByteArray} (h : preT p) (hz : p.size < 60) (hq : q ∈ kids p) : preT q := by
 have hs := kid_size hq
 refine ⟨by omega, fun k hk => ?_⟩
 have hb : ∀ (x : UInt8), q = p ++ ⟨#[x]⟩ → (x = 98 ∨ x = 112 ∨ x = 115) → callB q k = true := fun x e hx => by
  have hl : q.data.toList = p.data.toList ++ [x] := by rw [e, ByteArray.data_append, Array.toList_append]
  by_cases hkp : k < p.size
  ·have h1 := h.2 k hkp
   have g1 : p.data.toList[k]? = some (p.data.toList[k]'(by simpa using hkp)) := List.getElem?_eq_getElem _
   have g2 : q.data.toList[k]? = some (p.data.toList[k]'(by simpa using hkp)) := by rw [hl, List.getElem?_append_left (by simpa using hkp)]; exact g1
   rw [callB, bt_of g1] at h1
   rw [callB, bt_of g2]; exact h1
  ·obtain rfl : k = p.size := by omega
   have g2 : q.data.toList[p.size]? = some x := by
    rw [hl, List.getElem?_append_right (by simp)]
    simp
   rw [callB, bt_of g2]
   rcases hx with rfl | rfl | rfl <;> decide
 simp only [kids, List.mem_cons, List.not_mem_nil, or_false] at hq
 rcases hq with e | e | e
 ·exact hb 98 e (Or.inl rfl)
 ·exact hb 112 e (Or.inr (Or.inl rfl))
 ·exact hb 115 e (Or.inr (Or.inr rfl))
theorem rev_at (S : List ByteArray) (p : ByteArray) : (p :: S).reverse[S.length]? = some p := by
 rw [List.reverse_cons, List.getElem?_append_right (by simp)]
 simp
theorem rev_take (S : List ByteArray) (p : ByteArray) : (p :: S).reverse.take S.length = S.reverse := by
 rw [List.reverse_cons, List.take_append_of_le_length (by simp), List.take_of_length_le (by simp)]
theorem rev_kids (S : List ByteArray) (p : ByteArray) : (kids p ++ S).reverse = S.reverse ++ [p ++ ⟨#[115]⟩, p ++ ⟨#[112]⟩, p ++ ⟨#[98]⟩] := by
 rw [List.reverse_append]; rfl
set_option maxHeartbeats 8000000 in
set_option maxRecDepth 100000 in
theorem spec_SearchTouches {A : Option Addr} {n c st : Nat} {nm : ByteArray} {l : List ByteArray} {kb ks : ByteArray} {N bd : Nat} {w : World} (hn : l.length = n) (h : Strs w A l) (hz : n ≤ 1048576) (hs : ∀ s ∈ l, s.size ≤ 16777216) (hnm : nm.size ≤ 16777216) (h9 : st ≤ 1000) (hkb : kb.size ≤ 16777216) (hks : ks.size ≤ 16777216) (hN : N ≤ 1000) (hbd : bd ≤ 10000) (hcap : n ≤ c) :
  Calls Tryz.prog 62 #[.agg #[.string nm, .int .i64 st, .slice A n c], .agg #[.string kb, .string ks], .int .i64 (N : Int), .int .i64 (bd : Int)] w fun e w' => FdR (stR nm st l kb ks N bd) (stOk nm st l kb ks N bd) w e w' := by
 have HOK : Hid (stOk nm st l kb ks N bd = (askS nm st l kb ks N && inB (bd : Int) 1 5000)) := Lib.hid rfl
 have HRT := Lib.hid (@stR_t nm st l kb ks N bd)
 have HRF := Lib.hid (@stR_f nm st l kb ks N bd)
 have HT := Lib.hid (@askS_t nm st l kb ks N)
 have b0 : Below w.heap.size w (((w.alloc (.cells ⟨[.string nm, .int .i64 st, .slice A n c]⟩ 25)).alloc (.cells ⟨[.string kb, .string ks]⟩ 27)).alloc (.cells #[.slice none 0 0, .slice none 0 0, .bool false] 75)) := by (repeat' (first | (with_reducible exact Below.refl _ _) | (with_reducible assumption) | (with_reducible refine below_drewN ?_ _) | (with_reducible refine Below.drew ?_) | (with_reducible refine below_alloc ?_ _) | (with_reducible refine Below.alloc ?_ ?_ _) | (with_reducible refine Below.setCell ?_ ?_ _) | (with_reducible refine below_go ?_ (by with_reducible assumption)) | (with_reducible refine below_then (by with_reducible assumption) ?_ ?_) | go_size))
 have K0 := ((Blk.at_ w 25 [.string nm, .int .i64 st, .slice A n c] (b := w.heap.size) rfl).alloc (.cells ⟨[.string kb, .string ks]⟩ 27)).alloc (.cells #[.slice none 0 0, .slice none 0 0, .bool false] 75)
 have J0 := (Blk.at_ (w.alloc (.cells ⟨[.string nm, .int .i64 st, .slice A n c]⟩ 25)) 27 [.string kb, .string ks] (b := w.heap.size + 1) (by simp)).alloc (.cells #[.slice none 0 0, .slice none 0 0, .bool false] 75)
 have D0 := Blk.at_ ((w.alloc (.cells ⟨[.string nm, .int .i64 st, .slice A n c]⟩ 25)).alloc (.cells ⟨[.string kb, .string ks]⟩ 27)) 75 [.slice none 0 0, .slice none 0 0, .bool false] (b := w.heap.size + 1 + 1) (by simp)
 have HW := Lib.hid h
 have H0 := h.up b0
 clear h
 go_in
 go_wp2_with fail
 obtain ⟨w0, hw0⟩ : ∃ u, u = (((w.alloc (.cells #[.string nm, .int .i64 st, .slice A n c] 25)).alloc (.cells #[.string kb, .string ks] 27)).alloc (.cells #[.slice none 0 0, .slice none 0 0, .bool false] 75)) := ⟨_, rfl⟩
 rw [← hw0] at b0 K0 J0 D0 H0 ⊢
 clear hw0
 obtain ⟨M, hM⟩ : ∃ u, u = w.heap.size := ⟨_, rfl⟩
 have HMW := Lib.hid hM
 rw [← hM] at K0 J0 D0 ⊢
 clear hM
 refine (spec_l13Asked (nm := nm) hn H0 hz hs hnm h9 hkb hks hN).mono ?_; rintro e w1 ⟨rfl, hb1⟩
 have K1 := K0.up hb1
 have J1 := J0.up hb1
 have D1 := D0.up hb1
 have B1 := below_go b0 hb1
 clear K0 J0 D0 H0 b0 hb1
 have hDlt := D1.lt
 have d0 := D1.cell 0; have d1 := D1.cell 1; have d2 := D1.cell 2
 simp only [List.getElem?_cons_zero, List.getElem?_cons_succ] at d0 d1 d2
 have f0 := D1.frozen 0; have f1 := D1.frozen 1; have f2 := D1.frozen 2
 have VZ := ((D1.set_ 0 (.slice none 0 0)).set_ 1 (.slice none 0 0)).set_ 2 (.bool false)
 have fin : Hid (∀ (u : World) (x0 x1 x2 : Value), Below w.heap.size w u → Below w.heap.size w (((u.setCell ⟨M + 1 + 1, 0, none⟩ x0).setCell ⟨M + 1 + 1, 1, none⟩ x1).setCell ⟨M + 1 + 1, 2, none⟩ x2)) := Lib.hid (fun u x0 x1 x2 hu => by
  rw [HMW.out]
  exact ((hu.setCell (p := ⟨_, 0, none⟩) (by simp; omega) _).setCell (p := ⟨_, 1, none⟩) (by simp; omega) _).setCell (p := ⟨_, 2, none⟩) (by simp; omega) _)
 have v0 := VZ.cell 0; have v1 := VZ.cell 1; have v2 := VZ.cell 2
 simp only [List.set_cons_zero, List.set_cons_succ, List.getElem?_cons_zero, List.getElem?_cons_succ] at v0 v1 v2
 rcases hg : askS nm st l kb ks N
 ·have e2 := Lib.hid (show stOk nm st l kb ks N bd = false by rw [HOK.out, hg]; rfl)
  clear hg
  go_wp2_with fail
  refine bodyPost_ret (v := .tuple #[.agg #[.slice none 0 0, .slice none 0 0, .bool false], .bool false]) (by simp [results, Tryz.results62, go_sem, v0, v1, v2]) rfl ?_
  rw [HRF.out e2.out, e2.out]
  exact FdR.mk _ _ _ _ _ _ _ _ rfl rfl rfl (Owned.nil strE_len _ _ _) (Owned.nil cutE_len _ _ _) (by omega) (by omega) (fin.out _ _ _ _ B1)
 ·obtain ⟨hk, hN1, hN6⟩ := HT.out hg
  rcases hbb : inB (bd : Int) 1 5000
  ·have e2 := Lib.hid (show stOk nm st l kb ks N bd = false by rw [HOK.out, hg, hbb]; rfl)
   have HBB := Lib.hid hbb
   clear hg hbb
   go_wp2_with (go_at_call 81; refine (spec_l1In _ _ _ _).mono ?_; rw [HBB.out]; rintro e w' ⟨rfl, rfl⟩)
   refine bodyPost_ret (v := .tuple #[.agg #[.slice none 0 0, .slice none 0 0, .bool false], .bool false]) (by simp [results, Tryz.results62, go_sem, v0, v1, v2]) rfl ?_
   rw [HRF.out e2.out, e2.out]
   exact FdR.mk _ _ _ _ _ _ _ _ rfl rfl rfl (Owned.nil strE_len _ _ _) (Owned.nil cutE_len _ _ _) (by omega) (by omega) (fin.out _ _ _ _ B1)
  ·have e2 := Lib.hid (show stOk nm st l kb ks N bd = true by rw [HOK.out, hg, hbb]; rfl)
   have HBB := Lib.hid hbb
   have hb5 := inB_t hbb
   have HRR := Lib.hid (HRT.out e2.out)
   have HFD := Lib.hid (show foundF st l kb ks N bd = runF (cutF st l kb ks N) N bd [⟨#[]⟩] [] [] from rfl)
   obtain ⟨R, hR⟩ : ∃ u, u = foundF st l kb ks N bd := ⟨_, rfl⟩
   rw [← hR] at HFD HRR
   have RC := Lib.hid (fun (b : Nat) (p : ByteArray) (S T : List ByteArray) (C : List Cut3) (c : Cut3) (h : cutF st l kb ks N p = some c) => @run_cut (cutF st l kb ks N) N b p S T C c h)
   have RT := Lib.hid (fun (b : Nat) (p : ByteArray) (S T : List ByteArray) (C : List Cut3) (h : cutF st l kb ks N p = none) (hp : p.size = N) => @run_touch (cutF st l kb ks N) N b p S T C h hp)
   have RK := Lib.hid (fun (b : Nat) (p : ByteArray) (S T : List ByteArray) (C : List Cut3) (h : cutF st l kb ks N p = none) (hp : ¬ p.size = N) => @run_kids (cutF st l kb ks N) N b p S T C h hp)
   have RE := Lib.hid (fun (b : Nat) (S T : List ByteArray) (C : List Cut3) (h : b = 0 ∨ S = []) => @run_end (cutF st l kb ks N) N b S T C h)
   have HLIT := Lib.hid (own_lit1_at' strE_len (w1.alloc (.cells #[.slice none 0 0, .slice none 0 0, .bool false] 75)) 9 ⟨#[]⟩ (b := w1.heap.size + 1) (base := w.heap.size) (by simp) (by have := B1.size; simp; omega))
   have HST : Hid (StS w ((w1.alloc (.cells #[.slice none 0 0, .slice none 0 0, .bool false] 75)).alloc (.cells #[.string ⟨#[]⟩] 9)) M nm st A n c kb ks w1.heap.size none 0 0 none 0 0 (some ⟨w1.heap.size + 1, 0, none⟩) 1 1 [] [] [⟨#[]⟩]) := Lib.hid ⟨by (repeat' (first | (with_reducible exact Below.refl _ _) | (with_reducible assumption) | (with_reducible refine below_drewN ?_ _) | (with_reducible refine Below.drew ?_) | (with_reducible refine below_alloc ?_ _) | (with_reducible refine Below.alloc ?_ ?_ _) | (with_reducible refine Below.setCell ?_ ?_ _) | (with_reducible refine below_go ?_ (by with_reducible assumption)) | (with_reducible refine below_then (by with_reducible assumption) ?_ ?_) | go_size)), (K1.alloc _).alloc _, (J1.alloc _).alloc _, (D1.alloc _).alloc _, (Blk.at_ w1 75 [.slice none 0 0, .slice none 0 0, .bool false] (b := w1.heap.size) rfl).alloc _, ⟨hDlt, by rw [HMW.out]; exact Nat.le_refl _⟩, Owned.nil strE_len _ _ _, Owned.nil cutE_len _ _ _, HLIT.out, fun z hz => by simp [Value.ownBlock] at hz⟩
   clear hg hbb d0 d1 d2 f0 f1 f2 v0 v1 v2 VZ K1 J1 D1 hR
   go_wp2_with (go_at_call 81; refine (spec_l1In _ _ _ _).mono ?_; rw [HBB.out]; rintro e w' ⟨rfl, rfl⟩)
   have HP0 : Hid (∀ p ∈ [(⟨#[]⟩ : ByteArray)], preT p ∧ p.size ≤ N) := Lib.hid (fun p hp => by
    rw [List.mem_singleton.1 hp]
    exact ⟨⟨Nat.zero_le _, fun k hk => absurd hk (Nat.not_lt_zero _)⟩, Nat.zero_le _⟩)
   obtain ⟨F, hF⟩ : ∃ u, u = w1.heap.size := ⟨_, rfl⟩
   rw [← hF] at HST ⊢
   clear hF HLIT
   go_loopw [3, 11] (fun bv sv wr => ∃ (b : Nat) (AT : Option Addr) (nT cT : Nat) (AC : Option Addr) (nC cC : Nat) (AS : Option Addr) (nS cS : Nat) (T : List ByteArray) (C : List Cut3) (S : List ByteArray), bv = .int .i64 b ∧ sv = .slice AS nS cS ∧ nT + b ≤ bd ∧ nC + b ≤ bd ∧ nS + 3 * b ≤ 1 + 3 * bd ∧ Hid (StS w wr M nm st A n c kb ks F AT nT cT AC nC cC AS nS cS T C S) ∧ Hid (runF (cutF st l kb ks N) N b S T C = R) ∧ Hid (∀ p ∈ S, preT p ∧ p.size ≤ N)) (fun bv _ _ => (intOf bv).toNat)
   case atStart => exact ⟨bd, none, 0, 0, none, 0, 0, _, 1, 1, [], [], _, rfl, rfl, by omega, by omega, by omega, HST, Lib.hid HFD.out.symm, HP0⟩
   case round =>
    clear HST
    obtain ⟨b, AT, nT, cT, AC, nC, cC, AS, nS, cS, T, C, S, rfl, rfl, hnT, hnC, hnS, HS, HR, HP⟩ := hrel
    rename World => wr
    have hSl : nS = S.length := by have := HS.out.s.len; rw [List.length_reverse] at this; exact this.symm
    have HSL := Lib.hid hSl
    by_cases hend : b = 0 ∨ nS = 0
    ·obtain ⟨ee, hee⟩ : ∃ u, u = S.isEmpty := ⟨_, rfl⟩
     have HRE := Lib.hid (show R = ⟨b, T, C, ee⟩ by
      rw [← HR.out, hee]
      exact RE.out b S T C (hend.imp id (fun e => List.length_eq_zero_iff.1 (by omega))))
     have hq : ((nS : Int) == 0) = ee := by
      rw [hee, hSl]
      cases S with
      | nil => rfl
      | cons p S => simp; omega
     have hF := HS.out.f
     have hD := HS.out.d
     have hfM := HS.out.fM.1
     have g1 : wr.grownBy (wr.setCell ⟨F, 2, none⟩ (.bool ee)) (some F) := only_set _ (p := ⟨F, 2, none⟩) _
     have T1 := HS.out.t.kept g1 (fun k hk e => blkNe HS.out.t hF (by decide) (e.trans hk.symm))
     have C1 := HS.out.c.kept g1 (fun k hk e => blkNe HS.out.c hF (by decide) (e.trans hk.symm))
     have D1 := hD.grown g1 (fun e => by injection e with e; omega)
     have F1 := hF.set_ 2 (.bool ee)
     have c0 := hF.cell 2
     have ff := hF.frozen 2
     simp only [List.getElem?_cons_zero, List.getElem?_cons_succ] at c0
     have HB7 := Lib.hid (HS.out.b.setCell (p := ⟨F, 2, none⟩) (by have h1 := HS.out.fM; simp; omega) (.bool ee))
     clear hee g1 hF hD hSl
     have tail : Hid (∀ w7 : World, w7 = wr.setCell ⟨F, 2, none⟩ (.bool ee) → Below w.heap.size w w7 ∧ Blk w7 F 75 [.slice AT nT cT, .slice AC nC cC, .bool ee] ∧ Blk w7 (M + 1 + 1) 75 [.slice none 0 0, .slice none 0 0, .bool false] ∧ Owned strE 1 9 w7 w.heap.size AT nT cT T ∧ Owned cutE 3 29 w7 w.heap.size AC nC cC C) := Lib.hid (fun w7 e7 => by
      subst e7
      exact ⟨HB7.out, F1, D1, T1, C1⟩)
     clear T1 C1 D1 F1 HB7
     have fini : Hid (∀ w7 : World, Below w.heap.size w w7 → Blk w7 (M + 1 + 1) 75 [.slice none 0 0, .slice none 0 0, .bool false] → Owned strE 1 9 w7 w.heap.size AT nT cT T → Owned cutE 3 29 w7 w.heap.size AC nC cC C → FdR (stR nm st l kb ks N bd) (stOk nm st l kb ks N bd) w (.returned (.tuple #[.agg #[.slice AT nT cT, .slice AC nC cC, .bool ee], .bool true])) (((w7.setCell ⟨M + 1 + 1, 0, none⟩ (.slice AT nT cT)).setCell ⟨M + 1 + 1, 1, none⟩ (.slice AC nC cC)).setCell ⟨M + 1 + 1, 2, none⟩ (.bool ee))) := Lib.hid (fun w7 hb7 D7 T7 C7 => by
      rw [HRR.out, e2.out, HRE.out]
      have g2 := sets3_grown w7 (M + 1 + 1) (.slice AT nT cT) (.slice AC nC cC) (.bool ee)
      exact FdR.mk AT nT cT AC nC cC ee true rfl rfl rfl (T7.kept g2 (fun k hk e => blkNe T7 D7 (by decide) (e.trans hk.symm))) (C7.kept g2 (fun k hk e => blkNe C7 D7 (by decide) (e.trans hk.symm))) (by omega) (by omega) (fin.out w7 _ _ _ hb7))
     by_cases h0 : nS = 0
     ·have hI : ¬ (0 : Int) < (nS : Int) := by omega
      clear h0
      go_upto_region 16 with fail
      obtain ⟨w7, hw7⟩ : ∃ u, u = wr.setCell ⟨F, 2, none⟩ (.bool ee) := ⟨_, rfl⟩
      rw [← hw7]
      obtain ⟨B7, F7, D7, T7, C7⟩ := tail.out w7 hw7
      clear hw7 tail c0 ff hI hq
      have HFI := Lib.hid (fini.out w7 B7 D7 T7 C7)
      have V := ((D7.set_ 0 (.slice AT nT cT)).set_ 1 (.slice AC nC cC)).set_ 2 (.bool ee)
      have v0 := V.cell 0; have v1 := V.cell 1; have v2 := V.cell 2
      have d0 := D7.cell 0; have d1 := D7.cell 1; have d2 := D7.cell 2
      have fd0 := D7.frozen 0; have fd1 := D7.frozen 1; have fd2 := D7.frozen 2
      have e0 := F7.cell 0; have e1 := F7.cell 1; have e2' := F7.cell 2
      simp only [List.set_cons_zero, List.set_cons_succ, List.getElem?_cons_zero, List.getElem?_cons_succ] at d0 d1 d2 e0 e1 e2' v0 v1 v2
      clear V D7 F7 T7 C7 B7 fini
      go_wp2_with fail
      refine bodyPost_ret (v := .tuple #[.agg #[.slice AT nT cT, .slice AC nC cC, .bool ee], .bool true]) (by simp [results, Tryz.results62, go_sem, v0, v1, v2]) rfl ?_
      exact HFI.out
     ·have hI : (0 : Int) < (nS : Int) := by omega
      have hJ : ¬ (0 : Int) < (b : Int) := by omega
      go_upto_region 16 with fail
      obtain ⟨w7, hw7⟩ : ∃ u, u = wr.setCell ⟨F, 2, none⟩ (.bool ee) := ⟨_, rfl⟩
      rw [← hw7]
      obtain ⟨B7, F7, D7, T7, C7⟩ := tail.out w7 hw7
      clear hw7 tail c0 ff hI hq
      have HFI := Lib.hid (fini.out w7 B7 D7 T7 C7)
      have V := ((D7.set_ 0 (.slice AT nT cT)).set_ 1 (.slice AC nC cC)).set_ 2 (.bool ee)
      have v0 := V.cell 0; have v1 := V.cell 1; have v2 := V.cell 2
      have d0 := D7.cell 0; have d1 := D7.cell 1; have d2 := D7.cell 2
      have fd0 := D7.frozen 0; have fd1 := D7.frozen 1; have fd2 := D7.frozen 2
      have e0 := F7.cell 0; have e1 := F7.cell 1; have e2' := F7.cell 2
      simp only [List.set_cons_zero, List.set_cons_succ, List.getElem?_cons_zero, List.getElem?_cons_succ] at d0 d1 d2 e0 e1 e2' v0 v1 v2
      clear V D7 F7 T7 C7 B7 fini
      go_wp2_with fail
      refine bodyPost_ret (v := .tuple #[.agg #[.slice AT nT cT, .slice AC nC cC, .bool ee], .bool true]) (by simp [results, Tryz.results62, go_sem, v0, v1, v2]) rfl ?_
      exact HFI.out
    ·obtain ⟨b, rfl⟩ : ∃ x, b = x + 1 := ⟨b - 1, by omega⟩
     obtain ⟨p, S, rfl⟩ : ∃ p S', S = p :: S' := by
      cases S with
      | nil => simp at hSl; omega
      | cons p S => exact ⟨p, S, rfl⟩
     rw [List.length_cons] at hSl
     obtain ⟨q, hq⟩ : ∃ q, q = S.length := ⟨_, rfl⟩
     have HQ := Lib.hid hq
     rw [← hq] at hSl
     subst hSl
     clear hend hq HSL
     have hI : (0 : Int) < ((q + 1 : Nat) : Int) := by omega
     have hJ : (0 : Int) < ((b + 1 : Nat) : Int) := by omega
     have hIq : (0 : Int) ≤ (q : Int) := by omega
     have hw1 : IntKind.i64.wrap (q : Int) = (q : Int) := wrap_id (by omega)
     have hw2 : IntKind.i64.wrap (b : Int) = (b : Int) := wrap_id (by omega)
     have hlt1 : (q : Int) < (q : Int) + 1 := by omega
     have hlt2 : (q : Int) ≤ (q : Int) + 1 := by omega
     obtain ⟨hpp, hpN⟩ := HP.out p (List.mem_cons_self ..)
     have hcS := HS.out.s.cap.1
     obtain ⟨gS, rfl, gS0, gS1, gc, _⟩ := HS.out.s.at_ (by omega)
     have cp := gc q p 0 _ (by rw [HQ.out]; exact rev_at S p) rfl
     simp only [Nat.mul_one, Nat.add_zero] at cp
     have hcSI : (q : Int) ≤ (cS : Int) := by omega
     have HFR : Hid (Strs wr (some ⟨gS, 0, none⟩) S.reverse) := Lib.hid (by
      have h2 := (HS.out.s.recs).front q (by rw [HS.out.s.len]; omega)
      rwa [HQ.out, rev_take] at h2)
     have HPS : Hid (∀ x ∈ S, preT x ∧ x.size ≤ N) := Lib.hid (fun x hx => HP.out x (List.mem_cons_of_mem _ hx))
     have hpz : p.size ≤ 6 := by omega
     clear gc gS0 gS1
     go_wp2_with fail
     refine (spec_l1OwnS (l := S.reverse) (N := q) (by rw [List.length_reverse, HQ.out]) HFR.out (by omega)).mono ?_; rintro e w2 ⟨A2, c2, rfl, ho2, hb2⟩
     have HS2 := Lib.hid (HS.out.pop hb2 ho2)
     have km0 := HS2.out.m.cell 0; have km1 := HS2.out.m.cell 1; have km2 := HS2.out.m.cell 2; have kk0 := HS2.out.k.cell 0; have kk1 := HS2.out.k.cell 1
     simp only [List.getElem?_cons_zero, List.getElem?_cons_succ] at km0 km1 km2 kk0 kk1
     clear ho2 hb2 cp HFR hcSI hcS
     obtain ⟨cu, hcu⟩ : ∃ u, u = cutF st l kb ks N p := ⟨_, rfl⟩
     have HCU := Lib.hid hcu
     clear hcu
     go_wp2_with fail
     refine (spec_l13Cut (nm := nm) hn (HW.out.up HS2.out.b) hz hs hnm h9 hk hpp hN hcap).mono ?_; rw [← HCU.out]; intro e w3 hx
     obtain ⟨s3, x3, y3, rfl, hz3, hb3⟩ := hx
     have HZ3 := Lib.hid hz3
     have a3 : Below w3.heap.size w3 (w3.alloc (.cells #[.string s3, .int .i64 x3, .int .i64 y3] 29)) := by (repeat' (first | (with_reducible exact Below.refl _ _) | (with_reducible assumption) | (with_reducible refine below_drewN ?_ _) | (with_reducible refine Below.drew ?_) | (with_reducible refine below_alloc ?_ _) | (with_reducible refine Below.alloc ?_ ?_ _) | (with_reducible refine Below.setCell ?_ ?_ _) | (with_reducible refine below_go ?_ (by with_reducible assumption)) | (with_reducible refine below_then (by with_reducible assumption) ?_ ?_) | go_size))
     have HS4 := Lib.hid ((HS2.out.up hb3).up a3)
     have KC := Blk.at_ w3 29 [.string s3, .int .i64 x3, .int .i64 y3] (b := w3.heap.size) rfl
     clear km0 km1 km2 kk0 kk1 hz3 hb3 a3
     obtain ⟨w4, hw4⟩ : ∃ u, u = w3.alloc (.cells #[.string s3, .int .i64 x3, .int .i64 y3] 29) := ⟨_, rfl⟩
     rcases cu with _ | ⟨t, a, b2⟩
     ·by_cases hpn : p.size = N
      ·have HRn := Lib.hid ((RT.out b p S T C HCU.out.symm hpn).symm.trans HR.out)
       have hpnI : ((p.size : Int) == (N : Int)) = true := by rw [hpn]; simp
       rw [← hw4] at HS4 KC
       have kf0 := HS4.out.f.cell 0
       simp only [List.getElem?_cons_zero, List.getElem?_cons_succ] at kf0
       have hs4 := HS4.out.b.size
       clear hpn
       go_upto_region 13 with fail
       rw [← hw4]
       clear hw4
       go_wp2_with (first | (at_builtin; go_must ((refine wpList_append_recs Tryz.elStr strE_one rfl (.tmp 68) (.tmp 70) rfl rfl (HS4.out.t.alloc _) rfl (own_lit1_at' strE_len w4 9 p rfl (Nat.le_refl _)).recs rfl ?_ (by decide) ?_ ?_; (focus (first | omega | (simp only [World.size_alloc]; done) | (simp only [World.size_alloc]; omega) | (simp; done) | (simp; omega))); (focus (first | omega | (simp only [World.size_alloc]; done) | (simp only [World.size_alloc]; omega) | (simp; done) | (simp; omega))); intro A6 c6 w6 ho6 hg6 hl6; have HS5 := Lib.hid (HS4.out.up ((Below.refl _ _).alloc (Nat.le_refl _) (.cells ⟨strE p⟩ 9))); have HF6 := HS5.out.f.grown hg6 (blkNe HS5.out.t HS5.out.f (by decide)); have kg0 := HF6.cell 0; have kg1 := HF6.frozen 0; simp only [List.getElem?_cons_zero, List.getElem?_cons_succ] at kg0; have HS6 := Lib.hid (HS5.out.addT hg6 ho6 hl6); clear ho6 hg6 hl6 HF6))))
       go_roundw
       case rel => exact ⟨b, A6, nT + 1, c6, AC, nC, cC, A2, q, c2, T ++ [p], C, S, by go_num, rfl, by omega, by omega, by omega, HS6, HRn, HPS⟩
       case measure => simp [intOf]
      ·have HRn := Lib.hid ((RK.out b p S T C HCU.out.symm hpn).symm.trans HR.out)
       have hpnI : ((p.size : Int) == (N : Int)) = false := by rw [beq_eq_false_iff_ne]; omega
       have HPK : Hid (∀ x ∈ kids p ++ S, preT x ∧ x.size ≤ N) := Lib.hid (fun x hx => by
        rcases List.mem_append.1 hx with h1 | h1
        ·have := kid_size h1
         exact ⟨pre_kidT hpp (by omega) h1, by omega⟩
        ·exact HPS.out x h1)
       have HRK := Lib.hid (rev_kids S p)
       have hov1 : ¬ 9223372036854775807 < p.size + (⟨#[98]⟩ : ByteArray).size := by have : (⟨#[98]⟩ : ByteArray).size = 1 := rfl; omega
       have hov2 : ¬ 9223372036854775807 < p.size + (⟨#[112]⟩ : ByteArray).size := by have : (⟨#[112]⟩ : ByteArray).size = 1 := rfl; omega
       have hov3 : ¬ 9223372036854775807 < p.size + (⟨#[115]⟩ : ByteArray).size := by have : (⟨#[115]⟩ : ByteArray).size = 1 := rfl; omega
       rw [← hw4] at HS4 KC
       have hs4 := HS4.out.b.size
       have hlit := Lib.hid (lit_strs2 w4 9 [p ++ ⟨#[115]⟩, p ++ ⟨#[112]⟩, p ++ ⟨#[98]⟩])
       clear hpn
       go_upto_region 14 with fail
       rw [← hw4]
       clear hw4
       go_wp2_with (first | (at_builtin; go_must ((refine wpList_append_recs Tryz.elStr strE_one rfl (.tmp 73) (.tmp 80) rfl rfl (HS4.out.s.alloc _) rfl hlit.out rfl ?_ (by decide) ?_ ?_; (focus (first | omega | (simp only [World.size_alloc]; done) | (simp only [World.size_alloc]; omega) | (simp; done) | (simp; omega))); (focus (first | omega | (simp only [World.size_alloc]; done) | (simp only [World.size_alloc]; omega) | (simp; done) | (simp; omega))); intro A6 c6 w6 ho6 hg6 hl6; have HS5 := Lib.hid (HS4.out.up ((Below.refl _ _).alloc (Nat.le_refl _) (.cells ⟨[p ++ ⟨#[115]⟩, p ++ ⟨#[112]⟩, p ++ ⟨#[98]⟩].map Value.string⟩ 9))); rw [← HRK.out] at ho6; have HS6 := Lib.hid (HS5.out.push hg6 ho6 hl6); clear ho6 hg6 hl6))))
       go_roundw
       case rel => exact ⟨b, AT, nT, cT, AC, nC, cC, A6, _, c6, T, C, kids p ++ S, by go_num, rfl, by omega, by omega, by omega, HS6, HRn, HPK⟩
       case measure => simp [intOf]
     ·have e3 := HZ3.out _ rfl
      injection e3 with e3 e4
      injection e4 with e4 e5
      subst e3 e4 e5
      have HRn := Lib.hid ((RC.out b p S T C _ HCU.out.symm).symm.trans HR.out)
      rw [← hw4] at HS4 KC
      have kf1 := HS4.out.f.cell 1
      have kc0 := KC.cell 0; have kc1 := KC.cell 1; have kc2 := KC.cell 2
      simp only [List.getElem?_cons_zero, List.getElem?_cons_succ] at kf1 kc0 kc1 kc2
      have hs4 := HS4.out.b.size
      go_upto_region 11 with fail
      rw [← hw4]
      clear hw4
      go_wp2_with (first | (at_builtin; go_must ((refine wpList_append_recs Tryz.elCut cutE_one rfl (.tmp 58) (.tmp 60) rfl rfl (HS4.out.c.alloc _) rfl (own_lit1_at' cutE_len w4 29 (t, a, b2) rfl (Nat.le_refl _)).recs rfl ?_ (by decide) ?_ ?_; (focus (first | omega | (simp only [World.size_alloc]; done) | (simp only [World.size_alloc]; omega) | (simp; done) | (simp; omega))); (focus (first | omega | (simp only [World.size_alloc]; done) | (simp only [World.size_alloc]; omega) | (simp; done) | (simp; omega))); intro A6 c6 w6 ho6 hg6 hl6; have HS5 := Lib.hid (HS4.out.up ((Below.refl _ _).alloc (Nat.le_refl _) (.cells ⟨cutE (t, a, b2)⟩ 29))); have HF6 := HS5.out.f.grown hg6 (blkNe HS5.out.c HS5.out.f (by decide)); have kg0 := HF6.cell 1; have kg1 := HF6.frozen 1; simp only [List.getElem?_cons_zero, List.getElem?_cons_succ] at kg0; have HS6 := Lib.hid (HS5.out.addC hg6 ho6); clear ho6 hg6 hl6 HF6))))
      go_roundw
      case rel => exact ⟨b, AT, nT, cT, A6, nC + 1, c6, A2, q, c2, T, C ++ [(t, a, b2)], S, by go_num, rfl, by omega, by omega, by omega, HS6, HRn, HPS⟩
      case measure => simp [intOf]
end Go.Proofs.YtidolgonmimicaaGreat
namespace Go.Proofs.YtidolgonmimicaaGreat
open Go.ChangeShapes Go.WideShapes Go.ChangeAt Go.RowKit Go.Deep
theorem tree_some {cut : ByteArray → Option Cut3} {d : Nat} {p : ByteArray} {c : Cut3} (hc : cut p = some c) : treeF cut d p = ([], [c]) := by cases d <;> simp [treeF, hc]
theorem tree_nil {cut : ByteArray → Option Cut3} {p : ByteArray} (hc : cut p = none) : treeF cut 0 p = ([p], []) := by simp [treeF, hc]
theorem tree_pre {cut : ByteArray → Option Cut3} (h : ∀ p c, cut p = some c → c.1 = p) : ∀ (d : Nat) (p : ByteArray), p.size + d ≤ 60 → preT p → (∀ t ∈ (treeF cut d p).1, preT t) ∧ ∀ c ∈ (treeF cut d p).2, preT c.1
 | d, p, hd, hp => by
  cases hc : cut p with
  | some x =>
   rw [tree_some hc]
   refine ⟨fun t ht => (by cases ht), fun c hcm => ?_⟩
   rw [List.mem_singleton.1 hcm, h p x hc]
   exact hp
  | none =>
   match d, hd with
   | 0, _ =>
    rw [tree_nil hc]
    refine ⟨fun t ht => ?_, fun c hcm => (by cases hcm)⟩
    rw [List.mem_singleton.1 ht]
    exact hp
   | d + 1, hd =>
    refine ⟨fun t ht => ?_, fun c hcm => ?_⟩
    ·obtain ⟨q, hq, hm⟩ := (tree_mem hc).1 ht
     have hz := kid_size hq
     exact (tree_pre h d q (by omega) (pre_kidT hp (by omega) hq)).1 t hm
    ·obtain ⟨q, hq, hm⟩ := (tree_memC hc).1 hcm
     have hz := kid_size hq
     exact (tree_pre h d q (by omega) (pre_kidT hp (by omega) hq)).2 c hm
theorem preT_none : preT (⟨#[]⟩ : ByteArray) := ⟨Nat.zero_le _, fun k hk => absurd hk (Nat.not_lt_zero _)⟩
theorem pre_none (t : ByteArray) : Pre ⟨#[]⟩ t := ⟨t.data.toList, rfl⟩
theorem found_touch {nm : ByteArray} {st : Nat} {l : List ByteArray} {kb ks : ByteArray} {N b : Nat} {t : ByteArray} (ha : askS nm st l kb ks N = true) (ht : t ∈ (foundF st l kb ks N b).T) :
  t.size = N ∧ preT t ∧ hdAt st l kb ks t t.size = roundsS st ∧ trueH st l kb ks t = true := by
 obtain ⟨_, hN1, hN6⟩ := askS_t ha
 rw [found_ex] at ht
 rcases ex_sub _ _ _ _ ht with q | q
 ·cases q
 ·obtain ⟨_, h2, h3⟩ := tree_touch (n := N) N ⟨#[]⟩ (by show 0 + N = N; omega) t q
  have h4 := (tree_pre (cut := cutF st l kb ks N) cut_fst N ⟨#[]⟩ (by show 0 + N ≤ 60; omega) preT_none).1 t q
  have h5 := free_law (st := st) (l := l) (b := kb) (s := ks) hN1 h2 (fun r hr => h3 r (pre_none r) hr)
  rw [roundT, decide_eq_true_iff] at h5
  exact ⟨h2, h4, h5.1, h5.2⟩
theorem preB_pre {a b : ByteArray} (h : preB a b = true) : Pre a b := by
 rw [preB, Bool.and_eq_true, decide_eq_true_iff, bytes_beq, decide_eq_true_iff] at h
 obtain ⟨h1, h2⟩ := h
 refine ⟨(b.extract a.size b.size).data.toList, ?_⟩
 have e : b.extract 0 a.size ++ b.extract a.size b.size = b := by
  apply ByteArray.ext
  simp [ByteArray.data_append, ByteArray.data_extract]
 rw [h2] at e
 rw [← Array.toList_append, ← ByteArray.data_append, e]
theorem pairwise_at {α : Type} {R : α → α → Prop} {l : List α} (h : l.Pairwise R) {i j : Nat} {x y : α} (hij : i < j) (hx : l[i]? = some x) (hy : l[j]? = some y) : R x y := by
 obtain ⟨hi, rfl⟩ := List.getElem?_eq_some_iff.1 hx
 obtain ⟨hj, rfl⟩ := List.getElem?_eq_some_iff.1 hy
 exact List.pairwise_iff_getElem.1 h i j hi hj hij
theorem incB_of {l : List ByteArray} (h : l.Pairwise fun a b => less a b = true) : incB l = true := by
 rw [incB, List.all_eq_true]
 intro k hk
 have hk := List.mem_range.1 hk
 by_cases h0 : 0 < k
 ·have hx : l[k - 1]? = some (l[k - 1]'(by omega)) := List.getElem?_eq_getElem (by omega)
  have hy : l[k]? = some l[k] := List.getElem?_eq_getElem hk
  rw [okInc_pos h0 hx hy]
  exact pairwise_at h (by omega) hx hy
 ·exact okInc_z h0
theorem found_check {nm : ByteArray} {st : Nat} {l : List ByteArray} {kb ks : ByteArray} {N b : Nat} (ha : askS nm st l kb ks N = true) :
  ckI nm st l kb ks N (foundF st l kb ks N b).T (foundF st l kb ks N b).C (foundF st l kb ks N b).ok = (foundF st l kb ks N b).ok := by
 obtain ⟨_, hN1, hN6⟩ := askS_t ha
 rcases hok : (foundF st l kb ks N b).ok
 ·rw [ckI]; simp
 ·have hfst := cut_fst (st := st) (n := N) (l := l) (b := kb) (s := ks)
  have hz : (⟨#[]⟩ : ByteArray).size + N = N := by show 0 + N = N; omega
  have hz60 : (⟨#[]⟩ : ByteArray).size + N ≤ 60 := by show 0 + N ≤ 60; omega
  have htm : ∀ t ∈ (foundF st l kb ks N b).T, tokI st l kb ks N t = true := fun t ht => by
   obtain ⟨h1, h2, h3, h4⟩ := found_touch ha ht
   rw [tokI_4 h1 (by rw [List.all_eq_true]; exact fun k hk => h2.2 k (List.mem_range.1 hk)) (decide_eq_true h3)]
   exact h4
  rw [found_ex] at hok htm ⊢
  obtain ⟨e1, e2⟩ := ex_tree _ _ _ _ hok
  rw [List.nil_append] at e1 e2
  rw [e1] at htm ⊢
  rw [e2]
  have hs := tree_sum hfst N ⟨#[]⟩ hz
  have hp := tree_pre hfst N ⟨#[]⟩ hz60 preT_none
  have hcc := tree_cut hfst N ⟨#[]⟩ hz
  obtain ⟨a1, a2, a3⟩ := tree_apart hfst N ⟨#[]⟩ hz
  have hr := tree_rise (cut := cutF st l kb ks N) N ⟨#[]⟩ hz
  generalize treeF (cutF st l kb ks N) N ⟨#[]⟩ = tr at htm hs hp hcc a1 a2 a3 hr ⊢
  have q1 := incB_of hr
  have q2 : tr.2.all (jusB (cutF st l kb ks N) N) = true := by
   rw [List.all_eq_true]
   intro c hc
   obtain ⟨c1, c2, c3⟩ := hcc c hc
   rw [jusB, pfxB, decide_eq_true c3, decide_eq_true c2, Bool.true_and, Bool.and_true, List.all_eq_true]
   exact fun k hk => (hp.2 c hc).2 k (List.mem_range.1 hk)
  have q3 : decide (tr.1.length + sumC N tr.2 = p3 N) = true := decide_eq_true hs
  have q4 : tr.1.all (tokI st l kb ks N) = true := by
   rw [List.all_eq_true]; exact htm
  have q5 : apI tr.1 (txC tr.2) = true := by
   rw [apI_iff, apS_iff]
   refine ⟨fun i j x y hx hy => ?_, fun x hx t ht => ?_⟩
   ·by_cases hij : i = j
    ·exact Or.inl hij
    ·right
     rcases hb : preB x y
     ·rfl
     ·exfalso
      rcases Nat.lt_or_gt_of_ne hij with g | g
      ·exact (pairwise_at a2 g hx hy).1 (preB_pre hb)
      ·exact (pairwise_at a2 g hy hx).2 (preB_pre hb)
   ·obtain ⟨c, hc, rfl⟩ := List.mem_map.1 hx
    rcases hb : preB c.1 t
    ·rfl
    ·exact absurd (preB_pre hb) (a3 t ht c hc).2
  rw [ckI, ha, q1, q2, q3, q4, q5]
  rfl
end Go.Proofs.YtidolgonmimicaaGreat
namespace Go.Proofs.YtidolgonmimicaaGreat
open Go.ChangeShapes Go.WideShapes Go.ChangeAt Go.RowKit Go.Deep
structure StX (w u : World) (B : Nat) (nm : ByteArray) (st : Nat) (A : Option Addr) (n c : Nat) (kb ks : ByteArray) (N : Nat) (lt : Bool) (mb : Nat) (F : List ByteArray) (AT : Option Addr) (nT cT : Nat) (AC : Option Addr) (nC cC : Nat) (s : SS) : Prop where
 b : Below w.heap.size w u
 k : Blk u B 136 (seaC nm st A n c kb ks N lt mb (s.left : Int) (.slice AT nT cT) (.slice AC nC cC) s.ok)
 lo : w.heap.size ≤ B ∧ mb ≠ B ∧ w.heap.size ≤ mb
 m : SetX Tryz.prog u 9 4 mb F
 t : Owned strE 1 9 u w.heap.size AT nT cT s.T
 c : Owned cutE 3 29 u w.heap.size AC nC cC s.C
 bm : (∀ z, (Value.slice AT nT cT).ownBlock = some z → z ≠ mb) ∧ (∀ z, (Value.slice AC nC cC).ownBlock = some z → z ≠ mb)
 z : nT + s.left ≤ 5000 ∧ nC + s.left ≤ 5000
section
variable {w u u' : World} {B : Nat} {nm : ByteArray} {st : Nat} {A : Option Addr} {n c : Nat} {kb ks : ByteArray} {N : Nat} {lt : Bool} {mb : Nat} {F : List ByteArray} {AT : Option Addr} {nT cT : Nat} {AC : Option Addr} {nC cC : Nat} {s : SS}
theorem StX.up (h : StX w u B nm st A n c kb ks N lt mb F AT nT cT AC nC cC s) (hb : Below u.heap.size u u') : StX w u' B nm st A n c kb ks N lt mb F AT nT cT AC nC cC s :=
 ⟨below_go h.b hb, h.k.up hb, h.lo, h.m.up hb, h.t.up hb, h.c.up hb, h.bm, h.z⟩
theorem StX.set {i : Nat} {v : Value} {s' : SS} (h : StX w u B nm st A n c kb ks N lt mb F AT nT cT AC nC cC s) (hs : seaC nm st A n c kb ks N lt mb (s'.left : Int) (.slice AT nT cT) (.slice AC nC cC) s'.ok = (seaC nm st A n c kb ks N lt mb (s.left : Int) (.slice AT nT cT) (.slice AC nC cC) s.ok).set i v) (hT : s'.T = s.T) (hC : s'.C = s.C) (hl : s'.left ≤ s.left) : StX w (u.setCell ⟨B, i, none⟩ v) B nm st A n c kb ks N lt mb F AT nT cT AC nC cC s' := by
 have hs1 : u.grownBy (u.setCell ⟨B, i, none⟩ v) (some B) := only_set _ (p := ⟨B, i, none⟩) _
 have hlo := h.lo
 have hz := h.z
 exact ⟨h.b.trans ((Below.refl _ _).grown hs1 h.b.size (fun k hk => by injection hk with hk; omega)), by rw [hs]; exact h.k.set_ i v, hlo, h.m.kept hs1 (fun e => by injection e with e; exact hlo.2.1 e), by rw [hT]; exact h.t.kept hs1 (fun k hk e => blkNe h.t h.k (by decide) (e.trans hk.symm)), by rw [hC]; exact h.c.kept hs1 (fun k hk e => blkNe h.c h.k (by decide) (e.trans hk.symm)), h.bm, by omega⟩
theorem StX.addC {A' : Option Addr} {n' c' : Nat} {x : Cut3} (h : StX w u B nm st A n c kb ks N lt mb F AT nT cT AC nC cC s) (hg : u.grownBy u' (Value.slice AC nC cC).ownBlock) (ho : Owned cutE 3 29 u' w.heap.size A' n' c' (s.C ++ [x])) (hl : ∀ k, (Value.slice A' n' c').ownBlock = some k → (Value.slice AC nC cC).ownBlock = some k ∨ u.heap.size ≤ k) (hz : n' + s.left ≤ 5000) : StX w (u'.setCell ⟨B, 10, none⟩ (.slice A' n' c')) B nm st A n c kb ks N lt mb F AT nT cT A' n' c' ⟨s.left, s.T, s.C ++ [x], s.ok⟩ := by
 have hB := h.k.grown hg (blkNe h.c h.k (by decide))
 have hs : u'.grownBy (u'.setCell ⟨B, 10, none⟩ (.slice A' n' c')) (some B) := only_set _ (p := ⟨B, 10, none⟩) _
 have hT := h.t.kept hg (fun k hk => Owned.ne h.t h.c (by decide) k hk)
 have hb := h.b.trans (grown_base hg h.b.size (fun k hk => (h.c.range k hk).1))
 have hlo := h.lo
 have hm := h.m.kept hg (fun e => h.bm.2 mb e.symm rfl)
 have hml := h.m.lt
 exact ⟨hb.trans ((Below.refl _ _).grown hs hb.size (fun k hk => by injection hk with hk; omega)), hB.set_ 10 _, hlo, hm.kept hs (fun e => by injection e with e; exact hlo.2.1 e), hT.kept hs (fun k hk e => blkNe hT hB (by decide) (e.trans hk.symm)), ho.kept hs (fun k hk e => blkNe ho hB (by decide) (e.trans hk.symm)), ⟨h.bm.1, fun z hz => by
  rcases hl z hz with q | q
  ·exact h.bm.2 z q
  ·omega⟩, ⟨h.z.1, hz⟩⟩
theorem StX.addT {A' : Option Addr} {n' c' : Nat} {x : ByteArray} (h : StX w u B nm st A n c kb ks N lt mb F AT nT cT AC nC cC s) (hg : u.grownBy u' (Value.slice AT nT cT).ownBlock) (ho : Owned strE 1 9 u' w.heap.size A' n' c' (s.T ++ [x])) (hl : ∀ k, (Value.slice A' n' c').ownBlock = some k → (Value.slice AT nT cT).ownBlock = some k ∨ u.heap.size ≤ k) (hz : n' + s.left ≤ 5000) : StX w (u'.setCell ⟨B, 9, none⟩ (.slice A' n' c')) B nm st A n c kb ks N lt mb F A' n' c' AC nC cC ⟨s.left, s.T ++ [x], s.C, s.ok⟩ := by
 have hB := h.k.grown hg (blkNe h.t h.k (by decide))
 have hs : u'.grownBy (u'.setCell ⟨B, 9, none⟩ (.slice A' n' c')) (some B) := only_set _ (p := ⟨B, 9, none⟩) _
 have hC := h.c.kept hg (fun k hk => Owned.ne h.c h.t (by decide) k hk)
 have hb := h.b.trans (grown_base hg h.b.size (fun k hk => (h.t.range k hk).1))
 have hlo := h.lo
 have hm := h.m.kept hg (fun e => h.bm.1 mb e.symm rfl)
 have hml := h.m.lt
 exact ⟨hb.trans ((Below.refl _ _).grown hs hb.size (fun k hk => by injection hk with hk; omega)), hB.set_ 9 _, hlo, hm.kept hs (fun e => by injection e with e; exact hlo.2.1 e), ho.kept hs (fun k hk e => blkNe ho hB (by decide) (e.trans hk.symm)), hC.kept hs (fun k hk e => blkNe hC hB (by decide) (e.trans hk.symm)), ⟨fun z hz => by
  rcases hl z hz with q | q
  ·exact h.bm.1 z q
  ·omega, h.bm.2⟩, ⟨hz, h.z.2⟩⟩
end
end Go.Proofs.YtidolgonmimicaaGreat
namespace Go.Proofs.YtidolgonmimicaaGreat
open Go.ChangeShapes Go.WideShapes Go.ChangeAt Go.RowKit Go.Deep
theorem ex_cut {cut : ByteArray → Option Cut3} {d b : Nat} {T : List ByteArray} {C : List Cut3} {ok : Bool} {p : ByteArray} {x : Cut3} (h : cut p = some x) : exF cut d ⟨b + 1, T, C, ok⟩ p = ⟨b, T, C ++ [x], ok⟩ := by cases d <;> simp [exF, h]
theorem ex_touch {cut : ByteArray → Option Cut3} {b : Nat} {T : List ByteArray} {C : List Cut3} {ok : Bool} {p : ByteArray} (h : cut p = none) : exF cut 0 ⟨b + 1, T, C, ok⟩ p = ⟨b, T ++ [p], C, ok⟩ := by simp [exF, h]
theorem ex_kids {cut : ByteArray → Option Cut3} {d b : Nat} {T : List ByteArray} {C : List Cut3} {ok : Bool} {p : ByteArray} (h : cut p = none) : exF cut (d + 1) ⟨b + 1, T, C, ok⟩ p = (kids p).foldl (fun s q => exF cut d s q) ⟨b, T, C, ok⟩ := by simp [exF, h]
def ExR (w : World) (B : Nat) (nm : ByteArray) (st : Nat) (A : Option Addr) (n c : Nat) (kb ks : ByteArray) (N : Nat) (lt : Bool) (mb : Nat) (F : List ByteArray) (s : SS) (e : Ending) (w' : World) : Prop :=
 e = .returned (.tuple #[]) ∧ ∃ (AT : Option Addr) (nT cT : Nat) (AC : Option Addr) (nC cC : Nat), StX w w' B nm st A n c kb ks N lt mb F AT nT cT AC nC cC s
set_option maxHeartbeats 8000000 in
set_option maxRecDepth 100000 in
theorem impl_examine {A : Option Addr} {n c st : Nat} {nm : ByteArray} {l : List ByteArray} {kb ks : ByteArray} {N B mb : Nat} {w : World} (hn : l.length = n) (h : Strs w A l) (hk : goodK nm (st : Int) l kb ks = true) (hN : N ≤ 6) : ∀ (d : Nat) (p : ByteArray) (u : World) (AT : Option Addr) (nT cT : Nat) (AC : Option Addr) (nC cC : Nat) (s : SS), p.size + d = N → preT p → StX w u B nm st A n c kb ks N (nodupB (leadL st l)) mb (falL (leadL st l)) AT nT cT AC nC cC s →
  Calls Tryz.prog 150 #[.pointer (some ⟨B, 0, none⟩), .string p] u fun e w' => ExR w B nm st A n c kb ks N (nodupB (leadL st l)) mb (falL (leadL st l)) (exF (cutF st l kb ks N) d s p) e w' := by
 have HA := Lib.hid h
 clear h
 intro d
 induction d using Nat.strongRecOn with
 | ind d ih =>
  intro p u AT nT cT AC nC cC s hd hp hS
  have IH := Lib.hid ih
  have HP := Lib.hid hp
  have hp60 := hp.1
  obtain ⟨left, T, C, ok⟩ := s
  have HS := Lib.hid hS
  have HEX0 := Lib.hid (fun (b : Bool) => ex_zero (cutF st l kb ks N) d T C b p)
  have c8 := hS.k.cell 8
  have f8 := hS.k.frozen 8
  have c11 := hS.k.cell 11
  have f11 := hS.k.frozen 11
  simp only [seaC, List.getElem?_cons_zero, List.getElem?_cons_succ] at c8 c11
  clear hS ih hp
  rcases left with _ | left
  ·have HS2 := Lib.hid (HS.out.set (i := 11) (v := .bool false) (s' := ⟨0, T, C, false⟩) rfl rfl rfl (Nat.le_refl _))
   go_in
   go_wp2_with fail
   refine bodyPost_ret (results_none rfl _ _ _) rfl ?_
   rw [HEX0.out]
   exact ⟨rfl, _, _, _, _, _, _, HS2.out⟩
  ·have HS2 := Lib.hid (HS.out.set (i := 8) (v := .int .i64 (left : Int)) (s' := ⟨left, T, C, ok⟩) rfl rfl rfl (Nat.le_succ _))
   have hIz : (((left + 1 : Nat) : Int) == 0) = false := by rw [beq_eq_false_iff_ne]; omega
   have hz5 := HS2.out.z
   have hzO : nT + (left + 1) ≤ 5000 ∧ nC + (left + 1) ≤ 5000 := HS.out.z
   have hw1 : IntKind.i64.wrap (left : Int) = (left : Int) := wrap_id (by simp at hz5; omega)
   have hw2 : IntKind.i64.wrap (((left + 1 : Nat) : Int) - 1) = (left : Int) := by rw [wrap_id (by simp at hz5; omega)]; omega
   go_in
   go_upto_region 3 with fail
   obtain ⟨u2, hu2⟩ : ∃ x, x = u.setCell ⟨B, 8, none⟩ (.int .i64 (left : Int)) := ⟨_, rfl⟩
   rw [← hu2] at HS2 ⊢
   clear hu2 c8 f8 c11 f11 hIz hw1 hw2 HS
   obtain ⟨cu, hcu⟩ : ∃ x, x = cutF st l kb ks N p := ⟨_, rfl⟩
   have HCU := Lib.hid hcu
   clear hcu
   go_wp2_with fail
   refine (impl_cutOf hn (HA.out.up HS2.out.b) hk HS2.out.k HS2.out.m HP.out (by omega)).mono ?_; rw [← HCU.out]; intro e u3 hx
   obtain ⟨s3, x3, y3, rfl, hz3, hb3⟩ := hx
   have HZ3 := Lib.hid hz3
   have a3 : Below u3.heap.size u3 (u3.alloc (.cells #[.string s3, .int .i64 x3, .int .i64 y3] 29)) := by (repeat' (first | (with_reducible exact Below.refl _ _) | (with_reducible assumption) | (with_reducible refine below_drewN ?_ _) | (with_reducible refine Below.drew ?_) | (with_reducible refine below_alloc ?_ _) | (with_reducible refine Below.alloc ?_ ?_ _) | (with_reducible refine Below.setCell ?_ ?_ _) | (with_reducible refine below_go ?_ (by with_reducible assumption)) | (with_reducible refine below_then (by with_reducible assumption) ?_ ?_) | go_size))
   have HS4 := Lib.hid ((HS2.out.up hb3).up a3)
   have HCB := Lib.hid (fun (k : Nat) (hk : (Value.slice AC nC cC).ownBlock = some k) => Nat.lt_of_lt_of_le (HS2.out.c.blk hk).2 hb3.size)
   have KC := Blk.at_ u3 29 [.string s3, .int .i64 x3, .int .i64 y3] (b := u3.heap.size) rfl
   obtain ⟨kx, hkx⟩ : ∃ x, x = u3.heap.size := ⟨_, rfl⟩
   rw [← hkx] at KC HCB
   clear hz3 hb3 a3
   rcases cu with _ | ⟨t, a, b2⟩
   ·have k5 := HS4.out.k.cell 5
    simp only [seaC, List.getElem?_cons_zero, List.getElem?_cons_succ] at k5
    by_cases hpn : p.size = N
    ·obtain rfl : d = 0 := by omega
     have HEX := Lib.hid (@ex_touch (cutF st l kb ks N) left T C ok p HCU.out.symm)
     have hpnI : ((p.size : Int) == (N : Int)) = true := by rw [hpn]; simp
     clear hpn
     go_upto_region 7 with fail
     rw [← hkx]
     obtain ⟨u4, hu4⟩ : ∃ x, x = u3.alloc (.cells #[.string s3, .int .i64 x3, .int .i64 y3] 29) := ⟨_, rfl⟩
     rw [← hu4] at HS4 KC k5 ⊢
     clear hu4 hkx hpnI k5
     have k10 := HS4.out.k.cell 9
     simp only [seaC, List.getElem?_cons_zero, List.getElem?_cons_succ] at k10
     have hsE := HS4.out.b.size
     clear KC HCB
     go_wp2_with (first | (at_builtin; go_must ((refine wpList_append_recs Tryz.elStr strE_one rfl (.tmp 54) (.tmp 56) rfl rfl (HS4.out.t.alloc _) rfl (own_lit1_at' strE_len u4 9 p rfl (Nat.le_refl _)).recs rfl ?_ (by decide) ?_ ?_; (focus (first | omega | (simp only [World.size_alloc]; done) | (simp only [World.size_alloc]; omega) | (simp; done) | (simp; omega))); (focus (first | omega | (simp only [World.size_alloc]; done) | (simp only [World.size_alloc]; omega) | (simp; done) | (simp; omega))); intro A6 c6 w6 ho6 hg6 hl6; have HS5 := Lib.hid (HS4.out.up ((Below.refl _ _).alloc (Nat.le_refl _) (.cells ⟨strE p⟩ 9))); have HB6 := HS5.out.k.grown hg6 (blkNe HS5.out.t HS5.out.k (by decide)); have kg0 := HB6.cell 9; have kg1 := HB6.frozen 9; simp only [seaC, List.getElem?_cons_zero, List.getElem?_cons_succ] at kg0; have HS6 := Lib.hid (HS5.out.addT hg6 ho6 hl6 (by simp; omega)); clear ho6 hg6 hl6 HB6))))
     refine bodyPost_ret (results_none rfl _ _ _) rfl ?_
     rw [HEX.out]
     exact ⟨rfl, _, _, _, _, _, _, HS6.out⟩
    ·obtain ⟨d, rfl⟩ : ∃ x, d = x + 1 := ⟨d - 1, by omega⟩
     have HEX := Lib.hid (@ex_kids (cutF st l kb ks N) d left T C ok p HCU.out.symm)
     have HKT := Lib.hid (fun (i : Nat) (h : i < 3) => kids_take p h)
     have HK3 := Lib.hid (show (kids p).take 3 = kids p from rfl)
     have HKS := Lib.hid (fun (i : Nat) (h : i < 3) => show kidAt p i ∈ kids p from by
      have h2 := kids_take p h
      exact List.mem_of_mem_take (i := i + 1) (by rw [h2]; simp))
     have HKR := Lib.hid (fun i => show p ++ (⟨#[98, 112, 115]⟩ : ByteArray).extract i (i + 1) = kidAt p i from rfl)
     have hpnI : ((p.size : Int) == (N : Int)) = false := by rw [beq_eq_false_iff_ne]; omega
     have hpz : p.size ≤ 6 := by omega
     go_wp2
     clear k5
     obtain ⟨u4, hu4⟩ : ∃ x, x = u3.alloc (.cells #[.string s3, .int .i64 x3, .int .i64 y3] 29) := ⟨_, rfl⟩
     rw [← hu4] at HS4 ⊢
     clear hu4 hkx KC HCB
     have HF0 : Hid (StX w u4 B nm st A n c kb ks N (nodupB (leadL st l)) mb (falL (leadL st l)) AT nT cT AC nC cC (((kids p).take 0).foldl (fun s q => exF (cutF st l kb ks N) d s q) ⟨left, T, C, ok⟩)) := HS4
     go_loopw [61] (fun v wr => ∃ (i : Nat) (AT : Option Addr) (nT cT : Nat) (AC : Option Addr) (nC cC : Nat), i ≤ 3 ∧ v = .int .i64 i ∧ Hid (StX w wr B nm st A n c kb ks N (nodupB (leadL st l)) mb (falL (leadL st l)) AT nT cT AC nC cC (((kids p).take i).foldl (fun s q => exF (cutF st l kb ks N) d s q) ⟨left, T, C, ok⟩))) (fun v _ => 3 - (intOf v).toNat)
     case atStart => exact ⟨0, _, _, _, _, _, _, Nat.zero_le _, rfl, HF0⟩
     case round =>
      obtain ⟨i, AT4, nT4, cT4, AC4, nC4, cC4, hi, rfl, HSi⟩ := hrel
      rename World => wr
      by_cases hlt : i < 3
      ·have hI3 : (i : Int) < 3 := by omega
       have hle1 : (i : Int) ≤ (i : Int) + 1 := by omega
       have hle2 : (i : Int) + 1 ≤ 3 := by omega
       have hle3 : (0 : Int) ≤ (i : Int) := by omega
       have hwr : IntKind.i64.wrap ((i : Int) + 1) = ((i + 1 : Nat) : Int) := by rw [wrap_id (by omega)]; omega
       have hes : ((⟨#[98, 112, 115]⟩ : ByteArray).extract i (i + 1)).size ≤ 3 := by rw [ByteArray.size_extract]; have : (⟨#[98, 112, 115]⟩ : ByteArray).size = 3 := rfl; omega
       have hov : ¬ 9223372036854775807 < p.size + ((⟨#[98, 112, 115]⟩ : ByteArray).extract i (i + 1)).size := by omega
       have hkm := HKS.out i hlt
       have hks := kid_size hkm
       have hkp : preT (kidAt p i) := by
        have hs := kid_size hkm
        exact pre_kidT HP.out (by omega) hkm
       have HT := Lib.hid (show ((kids p).take (i + 1)).foldl (fun s q => exF (cutF st l kb ks N) d s q) ⟨left, T, C, ok⟩ = exF (cutF st l kb ks N) d (((kids p).take i).foldl (fun s q => exF (cutF st l kb ks N) d s q) ⟨left, T, C, ok⟩) (kidAt p i) by rw [HKT.out i hlt, List.foldl_append]; rfl)
       obtain ⟨sk, hsk⟩ : ∃ x, x = ((kids p).take i).foldl (fun s q => exF (cutF st l kb ks N) d s q) (⟨left, T, C, ok⟩ : SS) := ⟨_, rfl⟩
       rw [← hsk] at HSi HT
       have hdk : (kidAt p i).size + d = N := by omega
       clear hsk hkm hks
       go_wp2_with fail
       rw [HKR.out i]
       refine (IH.out d (Nat.lt_succ_self d) (kidAt p i) wr AT4 nT4 cT4 AC4 nC4 cC4 sk hdk hkp HSi.out).mono ?_; intro e w5 hx
       obtain ⟨rfl, AT5, nT5, cT5, AC5, nC5, cC5, hS5⟩ := hx
       rw [← HT.out] at hS5
       have HS5 := Lib.hid hS5
       clear hS5
       go_wp2
       go_roundw
       case rel => exact ⟨i + 1, _, _, _, _, _, _, by omega, by go_num, HS5⟩
       case measure => simp [intOf]; omega
      ·obtain rfl : i = 3 := by omega
       have hI3 : ¬ ((3 : Nat) : Int) < 3 := by omega
       go_wp2
       go_end0
       rw [HEX.out, ← HK3.out]
       exact ⟨rfl, _, _, _, _, _, _, HSi.out⟩
   ·have e3 := HZ3.out _ rfl
    injection e3 with e3 e4
    injection e4 with e4 e5
    subst e3 e4 e5
    have HEX := Lib.hid (@ex_cut (cutF st l kb ks N) d left T C ok p _ HCU.out.symm)
    go_upto_region 5 with fail
    rw [← hkx]
    obtain ⟨u4, hu4⟩ : ∃ x, x = u3.alloc (.cells #[.string t, .int .i64 a, .int .i64 b2] 29) := ⟨_, rfl⟩
    rw [← hu4] at HS4 KC ⊢
    clear hu4 hkx
    have k10 := HS4.out.k.cell 10
    have kc0 := KC.cell 0; have kc1 := KC.cell 1; have kc2 := KC.cell 2
    simp only [seaC, List.getElem?_cons_zero, List.getElem?_cons_succ] at k10 kc0 kc1 kc2
    have HSd := Lib.hid (HS4.out.up ((Below.refl _ _).alloc (Nat.le_refl _) (.cells #[.string t, .int .i64 a, .int .i64 b2] 29)))
    have HSa := Lib.hid (HSd.out.up (below_drewN (Below.refl _ _) 1))
    have k10d := HSd.out.k.cell 10
    simp only [seaC, List.getElem?_cons_zero, List.getElem?_cons_succ] at k10d
    have HLT := Lib.hid ((own_lit1_at' cutE_len u4 29 (t, a, b2) rfl (Nat.le_refl _)).drewN 1)
    have hzE := HS4.out.z
    have hsE := HSa.out.b.size
    refine wp_region_any (by kernel_rfl) ?_
    (try (change wpAny _ _ _ _ _ _ _ (World.drew _)))
    refine wpAny_take (i := 0) (oi := { dst := some 30, op := _, type := _, pos := _, after := _, guard := _ }) (v := ?_) rfl (by kernel_rfl) (by kernel_rfl) (by kernel_rfl) (fun _ _ _ h => h) (Or.inl ⟨by rfl, ?_⟩) ?_
    rotate_left
    ·(intro w; go_simp) <;> with_reducible rfl
    (try simp only [Act.put, List.setIfInBounds_toArray, List.set_cons_zero, List.set_cons_succ])
    refine wpAny_take (i := 1) (oi := { dst := some 31, op := _, type := _, pos := _, after := _, guard := _ }) (v := ?_) rfl (by kernel_rfl) (by kernel_rfl) (by kernel_rfl) (fun _ _ _ h => h) (Or.inl ⟨by rfl, ?_⟩) ?_
    rotate_left
    ·(intro w; go_simp) <;> with_reducible rfl
    (try simp only [Act.put, List.setIfInBounds_toArray, List.set_cons_zero, List.set_cons_succ])
    refine wpAny_take (i := 2) (oi := { dst := some 32, op := _, type := _, pos := _, after := _, guard := _ }) (v := ?_) rfl (by kernel_rfl) (by kernel_rfl) (by kernel_rfl) (fun _ _ _ h => h) (Or.inl ⟨by rfl, ?_⟩) ?_
    rotate_left
    ·(intro w; go_simp) <;> with_reducible rfl
    (try simp only [Act.put, List.setIfInBounds_toArray, List.set_cons_zero, List.set_cons_succ])
    refine wpAny_take (i := 3) (oi := { dst := some 33, op := _, type := _, pos := _, after := _, guard := _ }) (v := ?_) rfl (by kernel_rfl) (by kernel_rfl) (by kernel_rfl) (fun _ _ _ h => h) (Or.inl ⟨by rfl, ?_⟩) ?_
    rotate_left
    ·(intro w; go_simp) <;> with_reducible rfl
    (try simp only [Act.put, List.setIfInBounds_toArray, List.set_cons_zero, List.set_cons_succ])
    refine wpAny_take (i := 4) (oi := { dst := some 34, op := _, type := _, pos := _, after := _, guard := _ }) (v := ?_) rfl (by kernel_rfl) (by kernel_rfl) (by kernel_rfl) (fun _ _ _ h => h) (Or.inl ⟨by rfl, ?_⟩) ?_
    rotate_left
    ·(intro w; go_simp) <;> with_reducible rfl
    (try simp only [Act.put, List.setIfInBounds_toArray, List.set_cons_zero, List.set_cons_succ])
    refine wpAny_ready (rs := [5, 6]) (by kernel_rfl) (by simp) ?_
    refine AllReady.cons (o := _) rfl (fun K hK => ?_) (AllReady.cons (o := _) rfl (fun K hK => ?_) (AllReady.nil))
    ·skip
     go_simp
     (try (refine hK _ _ ?_; clear hK K))
     (try simp only [Act.put, List.setIfInBounds_toArray, List.set_cons_zero, List.set_cons_succ])
     refine wpAny_ready (rs := [6]) (by kernel_rfl) (by simp) ?_
     refine AllReady.cons (o := _) rfl (fun K hK => ?_) (AllReady.nil)
     go_simp
     (try (refine hK _ _ ?_; clear hK K))
     (try simp only [Act.put, List.setIfInBounds_toArray, List.set_cons_zero, List.set_cons_succ])
     refine wpAny_ready (rs := [7]) (by kernel_rfl) (by simp) ?_
     refine AllReady.cons (o := _) rfl (fun K hK => ?_) (AllReady.nil)
     go_simp
     (try (refine hK _ _ ?_; clear hK K))
     (try simp only [Act.put, List.setIfInBounds_toArray, List.set_cons_zero, List.set_cons_succ])
     refine wpAny_ready (rs := [8]) (by kernel_rfl) (by simp) ?_
     refine AllReady.cons (o := _) rfl (fun K hK => ?_) (AllReady.nil)
     refine step_append_recs Tryz.elCut cutE_one rfl (.tmp 35) (.tmp 37) rfl (by rfl) HSa.out.c (by rfl) HLT.out.recs rfl ?_ (by decide) ?_ ?_
     ·simp at hzE ⊢; omega
     ·exact hsE
     intro A6 c6 w6 ho6 hg6 hl6
     have HB6 := HSa.out.k.grown hg6 (blkNe HSa.out.c HSa.out.k (by decide))
     have kg0 := HB6.cell 10; have kg1 := HB6.frozen 10
     simp only [seaC, List.getElem?_cons_zero, List.getElem?_cons_succ] at kg0
     have HS6 := Lib.hid (HSa.out.addC hg6 ho6 hl6 (by simp; omega))
     clear ho6 hg6 hl6 HB6
     (try (refine hK _ _ ?_; clear hK K))
     (try simp only [Act.put, List.setIfInBounds_toArray, List.set_cons_zero, List.set_cons_succ])
     refine wpAny_take (i := 9) (oi := { dst := some 39, op := _, type := _, pos := _, after := _, guard := _ }) (v := ?_) rfl (by kernel_rfl) (by kernel_rfl) (by kernel_rfl) (fun _ _ _ h => h) (Or.inl ⟨by rfl, ?_⟩) ?_
     rotate_left
     ·(intro w; go_simp) <;> with_reducible rfl
     (try simp only [Act.put, List.setIfInBounds_toArray, List.set_cons_zero, List.set_cons_succ])
     refine wpAny_take (i := 10) (oi := { dst := some 40, op := _, type := _, pos := _, after := _, guard := _ }) (v := ?_) rfl (by kernel_rfl) (by kernel_rfl) (by kernel_rfl) (fun _ _ _ h => h) (Or.inl ⟨by rfl, ?_⟩) ?_
     rotate_left
     ·(intro w; go_simp) <;> with_reducible rfl
     (try simp only [Act.put, List.setIfInBounds_toArray, List.set_cons_zero, List.set_cons_succ])
     refine wpAny_take (i := 11) (oi := { dst := some 41, op := _, type := _, pos := _, after := _, guard := _ }) (v := ?_) rfl (by kernel_rfl) (by kernel_rfl) (by kernel_rfl) (fun _ _ _ h => h) (Or.inl ⟨by rfl, ?_⟩) ?_
     rotate_left
     ·(intro w; go_simp) <;> with_reducible rfl
     (try simp only [Act.put, List.setIfInBounds_toArray, List.set_cons_zero, List.set_cons_succ])
     refine wpAny_ready (rs := [12]) (by kernel_rfl) (by simp) ?_
     refine AllReady.cons (o := _) rfl (fun K hK => ?_) (AllReady.nil)
     go_simp
     (try (refine hK _ _ ?_; clear hK K))
     (try simp only [Act.put, List.setIfInBounds_toArray, List.set_cons_zero, List.set_cons_succ])
     refine wpAny_done (by kernel_rfl) ?_ _
     (try simp only [Act.put, List.setIfInBounds_toArray, List.set_cons_zero, List.set_cons_succ])
     clear k10d HSd HSa HLT
     go_wp2_with fail
     refine bodyPost_ret (results_none rfl _ _ _) rfl ?_
     rw [HEX.out]
     exact ⟨rfl, _, _, _, _, _, _, HS6.out⟩
    ·skip
     go_simp
     (try (refine hK _ _ ?_; clear hK K))
     (try simp only [Act.put, List.setIfInBounds_toArray, List.set_cons_zero, List.set_cons_succ])
     refine wpAny_ready (rs := [5, 7]) (by kernel_rfl) (by simp) ?_
     refine AllReady.cons (o := _) rfl (fun K hK => ?_) (AllReady.cons (o := _) rfl (fun K hK => ?_) (AllReady.nil))
     ·skip
      go_simp
      (try (refine hK _ _ ?_; clear hK K))
      (try simp only [Act.put, List.setIfInBounds_toArray, List.set_cons_zero, List.set_cons_succ])
      refine wpAny_ready (rs := [7]) (by kernel_rfl) (by simp) ?_
      refine AllReady.cons (o := _) rfl (fun K hK => ?_) (AllReady.nil)
      go_simp
      (try (refine hK _ _ ?_; clear hK K))
      (try simp only [Act.put, List.setIfInBounds_toArray, List.set_cons_zero, List.set_cons_succ])
      refine wpAny_ready (rs := [8]) (by kernel_rfl) (by simp) ?_
      refine AllReady.cons (o := _) rfl (fun K hK => ?_) (AllReady.nil)
      refine step_append_recs Tryz.elCut cutE_one rfl (.tmp 35) (.tmp 37) rfl (by rfl) HSa.out.c (by rfl) HLT.out.recs rfl ?_ (by decide) ?_ ?_
      ·simp at hzE ⊢; omega
      ·exact hsE
      intro A6 c6 w6 ho6 hg6 hl6
      have HB6 := HSa.out.k.grown hg6 (blkNe HSa.out.c HSa.out.k (by decide))
      have kg0 := HB6.cell 10; have kg1 := HB6.frozen 10
      simp only [seaC, List.getElem?_cons_zero, List.getElem?_cons_succ] at kg0
      have HS6 := Lib.hid (HSa.out.addC hg6 ho6 hl6 (by simp; omega))
      clear ho6 hg6 hl6 HB6
      (try (refine hK _ _ ?_; clear hK K))
      (try simp only [Act.put, List.setIfInBounds_toArray, List.set_cons_zero, List.set_cons_succ])
      refine wpAny_take (i := 9) (oi := { dst := some 39, op := _, type := _, pos := _, after := _, guard := _ }) (v := ?_) rfl (by kernel_rfl) (by kernel_rfl) (by kernel_rfl) (fun _ _ _ h => h) (Or.inl ⟨by rfl, ?_⟩) ?_
      rotate_left
      ·(intro w; go_simp) <;> with_reducible rfl
      (try simp only [Act.put, List.setIfInBounds_toArray, List.set_cons_zero, List.set_cons_succ])
      refine wpAny_take (i := 10) (oi := { dst := some 40, op := _, type := _, pos := _, after := _, guard := _ }) (v := ?_) rfl (by kernel_rfl) (by kernel_rfl) (by kernel_rfl) (fun _ _ _ h => h) (Or.inl ⟨by rfl, ?_⟩) ?_
      rotate_left
      ·(intro w; go_simp) <;> with_reducible rfl
      (try simp only [Act.put, List.setIfInBounds_toArray, List.set_cons_zero, List.set_cons_succ])
      refine wpAny_take (i := 11) (oi := { dst := some 41, op := _, type := _, pos := _, after := _, guard := _ }) (v := ?_) rfl (by kernel_rfl) (by kernel_rfl) (by kernel_rfl) (fun _ _ _ h => h) (Or.inl ⟨by rfl, ?_⟩) ?_
      rotate_left
      ·(intro w; go_simp) <;> with_reducible rfl
      (try simp only [Act.put, List.setIfInBounds_toArray, List.set_cons_zero, List.set_cons_succ])
      refine wpAny_ready (rs := [12]) (by kernel_rfl) (by simp) ?_
      refine AllReady.cons (o := _) rfl (fun K hK => ?_) (AllReady.nil)
      go_simp
      (try (refine hK _ _ ?_; clear hK K))
      (try simp only [Act.put, List.setIfInBounds_toArray, List.set_cons_zero, List.set_cons_succ])
      refine wpAny_done (by kernel_rfl) ?_ _
      (try simp only [Act.put, List.setIfInBounds_toArray, List.set_cons_zero, List.set_cons_succ])
      clear k10d HSd HSa HLT
      go_wp2_with fail
      refine bodyPost_ret (results_none rfl _ _ _) rfl ?_
      rw [HEX.out]
      exact ⟨rfl, _, _, _, _, _, _, HS6.out⟩
     ·skip
      go_simp
      (try (refine hK _ _ ?_; clear hK K))
      (try simp only [Act.put, List.setIfInBounds_toArray, List.set_cons_zero, List.set_cons_succ])
      refine wpAny_ready (rs := [5]) (by kernel_rfl) (by simp) ?_
      refine AllReady.cons (o := _) rfl (fun K hK => ?_) (AllReady.nil)
      go_simp
      (try (refine hK _ _ ?_; clear hK K))
      (try simp only [Act.put, List.setIfInBounds_toArray, List.set_cons_zero, List.set_cons_succ])
      refine wpAny_ready (rs := [8]) (by kernel_rfl) (by simp) ?_
      refine AllReady.cons (o := _) rfl (fun K hK => ?_) (AllReady.nil)
      refine step_append_recs Tryz.elCut cutE_one rfl (.tmp 35) (.tmp 37) rfl (by rfl) HSa.out.c (by rfl) HLT.out.recs rfl ?_ (by decide) ?_ ?_
      ·simp at hzE ⊢; omega
      ·exact hsE
      intro A6 c6 w6 ho6 hg6 hl6
      have HB6 := HSa.out.k.grown hg6 (blkNe HSa.out.c HSa.out.k (by decide))
      have kg0 := HB6.cell 10; have kg1 := HB6.frozen 10
      simp only [seaC, List.getElem?_cons_zero, List.getElem?_cons_succ] at kg0
      have HS6 := Lib.hid (HSa.out.addC hg6 ho6 hl6 (by simp; omega))
      clear ho6 hg6 hl6 HB6
      (try (refine hK _ _ ?_; clear hK K))
      (try simp only [Act.put, List.setIfInBounds_toArray, List.set_cons_zero, List.set_cons_succ])
      refine wpAny_take (i := 9) (oi := { dst := some 39, op := _, type := _, pos := _, after := _, guard := _ }) (v := ?_) rfl (by kernel_rfl) (by kernel_rfl) (by kernel_rfl) (fun _ _ _ h => h) (Or.inl ⟨by rfl, ?_⟩) ?_
      rotate_left
      ·(intro w; go_simp) <;> with_reducible rfl
      (try simp only [Act.put, List.setIfInBounds_toArray, List.set_cons_zero, List.set_cons_succ])
      refine wpAny_take (i := 10) (oi := { dst := some 40, op := _, type := _, pos := _, after := _, guard := _ }) (v := ?_) rfl (by kernel_rfl) (by kernel_rfl) (by kernel_rfl) (fun _ _ _ h => h) (Or.inl ⟨by rfl, ?_⟩) ?_
      rotate_left
      ·(intro w; go_simp) <;> with_reducible rfl
      (try simp only [Act.put, List.setIfInBounds_toArray, List.set_cons_zero, List.set_cons_succ])
      refine wpAny_take (i := 11) (oi := { dst := some 41, op := _, type := _, pos := _, after := _, guard := _ }) (v := ?_) rfl (by kernel_rfl) (by kernel_rfl) (by kernel_rfl) (fun _ _ _ h => h) (Or.inl ⟨by rfl, ?_⟩) ?_
      rotate_left
      ·(intro w; go_simp) <;> with_reducible rfl
      (try simp only [Act.put, List.setIfInBounds_toArray, List.set_cons_zero, List.set_cons_succ])
      refine wpAny_ready (rs := [12]) (by kernel_rfl) (by simp) ?_
      refine AllReady.cons (o := _) rfl (fun K hK => ?_) (AllReady.nil)
      go_simp
      (try (refine hK _ _ ?_; clear hK K))
      (try simp only [Act.put, List.setIfInBounds_toArray, List.set_cons_zero, List.set_cons_succ])
      refine wpAny_done (by kernel_rfl) ?_ _
      (try simp only [Act.put, List.setIfInBounds_toArray, List.set_cons_zero, List.set_cons_succ])
      clear k10d HSd HSa HLT
      go_wp2_with fail
      refine bodyPost_ret (results_none rfl _ _ _) rfl ?_
      rw [HEX.out]
      exact ⟨rfl, _, _, _, _, _, _, HS6.out⟩
end Go.Proofs.YtidolgonmimicaaGreat
namespace Go.Proofs.YtidolgonmimicaaGreat
open Go.ChangeShapes Go.WideShapes Go.ChangeAt Go.RowKit Go.Deep
theorem preT_nil : preT (⟨#[]⟩ : ByteArray) := ⟨Nat.zero_le _, fun k hk => absurd hk (Nat.not_lt_zero _)⟩
set_option maxHeartbeats 4000000 in
set_option maxRecDepth 100000 in
theorem impl_SearchTouches {A : Option Addr} {n c st : Nat} {nm : ByteArray} {l : List ByteArray} {kb ks : ByteArray} {N bd : Nat} {w : World} (hn : l.length = n) (h : Strs w A l) (hz : n ≤ 1048576) (hs : ∀ s ∈ l, s.size ≤ 16777216) (hnm : nm.size ≤ 16777216) (h9 : st ≤ 1000) (hkb : kb.size ≤ 16777216) (hks : ks.size ≤ 16777216) (hN : N ≤ 1000) (hbd : bd ≤ 10000) :
  Calls Tryz.prog 61 #[.agg #[.string nm, .int .i64 st, .slice A n c], .agg #[.string kb, .string ks], .int .i64 (N : Int), .int .i64 (bd : Int)] w fun e w' => FdR (stR nm st l kb ks N bd) (stOk nm st l kb ks N bd) w e w' := by
 have HOK : Hid (stOk nm st l kb ks N bd = (askS nm st l kb ks N && inB (bd : Int) 1 5000)) := Lib.hid rfl
 have HRT := Lib.hid (@stR_t nm st l kb ks N bd)
 have HRF := Lib.hid (@stR_f nm st l kb ks N bd)
 have HA : Hid (askS nm st l kb ks N = (goodK nm (st : Int) l kb ks && inB (N : Int) 1 6)) := Lib.hid rfl
 have HT := Lib.hid (@askS_t nm st l kb ks N)
 have HFE := Lib.hid (found_ex st l kb ks N bd)
 have b0 : Below w.heap.size w (((w.alloc (.cells ⟨[.string nm, .int .i64 st, .slice A n c]⟩ 25)).alloc (.cells ⟨[.string kb, .string ks]⟩ 27)).alloc (.cells #[.slice none 0 0, .slice none 0 0, .bool false] 75)) := by (repeat' (first | (with_reducible exact Below.refl _ _) | (with_reducible assumption) | (with_reducible refine below_drewN ?_ _) | (with_reducible refine Below.drew ?_) | (with_reducible refine below_alloc ?_ _) | (with_reducible refine Below.alloc ?_ ?_ _) | (with_reducible refine Below.setCell ?_ ?_ _) | (with_reducible refine below_go ?_ (by with_reducible assumption)) | (with_reducible refine below_then (by with_reducible assumption) ?_ ?_) | go_size))
 have K0 := ((Blk.at_ w 25 [.string nm, .int .i64 st, .slice A n c] (b := w.heap.size) rfl).alloc (.cells ⟨[.string kb, .string ks]⟩ 27)).alloc (.cells #[.slice none 0 0, .slice none 0 0, .bool false] 75)
 have J0 := (Blk.at_ (w.alloc (.cells ⟨[.string nm, .int .i64 st, .slice A n c]⟩ 25)) 27 [.string kb, .string ks] (b := w.heap.size + 1) (by simp)).alloc (.cells #[.slice none 0 0, .slice none 0 0, .bool false] 75)
 have D0 := Blk.at_ ((w.alloc (.cells ⟨[.string nm, .int .i64 st, .slice A n c]⟩ 25)).alloc (.cells ⟨[.string kb, .string ks]⟩ 27)) 75 [.slice none 0 0, .slice none 0 0, .bool false] (b := w.heap.size + 1 + 1) (by simp)
 have H0 := h.up b0
 clear h
 go_in
 go_wp2_with fail
 obtain ⟨w0, hw0⟩ : ∃ u, u = (((w.alloc (.cells #[.string nm, .int .i64 st, .slice A n c] 25)).alloc (.cells #[.string kb, .string ks] 27)).alloc (.cells #[.slice none 0 0, .slice none 0 0, .bool false] 75)) := ⟨_, rfl⟩
 rw [← hw0] at b0 K0 J0 D0 H0 ⊢
 clear hw0
 obtain ⟨M, hM⟩ : ∃ u, u = w.heap.size := ⟨_, rfl⟩
 have HMW := Lib.hid hM
 rw [← hM] at K0 J0 D0 ⊢
 clear hM
 refine (impl_goodSearch (nm := nm) hn H0 hz hs hnm h9 hkb hks hN).mono ?_; rw [← HA.out]; rintro e w1 ⟨rfl, hb1⟩
 have K1 := K0.up hb1
 have J1 := J0.up hb1
 have D1 := D0.up hb1
 have H1 := Lib.hid (H0.up hb1)
 have B1 := below_go b0 hb1
 have HSZ := Lib.hid B1.size
 clear K0 J0 D0 H0 b0 hb1
 have hDlt := D1.lt
 have fin : Hid (∀ (u : World) (x0 x1 x2 : Value), Below w.heap.size w u → Below w.heap.size w (((u.setCell ⟨M + 1 + 1, 0, none⟩ x0).setCell ⟨M + 1 + 1, 1, none⟩ x1).setCell ⟨M + 1 + 1, 2, none⟩ x2)) := Lib.hid (fun u x0 x1 x2 hu => by
  rw [HMW.out]
  exact ((hu.setCell (p := ⟨_, 0, none⟩) (by simp; omega) _).setCell (p := ⟨_, 1, none⟩) (by simp; omega) _).setCell (p := ⟨_, 2, none⟩) (by simp; omega) _)
 have bad : Hid (stOk nm st l kb ks N bd = false → ∀ u : World, Below w1.heap.size w1 u → FdR (stR nm st l kb ks N bd) (stOk nm st l kb ks N bd) w (.returned (.tuple #[.agg #[.slice none 0 0, .slice none 0 0, .bool false], .bool false])) (((u.setCell ⟨M + 1 + 1, 0, none⟩ (.slice none 0 0)).setCell ⟨M + 1 + 1, 1, none⟩ (.slice none 0 0)).setCell ⟨M + 1 + 1, 2, none⟩ (.bool false))) := Lib.hid (fun e2 u hu => by
  rw [HRF.out e2, e2]
  exact FdR.mk _ _ _ _ _ _ _ _ rfl rfl rfl (Owned.nil strE_len _ _ _) (Owned.nil cutE_len _ _ _) (by omega) (by omega) (fin.out _ _ _ _ (below_go B1 hu)))
 rcases hg : askS nm st l kb ks N
 ·have e2 := Lib.hid (show stOk nm st l kb ks N bd = false by rw [HOK.out, hg]; rfl)
  have d0 := D1.cell 0; have d1 := D1.cell 1; have d2 := D1.cell 2
  simp only [List.getElem?_cons_zero, List.getElem?_cons_succ] at d0 d1 d2
  have f0 := D1.frozen 0; have f1 := D1.frozen 1; have f2 := D1.frozen 2
  have VZ := ((D1.set_ 0 (.slice none 0 0)).set_ 1 (.slice none 0 0)).set_ 2 (.bool false)
  have v0 := VZ.cell 0; have v1 := VZ.cell 1; have v2 := VZ.cell 2
  simp only [List.set_cons_zero, List.set_cons_succ, List.getElem?_cons_zero, List.getElem?_cons_succ] at v0 v1 v2
  clear hg
  go_wp2_with fail
  refine bodyPost_ret (v := .tuple #[.agg #[.slice none 0 0, .slice none 0 0, .bool false], .bool false]) (by simp [results, Tryz.results61, go_sem, v0, v1, v2]) rfl ?_
  exact bad.out e2.out _ (Below.refl _ _)
 ·obtain ⟨hk, hN1, hN6⟩ := HT.out hg
  have HG := Lib.hid hg
  clear hg
  go_wp2_with fail
  refine (impl_within _ _ _ _).mono ?_; rintro e w' ⟨rfl, rfl⟩
  rcases hbb : inB (bd : Int) 1 5000
  ·have e2 := Lib.hid (show stOk nm st l kb ks N bd = false by rw [HOK.out, HG.out, hbb]; rfl)
   have d0 := D1.cell 0; have d1 := D1.cell 1; have d2 := D1.cell 2
   simp only [List.getElem?_cons_zero, List.getElem?_cons_succ] at d0 d1 d2
   have f0 := D1.frozen 0; have f1 := D1.frozen 1; have f2 := D1.frozen 2
   have VZ := ((D1.set_ 0 (.slice none 0 0)).set_ 1 (.slice none 0 0)).set_ 2 (.bool false)
   have v0 := VZ.cell 0; have v1 := VZ.cell 1; have v2 := VZ.cell 2
   simp only [List.set_cons_zero, List.set_cons_succ, List.getElem?_cons_zero, List.getElem?_cons_succ] at v0 v1 v2
   clear hbb
   go_wp2_with fail
   refine bodyPost_ret (v := .tuple #[.agg #[.slice none 0 0, .slice none 0 0, .bool false], .bool false]) (by simp [results, Tryz.results61, go_sem, v0, v1, v2]) rfl ?_
   exact bad.out e2.out _ (Below.refl _ _)
  ·have e2 := Lib.hid (show stOk nm st l kb ks N bd = true by rw [HOK.out, HG.out, hbb]; rfl)
   have hb5 := inB_t hbb
   have HRR := Lib.hid (HRT.out e2.out)
   clear hbb
   have m0 := K1.cell 0; have m1 := K1.cell 1; have m2 := K1.cell 2; have j0 := J1.cell 0; have j1 := J1.cell 1
   simp only [List.getElem?_cons_zero, List.getElem?_cons_succ] at m0 m1 m2 j0 j1
   go_wp2_with fail
   clear m0 m1 m2 j0 j1
   refine (impl_newSearcher (nm := nm) hn H1.out hz hs hnm h9 hk hN).mono ?_; rintro e w3 ⟨B, b, rfl, hKB, hm3, hb, hbB, hb3⟩
   have k8 := hKB.cell 8; have k11 := hKB.cell 11
   have f8 := hKB.frozen 8; have f11 := hKB.frozen 11
   simp only [seaC, List.getElem?_cons_zero, List.getElem?_cons_succ] at k8 k11
   have hg1 : w3.grownBy (w3.setCell ⟨B, 8, none⟩ (.int .i64 (bd : Int))) (some B) := only_set _ (p := ⟨B, 8, none⟩) _
   have hg2 : (w3.setCell ⟨B, 8, none⟩ (.int .i64 (bd : Int))).grownBy ((w3.setCell ⟨B, 8, none⟩ (.int .i64 (bd : Int))).setCell ⟨B, 11, none⟩ (.bool true)) (some B) := only_set _ (p := ⟨B, 11, none⟩) _
   have HS := Lib.hid (show StX w1 ((w3.setCell ⟨B, 8, none⟩ (.int .i64 (bd : Int))).setCell ⟨B, 11, none⟩ (.bool true)) B nm st A n c kb ks N (nodupB (leadL st l)) b (falL (leadL st l)) none 0 0 none 0 0 ⟨bd, [], [], true⟩ from
    ⟨(hb3.setCell (p := ⟨B, 8, none⟩) (by simp; omega) _).setCell (p := ⟨B, 11, none⟩) (by simp; omega) _, (hKB.set_ 8 _).set_ 11 _, ⟨by omega, by omega, hb⟩, (hm3.kept hg1 (fun e => by injection e with e; omega)).kept hg2 (fun e => by injection e with e; omega), Owned.nil strE_len _ _ _, Owned.nil cutE_len _ _ _, ⟨fun z hz => by simp [Value.ownBlock] at hz, fun z hz => by simp [Value.ownBlock] at hz⟩, ⟨by simp; omega, by simp; omega⟩⟩)
   clear hKB hm3 hg1 hg2 hb hbB hb3
   go_wp2_with fail
   obtain ⟨w5, hw5⟩ : ∃ u, u = ((w3.setCell ⟨B, 8, none⟩ (.int .i64 (bd : Int))).setCell ⟨B, 11, none⟩ (.bool true)) := ⟨_, rfl⟩
   rw [← hw5] at HS ⊢
   clear hw5 k8 k11 f8 f11
   refine (impl_examine hn H1.out hk hN6 N ⟨#[]⟩ _ _ _ _ _ _ _ _ (by simp [ByteArray.size]) preT_nil HS.out).mono ?_
   rw [← HFE.out]
   rintro e w6 ⟨rfl, AT, nT, cT, AC, nC, cC, H6⟩
   obtain ⟨R, hR⟩ : ∃ u, u = foundF st l kb ks N bd := ⟨_, rfl⟩
   rw [← hR] at H6 HRR
   clear hR HS
   have k9 := H6.k.cell 9; have k10 := H6.k.cell 10; have k11 := H6.k.cell 11
   simp only [seaC, List.getElem?_cons_zero, List.getElem?_cons_succ] at k9 k10 k11
   have D6 := D1.up H6.b
   have d0 := D6.cell 0; have d1 := D6.cell 1; have d2 := D6.cell 2
   simp only [List.getElem?_cons_zero, List.getElem?_cons_succ] at d0 d1 d2
   have f0 := D6.frozen 0; have f1 := D6.frozen 1; have f2 := D6.frozen 2
   have VZ := ((D6.set_ 0 (.slice AT nT cT)).set_ 1 (.slice AC nC cC)).set_ 2 (.bool R.ok)
   have v0 := VZ.cell 0; have v1 := VZ.cell 1; have v2 := VZ.cell 2
   simp only [List.set_cons_zero, List.set_cons_succ, List.getElem?_cons_zero, List.getElem?_cons_succ] at v0 v1 v2
   have HH := Lib.hid H6
   have HB6 := Lib.hid (below_go B1 H6.b)
   have HZ6 := Lib.hid H6.z
   have HT6 := Lib.hid (H6.t.base_le HSZ.out)
   have HC6 := Lib.hid (H6.c.base_le HSZ.out)
   have T1 := fun (u1 : World) (x : Value) (i : Nat) => @only_set u1 ⟨M + 1 + 1, i, none⟩ x
   clear H6 VZ
   go_wp2_with fail
   refine bodyPost_ret (v := .tuple #[.agg #[.slice AT nT cT, .slice AC nC cC, .bool R.ok], .bool true]) (by simp [results, Tryz.results61, go_sem, v0, v1, v2]) rfl ?_
   rw [HRR.out, e2.out]
   have g2 := sets3_grown w6 (M + 1 + 1) (.slice AT nT cT) (.slice AC nC cC) (.bool R.ok)
   exact FdR.mk AT nT cT AC nC cC R.ok true rfl rfl rfl (HT6.out.kept g2 (fun k hk e => blkNe HT6.out D6 (by decide) (e.trans hk.symm))) (HC6.out.kept g2 (fun k hk e => blkNe HC6.out D6 (by decide) (e.trans hk.symm))) (by have := HZ6.out; omega) (by have := HZ6.out; omega) (fin.out w6 _ _ _ HB6.out)
end Go.Proofs.YtidolgonmimicaaGreat
namespace Go.Proofs.YtidolgonmimicaaGreat
open Go.ChangeShapes Go.WideShapes Go.ChangeAt Go.RowKit Go.Deep
set_option maxHeartbeats 2000000 in
set_option maxRecDepth 100000 in
theorem laws_qSameF {AT BT AC BC : Option Addr} {c1 c2 c3 c4 nT nC : Nat} {T : List ByteArray} {C : List Cut3} {ok : Bool} {w : World} (hnT : T.length = nT) (hnC : C.length = nC) (hzT : nT ≤ 16777216) (hzC : nC ≤ 16777216) (hT : Strs w AT T) (hT2 : Strs w BT T) (hC : Recs cutE 3 w AC C) (hC2 : Recs cutE 3 w BC C) :
  Calls Tryz.prog 67 #[.agg #[.slice AT nT c1, .slice AC nC c2, .bool ok], .agg #[.slice BT nT c3, .slice BC nC c4, .bool ok]] w fun e w' => e = .returned (.bool true) ∧ Below w.heap.size w w' := by
 subst hnT hnC
 have b0 : Below w.heap.size w ((w.alloc (.cells #[.slice AT T.length c1, .slice AC C.length c2, .bool ok] 75)).alloc (.cells #[.slice BT T.length c3, .slice BC C.length c4, .bool ok] 75)) := by (repeat' (first | (with_reducible exact Below.refl _ _) | (with_reducible assumption) | (with_reducible refine below_drewN ?_ _) | (with_reducible refine Below.drew ?_) | (with_reducible refine below_alloc ?_ _) | (with_reducible refine Below.alloc ?_ ?_ _) | (with_reducible refine Below.setCell ?_ ?_ _) | (with_reducible refine below_go ?_ (by with_reducible assumption)) | (with_reducible refine below_then (by with_reducible assumption) ?_ ?_) | go_size))
 have K0 := (Blk.at_ w 75 [.slice AT T.length c1, .slice AC C.length c2, .bool ok] (b := w.heap.size) rfl).alloc (.cells #[.slice BT T.length c3, .slice BC C.length c4, .bool ok] 75)
 have J0 := Blk.at_ (w.alloc (.cells #[.slice AT T.length c1, .slice AC C.length c2, .bool ok] 75)) 75 [.slice BT T.length c3, .slice BC C.length c4, .bool ok] (b := w.heap.size + 1) (by simp)
 have HT := Lib.hid (hT.up b0)
 have HT2 := Lib.hid (hT2.up b0)
 have HC := Lib.hid (hC.up b0)
 have HC2 := Lib.hid (hC2.up b0)
 clear hT hT2 hC hC2
 have k0 := K0.cell 0; have k1 := K0.cell 1; have k2 := K0.cell 2; have j0 := J0.cell 0; have j1 := J0.cell 1; have j2 := J0.cell 2
 simp only [List.getElem?_cons_zero, List.getElem?_cons_succ] at k0 k1 k2 j0 j1 j2
 go_in
 go_wp2_with fail
 obtain ⟨w0, hw0⟩ : ∃ u, u = ((w.alloc (.cells #[.slice AT T.length c1, .slice AC C.length c2, .bool ok] 75)).alloc (.cells #[.slice BT T.length c3, .slice BC C.length c4, .bool ok] 75)) := ⟨_, rfl⟩
 rw [← hw0] at b0 K0 J0 HT HT2 HC HC2 ⊢
 clear hw0 k0 k1 k2 j0 j1 j2
 have KK := Lib.hid K0
 have JJ := Lib.hid J0
 obtain ⟨M, hM⟩ : ∃ u, u = w.heap.size := ⟨_, rfl⟩
 have HMW := Lib.hid hM
 rw [← hM] at KK JJ ⊢
 clear hM K0 J0
 refine (laws_qSameS rfl HT.out HT2.out hzT).mono ?_; rintro e w1 ⟨rfl, hb1⟩
 have HB1 := Lib.hid hb1
 have HB0 := Lib.hid b0
 clear hb1 b0
 have k1 := (KK.out.up HB1.out).cell 1; have k2 := (KK.out.up HB1.out).cell 2; have j1 := (JJ.out.up HB1.out).cell 1; have j2 := (JJ.out.up HB1.out).cell 2
 simp only [List.getElem?_cons_zero, List.getElem?_cons_succ] at k1 k2 j1 j2
 go_wp2
 clear k1 k2 j1 j2
 go_loopw [31] (fun iv wr => ∃ k : Nat, k ≤ C.length ∧ iv = .int .i64 k ∧ Below w1.heap.size w1 wr) (fun i _ => C.length - (intOf i).toNat)
 case atStart => exact ⟨0, Nat.zero_le _, rfl, Below.refl _ _⟩
 case round =>
  obtain ⟨k, hk, rfl, hb⟩ := hrel
  rename World => wr
  by_cases hlt : k < C.length
  ·obtain ⟨x, hx⟩ : ∃ x, C[k]? = some x := ⟨_, List.getElem?_eq_getElem hlt⟩
   obtain ⟨b1, o1, hA, hbb, hc0, hc1, hc2⟩ := (HC.out.up (below_go HB1.out hb)).at_3 hx
   obtain ⟨b2, o2, hA2, hbb2, hd0, hd1, hd2⟩ := (HC2.out.up (below_go HB1.out hb)).at_3 hx
   obtain ⟨t, a, b⟩ := x
   subst hA hA2
   dsimp only at hc0 hc1 hc2 hd0 hd1 hd2
   have k1 := (KK.out.up (below_go HB1.out hb)).cell 1; have j1 := (JJ.out.up (below_go HB1.out hb)).cell 1
   simp only [List.getElem?_cons_zero, List.getElem?_cons_succ] at k1 j1
   clear hx
   go_wp2
   go_quiet (fail)
   go_wp2
   go_roundw
   case rel => exact ⟨k + 1, by omega, by go_num, by (repeat' (first | (with_reducible exact Below.refl _ _) | (with_reducible assumption) | (with_reducible refine below_drewN ?_ _) | (with_reducible refine Below.drew ?_) | (with_reducible refine below_alloc ?_ _) | (with_reducible refine Below.alloc ?_ ?_ _) | (with_reducible refine Below.setCell ?_ ?_ _) | (with_reducible refine below_go ?_ (by with_reducible assumption)) | (with_reducible refine below_then (by with_reducible assumption) ?_ ?_) | go_size))⟩
   case measure => simp [intOf]; omega
  ·obtain rfl : k = C.length := by omega
   go_wp2
   go_ret
   exact ⟨rfl, below_go HB0.out (below_go HB1.out hb)⟩
end Go.Proofs.YtidolgonmimicaaGreat
namespace Go.Proofs.YtidolgonmimicaaGreat
open Go.ChangeShapes Go.WideShapes Go.ChangeAt Go.RowKit Go.Deep
def revP (t : ByteArray) : Nat → ByteArray
 | 0 => ⟨#[]⟩
 | k + 1 => t.extract k (k + 1) ++ revP t k
theorem revP_size (t : ByteArray) : ∀ k, (revP t k).size ≤ k
 | 0 => Nat.le_refl _
 | k + 1 => by
  have h := revP_size t k
  rw [revP, ByteArray.size_append, ByteArray.size_extract]
  omega
def bwdT (t : ByteArray) : ByteArray := revP t (t.size - 1) ++ t.extract (t.size - 1) t.size
theorem impl_backwards {t : ByteArray} {w : World} (h1 : 1 ≤ t.size) (h2 : t.size ≤ 60) :
  Calls Tryz.prog 208 #[.string t] w fun e w' => e = .returned (.string (bwdT t)) ∧ w = w' := by
 have HQ : Hid (bwdT t = revP t (t.size - 1) ++ t.extract (t.size - 1) t.size) := Lib.hid rfl
 have HR : Hid (∀ k, revP t (k + 1) = t.extract k (k + 1) ++ revP t k) := Lib.hid (fun _ => rfl)
 have HZ := Lib.hid (revP_size t)
 have hw1 : IntKind.i64.wrap ((t.size : Int) - 1) = ((t.size - 1 : Nat) : Int) := by rw [wrap_id (by omega)]; omega
 obtain ⟨m, hm⟩ : ∃ x, x = t.size - 1 := ⟨_, rfl⟩
 rw [← hm] at hw1 HQ
 have hmt : m < t.size := by omega
 have HM := Lib.hid hm
 clear hm
 go_in
 go_wp2
 go_loopw [3, 8] (fun sv iv wr => ∃ k : Nat, k ≤ m ∧ sv = .string (revP t k) ∧ iv = .int .i64 k ∧ w = wr) (fun _ i _ => m - (intOf i).toNat)
 case atStart => exact ⟨0, Nat.zero_le _, rfl, rfl, rfl⟩
 case round =>
  obtain ⟨k, hk, rfl, rfl, rfl⟩ := hrel
  obtain ⟨s, hs⟩ : ∃ x, x = revP t k := ⟨_, rfl⟩
  have hsz : s.size ≤ k := by rw [hs]; exact HZ.out k
  have HS := Lib.hid hs
  rw [← hs]
  clear hs
  by_cases hlt : k < m
  ·have hI : (k : Int) < (m : Int) := by omega
   have hle0 : (0 : Int) ≤ (k : Int) := by omega
   have hle1 : (k : Int) ≤ (k : Int) + 1 := by omega
   have hle2 : (k : Int) + 1 ≤ (t.size : Int) := by omega
   have hwr : IntKind.i64.wrap ((k : Int) + 1) = ((k + 1 : Nat) : Int) := by rw [wrap_id (by omega)]; omega
   have hes : (t.extract k (k + 1)).size ≤ 1 := by rw [ByteArray.size_extract]; omega
   have hov : ¬ 9223372036854775807 < (t.extract k (k + 1)).size + s.size := by omega
   go_wp2
   go_roundw
   case rel => exact ⟨k + 1, by omega, by rw [HR.out, ← HS.out], by go_num, trivial⟩
   case measure => simp [intOf]; omega
  ·obtain rfl : k = m := by omega
   have hle0 : (0 : Int) ≤ (k : Int) := by omega
   have hle2 : (k : Int) ≤ (t.size : Int) := by omega
   have hes : (t.extract k t.size).size ≤ 60 := by rw [ByteArray.size_extract]; omega
   have hov : ¬ 9223372036854775807 < s.size + (t.extract k t.size).size := by omega
   go_wp2
   go_ret
   rw [HQ.out, ← HS.out]
   exact ⟨rfl, rfl⟩
theorem spec_l9Reverse {t : ByteArray} {w : World} (h1 : 1 ≤ t.size) (h2 : t.size ≤ 60) :
  Calls Tryz.prog 212 #[.string t] w fun e w' => e = .returned (.string (bwdT t)) ∧ w = w' := by
 have HQ : Hid (bwdT t = revP t (t.size - 1) ++ t.extract (t.size - 1) t.size) := Lib.hid rfl
 have HR : Hid (∀ k, revP t (k + 1) = t.extract k (k + 1) ++ revP t k) := Lib.hid (fun _ => rfl)
 have HE : Hid (∀ s : ByteArray, s ++ revP t 0 = s) := Lib.hid (fun s => by rw [revP]; exact ByteArray.append_empty)
 have HZ := Lib.hid (revP_size t)
 obtain ⟨m, hm⟩ : ∃ x, x = t.size - 1 := ⟨_, rfl⟩
 have hw2 : IntKind.i64.wrap ((t.size : Int) - 2) = (m : Int) - 1 := by rw [wrap_id (by omega)]; omega
 have hw1 : IntKind.i64.wrap ((t.size : Int) - 1) = (m : Int) := by rw [wrap_id (by omega)]; omega
 rw [← hm] at HQ
 have hmt : m < t.size := by omega
 clear hm
 go_in
 go_wp2
 go_loopw [3, 4] (fun sv iv wr => ∃ (k : Nat) (s : ByteArray), k ≤ m ∧ sv = .string s ∧ iv = .int .i64 ((k : Int) - 1) ∧ Hid (s ++ revP t k = revP t m) ∧ w = wr) (fun _ i _ => (intOf i + 1).toNat)
 case atStart => exact ⟨m, ⟨#[]⟩, Nat.le_refl _, rfl, rfl, Lib.hid ByteArray.empty_append, rfl⟩
 case round =>
  obtain ⟨k, s, hk, rfl, rfl, HS, rfl⟩ := hrel
  have hsz : s.size ≤ m := by
   have h3 := congrArg ByteArray.size HS.out
   rw [ByteArray.size_append] at h3
   have := HZ.out m
   omega
  by_cases hlt : 0 < k
  ·obtain ⟨j, rfl⟩ : ∃ j, k = j + 1 := ⟨k - 1, by omega⟩
   have HS2 : Hid ((s ++ t.extract j (j + 1)) ++ revP t j = revP t m) := Lib.hid (by rw [ByteArray.append_assoc, ← HR.out]; exact HS.out)
   have he : (((j + 1 : Nat) : Int) - 1) = (j : Int) := by omega
   rw [he]
   have hI : (0 : Int) ≤ (j : Int) := by omega
   have hle1 : (j : Int) ≤ (j : Int) + 1 := by omega
   have hle2 : (j : Int) + 1 ≤ (t.size : Int) := by omega
   have hwr : IntKind.i64.wrap ((j : Int) + 1) = ((j + 1 : Nat) : Int) := by rw [wrap_id (by omega)]; omega
   have hws : IntKind.i64.wrap ((j : Int) - 1) = (j : Int) - 1 := by rw [wrap_id (by omega)]
   have hes : (t.extract j (j + 1)).size ≤ 1 := by rw [ByteArray.size_extract]; omega
   have hov : ¬ 9223372036854775807 < s.size + (t.extract j (j + 1)).size := by omega
   clear he HS
   go_wp2
   go_roundw
   case rel => exact ⟨j, _, by omega, rfl, rfl, HS2, trivial⟩
   case measure => simp [intOf]
  ·obtain rfl : k = 0 := by omega
   have HS2 : Hid (revP t m = s) := Lib.hid (by rw [← HS.out]; exact HE.out s)
   have hle0 : (0 : Int) ≤ (m : Int) := by omega
   have hle2 : (m : Int) ≤ (t.size : Int) := by omega
   have hes : (t.extract m t.size).size ≤ 60 := by rw [ByteArray.size_extract]; omega
   have hov : ¬ 9223372036854775807 < s.size + (t.extract m t.size).size := by omega
   clear HS
   go_wp2
   go_ret
   rw [HQ.out, HS2.out]
   exact ⟨rfl, rfl⟩
end Go.Proofs.YtidolgonmimicaaGreat
namespace Go.Proofs.YtidolgonmimicaaGreat
open Go.ChangeShapes Go.WideShapes Go.ChangeAt Go.RowKit Go.Deep
def turnT (t : ByteArray) (k : Nat) : ByteArray := t.extract k t.size ++ t.extract 0 k
theorem spec_l9Turn {t : ByteArray} {k : Nat} {w : World} (h2 : t.size ≤ 60) (hk : k ≤ t.size) :
  Calls Tryz.prog 244 #[.string t, .int .i64 (k : Int)] w fun e w' => e = .returned (.string (turnT t k)) ∧ Below w.heap.size w w' := by
 have HQ : Hid (turnT t k = t.extract k t.size ++ t.extract 0 k) := Lib.hid rfl
 have hle0 : (0 : Int) ≤ (k : Int) := by omega
 have hle2 : (k : Int) ≤ (t.size : Int) := by omega
 have he1 : (t.extract k t.size).size ≤ 60 := by rw [ByteArray.size_extract]; omega
 have he2 : (t.extract 0 k).size ≤ 60 := by rw [ByteArray.size_extract]; omega
 have hov : ¬ 9223372036854775807 < (t.extract k t.size).size + (t.extract 0 k).size := by omega
 go_in
 go_wp2
 go_quiet (fail)
 go_wp2
 go_ret
 rw [HQ.out]
 exact ⟨rfl, by (repeat' (first | (with_reducible exact Below.refl _ _) | (with_reducible assumption) | (with_reducible refine below_drewN ?_ _) | (with_reducible refine Below.drew ?_) | (with_reducible refine below_alloc ?_ _) | (with_reducible refine Below.alloc ?_ ?_ _) | (with_reducible refine Below.setCell ?_ ?_ _) | (with_reducible refine below_go ?_ (by with_reducible assumption)) | (with_reducible refine below_then (by with_reducible assumption) ?_ ?_) | go_size))⟩
end Go.Proofs.YtidolgonmimicaaGreat
namespace Go.Proofs.YtidolgonmimicaaGreat
open Go.ChangeShapes Go.WideShapes Go.ChangeAt Go.RowKit Go.Deep
def minT (a b : ByteArray) : ByteArray := if less b a then b else a
def leastP (t : ByteArray) : Nat → ByteArray
 | 0 => t
 | k + 1 => minT (leastP t k) (turnT t k)
theorem turnT_size {t : ByteArray} {k : Nat} (hk : k ≤ t.size) : (turnT t k).size = t.size := by
 rw [turnT, ByteArray.size_append, ByteArray.size_extract, ByteArray.size_extract]; omega
theorem leastP_size (t : ByteArray) : ∀ k, k ≤ t.size → (leastP t k).size = t.size
 | 0, _ => rfl
 | k + 1, h => by
  rw [leastP, minT]
  split
  ·exact turnT_size (by omega)
  ·exact leastP_size t k (by omega)
theorem revP_sz (t : ByteArray) : ∀ k, k ≤ t.size → (revP t k).size = k
 | 0, _ => rfl
 | k + 1, h => by
  have h2 := revP_sz t k (by omega)
  rw [revP, ByteArray.size_append, ByteArray.size_extract]
  omega
theorem bwdT_size {t : ByteArray} (h : 1 ≤ t.size) : (bwdT t).size = t.size := by
 rw [bwdT, ByteArray.size_append, revP_sz t _ (by omega), ByteArray.size_extract]
 omega
theorem run_min2 (a b : ByteArray) (w : World) : (Builtin.min_ #[9, 9] 9 #[.string a, .string b]).run Tryz.prog w = .ok (.string (minT a b)) w := by
 simp only [minT]
 rcases hl : less b a
 ·obtain ⟨h1, h2⟩ := less_no hl
  have h1' := h1
  rcases h2 with h2 | ⟨h2, h3⟩
  ·simp [Builtin.min_, Builtin.min2, Op.stringOp, go_sem, h1, h2]
  ·simp [Builtin.min_, Builtin.min2, Op.stringOp, go_sem, h1, h2, h3]
 ·obtain ⟨h1, h2, h3⟩ := less_yes hl
  simp [Builtin.min_, Builtin.min2, Op.stringOp, go_sem, h1, h2, h3]
set_option maxRecDepth 100000 in
theorem impl_leastTurn1 {t : ByteArray} {w : World} (h2 : t.size ≤ 60) :
  Calls Tryz.prog 154 #[.string t, .bool false] w fun e w' => e = .returned (.string (leastP t t.size)) ∧ Below w.heap.size w w' := by
 have HR : Hid (∀ k, leastP t (k + 1) = minT (leastP t k) (turnT t k)) := Lib.hid (fun _ => rfl)
 have HTU : Hid (∀ k, turnT t k = t.extract k t.size ++ t.extract 0 k) := Lib.hid (fun _ => rfl)
 have HMT : Hid (∀ a b, minT a b = if less b a then b else a) := Lib.hid (fun _ _ => rfl)
 go_in
 go_wp2
 go_loopw [5, 10] (fun sv iv wr => ∃ k : Nat, k ≤ t.size ∧ sv = .string (leastP t k) ∧ iv = .int .i64 k ∧ Below w.heap.size w wr) (fun _ i _ => t.size - (intOf i).toNat)
 case atStart => exact ⟨0, Nat.zero_le _, rfl, rfl, Below.refl _ _⟩
 case round =>
  obtain ⟨k, hk, rfl, rfl, hb⟩ := hrel
  rename World => wr
  obtain ⟨s, hs⟩ : ∃ x, x = leastP t k := ⟨_, rfl⟩
  have HS := Lib.hid hs
  rw [← hs]
  clear hs
  by_cases hlt : k < t.size
  ·have hI : (k : Int) < (t.size : Int) := by omega
   have hle0 : (0 : Int) ≤ (k : Int) := by omega
   have hle2 : (k : Int) ≤ (t.size : Int) := by omega
   have he1 : (t.extract k t.size).size ≤ 60 := by rw [ByteArray.size_extract]; omega
   have he2 : (t.extract 0 k).size ≤ 60 := by rw [ByteArray.size_extract]; omega
   have hov : ¬ 9223372036854775807 < (t.extract k t.size).size + (t.extract 0 k).size := by omega
   have hmin := fun (a b : ByteArray) (u : World) => run_min2 a b u
   have hov2 : ¬ 9223372036854775807 < t.size := by omega
   go_wp2
   go_region
   go_wp2
   go_roundw
   case rel => exact ⟨k + 1, by omega, by rw [HR.out, ← HS.out, HTU.out, HMT.out], by go_num, by (repeat' (first | (with_reducible exact Below.refl _ _) | (with_reducible assumption) | (with_reducible refine below_drewN ?_ _) | (with_reducible refine Below.drew ?_) | (with_reducible refine below_alloc ?_ _) | (with_reducible refine Below.alloc ?_ ?_ _) | (with_reducible refine Below.setCell ?_ ?_ _) | (with_reducible refine below_go ?_ (by with_reducible assumption)) | (with_reducible refine below_then (by with_reducible assumption) ?_ ?_) | go_size))⟩
   case measure => simp [intOf]; omega
  ·obtain rfl : k = t.size := by omega
   go_wp2
   go_ret
   rw [HS.out]
   exact ⟨rfl, hb⟩
set_option maxRecDepth 100000 in
theorem impl_leastTurn2 {t : ByteArray} {w : World} (h1 : 1 ≤ t.size) (h2 : t.size ≤ 60) :
  Calls Tryz.prog 154 #[.string t, .bool true] w fun e w' => e = .returned (.string (minT (leastP t t.size) (leastP (bwdT t) t.size))) ∧ Below w.heap.size w w' := by
 have HR : Hid (∀ k, leastP t (k + 1) = minT (leastP t k) (turnT t k)) := Lib.hid (fun _ => rfl)
 have HTU : Hid (∀ k, turnT t k = t.extract k t.size ++ t.extract 0 k) := Lib.hid (fun _ => rfl)
 have HMT : Hid (∀ a b, minT a b = if less b a then b else a) := Lib.hid (fun _ _ => rfl)
 go_in
 go_wp2
 go_loopw [5, 10] (fun sv iv wr => ∃ k : Nat, k ≤ t.size ∧ sv = .string (leastP t k) ∧ iv = .int .i64 k ∧ Below w.heap.size w wr) (fun _ i _ => t.size - (intOf i).toNat)
 case atStart => exact ⟨0, Nat.zero_le _, rfl, rfl, Below.refl _ _⟩
 case round =>
  obtain ⟨k, hk, rfl, rfl, hb⟩ := hrel
  rename World => wr
  obtain ⟨s, hs⟩ : ∃ x, x = leastP t k := ⟨_, rfl⟩
  have HS := Lib.hid hs
  rw [← hs]
  clear hs
  by_cases hlt : k < t.size
  ·have hI : (k : Int) < (t.size : Int) := by omega
   have hle0 : (0 : Int) ≤ (k : Int) := by omega
   have hle2 : (k : Int) ≤ (t.size : Int) := by omega
   have he1 : (t.extract k t.size).size ≤ 60 := by rw [ByteArray.size_extract]; omega
   have he2 : (t.extract 0 k).size ≤ 60 := by rw [ByteArray.size_extract]; omega
   have hov : ¬ 9223372036854775807 < (t.extract k t.size).size + (t.extract 0 k).size := by omega
   have hmin := fun (a b : ByteArray) (u : World) => run_min2 a b u
   have hov2 : ¬ 9223372036854775807 < t.size := by omega
   go_wp2
   go_region
   go_wp2
   go_roundw
   case rel => exact ⟨k + 1, by omega, by rw [HR.out, ← HS.out, HTU.out, HMT.out], by go_num, by (repeat' (first | (with_reducible exact Below.refl _ _) | (with_reducible assumption) | (with_reducible refine below_drewN ?_ _) | (with_reducible refine Below.drew ?_) | (with_reducible refine below_alloc ?_ _) | (with_reducible refine Below.alloc ?_ ?_ _) | (with_reducible refine Below.setCell ?_ ?_ _) | (with_reducible refine below_go ?_ (by with_reducible assumption)) | (with_reducible refine below_then (by with_reducible assumption) ?_ ?_) | go_size))⟩
   case measure => simp [intOf]; omega
  ·obtain rfl : k = t.size := by omega
   have HBS := Lib.hid (bwdT_size h1)
   have hmin := fun (a b : ByteArray) (u : World) => run_min2 a b u
   go_wp2_with fail
   refine (impl_backwards h1 h2).mono ?_; rintro e w2 ⟨rfl, rfl⟩
   go_wp2_with fail
   refine (impl_leastTurn1 (t := bwdT t) (by rw [HBS.out]; exact h2)).mono ?_; rw [HBS.out]; rintro e w3 ⟨rfl, hb3⟩
   go_wp2
   go_ret
   rw [HS.out]
   exact ⟨rfl, below_go hb hb3⟩
end Go.Proofs.YtidolgonmimicaaGreat
namespace Go.Proofs.YtidolgonmimicaaGreat
open Go.ChangeShapes Go.WideShapes Go.ChangeAt Go.RowKit Go.Deep
theorem next_at {P : Program} {w : World} {B pos : Nat} {s : ByteArray} (ty : TypeId) (hB : w.heap[B]? = some (.stringIter s pos)) (h : pos < s.size) (ha : (s[pos]'h).toNat < 128) :
  (Instr.next (.pointer (some ⟨B, 0, none⟩)) true ty).run P w = .ok (.tuple #[.bool true, .int .i64 pos, .int .i32 (s[pos]'h).toNat]) { w with heap := w.heap.setIfInBounds B (.stringIter s (pos + 1)) } := by
 simp only [Instr.next, getObj, setObj, Sem.run_bind, Sem.run, hB, Result.andThen, h, if_true, decode_ascii s pos h ha]
 simp [goInt, Sem.run, hB]
theorem next_done {P : Program} {w : World} {B pos : Nat} {s : ByteArray} (ty : TypeId) (hB : w.heap[B]? = some (.stringIter s pos)) (h : ¬ pos < s.size) :
  (Instr.next (.pointer (some ⟨B, 0, none⟩)) true ty).run P w = .ok (.tuple #[.bool false]) w := by
 simp [Instr.next, getObj, Sem.run, hB, h]
end Go.Proofs.YtidolgonmimicaaGreat
namespace Go.Proofs.YtidolgonmimicaaGreat
open Go.ChangeShapes Go.WideShapes Go.ChangeAt Go.RowKit Go.Deep
theorem next_step {P : Program} {w : World} {B pos : Nat} {s : ByteArray} (hB : w.heap[B]? = some (.stringIter s pos)) (h : pos < s.size) (ha : (s[pos]'h).toNat < 128) :
  ∃ w1, (∀ ty : TypeId, (Instr.next (.pointer (some ⟨B, 0, none⟩)) true ty).run P w = .ok (.tuple #[.bool true, .int .i64 pos, .int .i32 (s[pos]'h).toNat]) w1) ∧ w1.heap[B]? = some (.stringIter s (pos + 1)) ∧ w1.heap.size = w.heap.size ∧ ∀ (B0 : Nat) (a : World), Below B0 a w → B0 ≤ B → Below B0 a w1 := by
 refine ⟨{ w with heap := w.heap.setIfInBounds B (.stringIter s (pos + 1)) }, fun ty => next_at ty hB h ha, ?_, by simp, fun B0 a hb hB0 => ⟨hb.os, hb.tape, hb.output, by simpa using hb.size, fun k hk => ?_⟩⟩
 ·have hl := (Array.getElem?_eq_some_iff.1 hB).1
  simp [hl]
 ·have hne : B ≠ k := by omega
  have := hb.block k hk
  simpa [Array.getElem?_setIfInBounds, hne] using this
def iterPos (w : World) (B : Nat) : Nat := match w.heap[B]? with | some (.stringIter _ p) => p | _ => 0
theorem iterPos_of {w : World} {B pos : Nat} {s : ByteArray} (h : w.heap[B]? = some (.stringIter s pos)) : iterPos w B = pos := by rw [iterPos, h]
theorem callB_ascii {t : ByteArray} {k : Nat} (h : k < t.size) (hc : callB t k = true) : (t[k]'h).toNat < 128 := by
 have := PlainAid.get_bt t k h
 rw [callB] at hc
 simp only [Bool.or_eq_true, beq_iff_eq] at hc
 omega
set_option maxHeartbeats 1000000 in
set_option maxRecDepth 100000 in
theorem spec_l9Least {t : ByteArray} {w : World} (h2 : t.size ≤ 60) (hc : ∀ k, k < t.size → callB t k = true) :
  Calls Tryz.prog 211 #[.string t] w fun e w' => e = .returned (.string (leastP t t.size)) ∧ Below w.heap.size w w' := by
 have HR : Hid (∀ k, leastP t (k + 1) = minT (leastP t k) (turnT t k)) := Lib.hid (fun _ => rfl)
 have HMT : Hid (∀ a b, minT a b = if less b a then b else a) := Lib.hid (fun _ _ => rfl)
 have HC := Lib.hid hc
 have b0 : Below w.heap.size w (w.iter t 0) := (Below.refl _ _).alloc (Nat.le_refl _) _
 have i0 : (w.iter t 0).heap[w.heap.size]? = some (.stringIter t 0) := World.iter_heap w t 0
 have HB0 := Lib.hid b0
 have HI0 := Lib.hid i0
 clear hc b0 i0
 go_in
 go_wp2
 obtain ⟨w0, hw0⟩ : ∃ u, u = w.iter t 0 := ⟨_, rfl⟩
 rw [← hw0] at HB0 HI0 ⊢
 clear hw0
 obtain ⟨B, hBe⟩ : ∃ u, u = w.heap.size := ⟨_, rfl⟩
 have HBE := Lib.hid hBe
 rw [← hBe] at HI0 ⊢
 clear hBe
 go_loopw [3] (fun sv wr => ∃ k : Nat, k ≤ t.size ∧ sv = .string (leastP t k) ∧ Hid (wr.heap[B]? = some (.stringIter t k)) ∧ Below w.heap.size w wr) (fun _ wr => t.size - iterPos wr B)
 case atStart => exact ⟨0, Nat.zero_le _, rfl, HI0, HB0.out⟩
 case round =>
  obtain ⟨k, hk, rfl, HI, hb⟩ := hrel
  rename World => wr
  obtain ⟨s, hs⟩ : ∃ x, x = leastP t k := ⟨_, rfl⟩
  have HS := Lib.hid hs
  rw [← hs]
  clear hs
  have HPOS := Lib.hid (iterPos_of HI.out)
  by_cases hlt : k < t.size
  ·obtain ⟨w1, hn, hi1, hz1, hbb⟩ := next_step (P := Tryz.prog) HI.out hlt (callB_ascii hlt (HC.out k hlt))
   have hb1 := hbb _ _ hb (by rw [HBE.out]; exact Nat.le_refl _)
   have HI1 := Lib.hid hi1
   have hBlt : B < w1.heap.size := (Array.getElem?_eq_some_iff.1 hi1).1
   clear hi1 hbb
   go_wp2_with fail
   clear hn
   refine (spec_l9Turn h2 (by omega)).mono ?_; rintro e w2 ⟨rfl, hb2⟩
   have HI2 : Hid (w2.heap[B]? = some (.stringIter t (k + 1))) := Lib.hid ((hb2.block B hBlt).trans HI1.out)
   have hb3 := below_go hb1 hb2
   have HS1 := Lib.hid (HR.out k)
   rw [HMT.out, ← HS.out] at HS1
   obtain ⟨y, hy⟩ : ∃ y, y = turnT t k := ⟨_, rfl⟩
   rw [← hy] at HS1 ⊢
   clear hy
   rcases hl : less y s
   ·obtain ⟨q1, q2⟩ := less_no hl
    have HE := Lib.hid (show leastP t (k + 1) = s by rw [HS1.out, hl]; rfl)
    rcases q2 with q2 | ⟨q2, q3⟩
    ·go_wp2
     go_roundw
     case rel => exact ⟨k + 1, by omega, by rw [HE.out], HI2, hb3⟩
     case measure => rw [HPOS.out, iterPos_of HI2.out]; omega
    ·go_wp2
     go_roundw
     case rel => exact ⟨k + 1, by omega, by rw [HE.out], HI2, hb3⟩
     case measure => rw [HPOS.out, iterPos_of HI2.out]; omega
   ·obtain ⟨q1, q2, q3⟩ := less_yes hl
    have HE := Lib.hid (show leastP t (k + 1) = y by rw [HS1.out, hl]; rfl)
    go_wp2
    go_roundw
    case rel => exact ⟨k + 1, by omega, by rw [HE.out], HI2, hb3⟩
    case measure => rw [HPOS.out, iterPos_of HI2.out]; omega
  ·obtain rfl : k = t.size := by omega
   have hn := fun ty : TypeId => next_done (P := Tryz.prog) ty HI.out hlt
   go_wp2
   go_ret
   rw [HS.out]
   exact ⟨rfl, hb⟩
end Go.Proofs.YtidolgonmimicaaGreat
namespace Go.Proofs.YtidolgonmimicaaGreat
theorem nums_data (s : ByteArray) : nums s = s.data.toList.map fun b => (b.toNat : Int) := by
 apply List.ext_getElem
 ·rw [nums_len, List.length_map, Array.length_toList]; rfl
 ·intro j h1 h2
  have hj : j < s.size := by rwa [nums_len] at h1
  have h := nums_at hj
  rw [List.getElem?_eq_getElem h1] at h
  injection h with h
  rw [h, PlainAid.bt, dif_pos hj, List.getElem_map, Array.getElem_toList]
  rfl
theorem nums_app (a b : ByteArray) : nums (a ++ b) = nums a ++ nums b := by
 rw [nums_data, nums_data, nums_data, ByteArray.data_append, Array.toList_append, List.map_append]
theorem nums_ext (s : ByteArray) (i j : Nat) : nums (s.extract i j) = ((nums s).drop i).take (j - i) := by
 rw [nums_data, nums_data, Lib.extract_data, List.map_take, List.map_drop]
theorem cut_perm {R O : List Int} {i : Nat} (h : i < R.length) : ((O ++ [R[i]]) ++ (R.take i ++ R.drop (i + 1))).Perm (O ++ R) := by
 rw [List.append_assoc]
 apply List.Perm.append_left
 have e : R = R.take i ++ R[i] :: R.drop (i + 1) := by rw [← List.drop_eq_getElem_cons h, List.take_append_drop]
 rw [List.singleton_append]
 conv => rhs; rw [e]
 exact List.perm_middle.symm
def RowSt (n : Nat) (out rest : ByteArray) : Prop := (nums out ++ nums rest).Perm (nums (roundsS n))
theorem RowSt.sizes {n : Nat} {out rest : ByteArray} (h : RowSt n out rest) (hn : n ≤ 8) : out.size + rest.size = n := by
 have := h.length_eq
 rw [List.length_append, nums_len, nums_len, nums_len, rounds_size n (by omega)] at this
 exact this
theorem RowSt.step {n i : Nat} {out rest : ByteArray} (h : RowSt n out rest) (hi : i < rest.size) : RowSt n (out ++ rest.extract i (i + 1)) (rest.extract 0 i ++ rest.extract (i + 1) rest.size) := by
 have hl : i < (nums rest).length := by rw [nums_len]; exact hi
 have e1 : nums (rest.extract i (i + 1)) = [(nums rest)[i]] := by
  rw [nums_ext, List.drop_eq_getElem_cons hl, show i + 1 - i = 0 + 1 by omega, List.take_succ_cons, List.take_zero]
 have e2 : nums (rest.extract 0 i) = (nums rest).take i := by rw [nums_ext, List.drop_zero, Nat.sub_zero]
 have e3 : nums (rest.extract (i + 1) rest.size) = (nums rest).drop (i + 1) := by
  rw [nums_ext, List.take_of_length_le]
  rw [List.length_drop, nums_len]
  exact Nat.le_refl _
 rw [RowSt, nums_app, nums_app, e1, e2, e3]
 exact (cut_perm hl).trans h
theorem RowSt.done {n : Nat} {out rest : ByteArray} (h : RowSt n out rest) (h3 : 3 ≤ n) (h8 : n ≤ 8) (h0 : rest.size = 0) : goodRow out = true ∧ out.size = n := by
 have hs := h.sizes h8
 have e : nums rest = [] := List.length_eq_zero_iff.1 (by rw [nums_len]; exact h0)
 have hp : (nums out).Perm (nums (roundsS n)) := by rw [RowSt, e, List.append_nil] at h; exact h
 have hr := goodRow_list (good_rounds n (by omega) h3)
 have ho : out.size = n := by omega
 refine ⟨goodRow_of (by omega) ⟨hp.nodup_iff.2 hr.1, fun z hz => ?_⟩, ho⟩
 have := hr.2 z (hp.mem_iff.1 hz)
 rw [hp.length_eq]
 exact this
end Go.Proofs.YtidolgonmimicaaGreat
namespace Go.Proofs.YtidolgonmimicaaGreat
open Go.ChangeShapes Go.WideShapes Go.ChangeAt Go.RowKit Go.Deep
def calT (t : ByteArray) : Prop := ∀ z ∈ nums t, z = 112 ∨ z = 98 ∨ z = 115
theorem calT_app {a b : ByteArray} (h : calT a) (g : calT b) : calT (a ++ b) := fun z hz => by
 rw [nums_app] at hz
 exact (List.mem_append.1 hz).elim (h z) (g z)
theorem calT_at {t : ByteArray} (h : calT t) : ∀ k, k < t.size → callB t k = true := fun k hk => by
 have := h _ (List.mem_of_getElem? (nums_at hk))
 rw [callB]
 rcases this with e | e | e <;> rw [e] <;> rfl
theorem calT_of {t : ByteArray} (h : ∀ k, k < t.size → callB t k = true) : calT t := fun z hz => by
 obtain ⟨k, hk⟩ := List.getElem?_of_mem hz
 have hl := (List.getElem?_eq_some_iff.1 hk).1
 rw [nums_len] at hl
 rw [nums_at hl] at hk
 injection hk with hk
 have h1 := h k hl
 rw [callB] at h1
 simp only [Bool.or_eq_true, beq_iff_eq] at h1
 rw [← hk]
 exact h1
theorem calT_good {t : ByteArray} (h : goodT t = true) : calT t := calT_of (goodT_t h).2.2
theorem calT_nil : calT ⟨#[]⟩ := fun z hz => by cases hz
theorem calT_b : calT ⟨#[98]⟩ := by
 intro z hz
 have : nums ⟨#[98]⟩ = [98] := by rfl
 rw [this] at hz; simp at hz; omega
theorem calT_p : calT ⟨#[112]⟩ := by
 intro z hz
 have : nums ⟨#[112]⟩ = [112] := by rfl
 rw [this] at hz; simp at hz; omega
theorem calT_s : calT ⟨#[115]⟩ := by
 intro z hz
 have : nums ⟨#[115]⟩ = [115] := by rfl
 rw [this] at hz; simp at hz; omega
end Go.Proofs.YtidolgonmimicaaGreat
namespace Go.Proofs
open Go.Shelf
def Tryz.lays194_ren : Go.Shelf.Ren := ⟨fun | 194 => 156 | n => n, fun | 31 => 23 | 9 => 9 | 3 => 3 | 4 => 4 | 0 => 0 | n => n, fun | n => n⟩
theorem Tryz.lays194 : Go.Proofs.Lays.n194 Tryz.prog Tryz.lays194_ren := {
 mixed := by kernel_rfl
 f194 := Tryz.func156.trans (congrArg some (by kernel_rfl))
 t0 := Tryz.underlying0
 a0 := Tryz.isAgg0
 z0 := Tryz.sizeOf0
 v0 := Tryz.zeroValue0
 t3 := Tryz.underlying3
 a3 := Tryz.isAgg3
 z3 := Tryz.sizeOf3
 v3 := Tryz.zeroValue3
 t4 := Tryz.underlying4
 a4 := Tryz.isAgg4
 z4 := Tryz.sizeOf4
 v4 := Tryz.zeroValue4
 t9 := Tryz.underlying9
 a9 := Tryz.isAgg9
 z9 := Tryz.sizeOf9
 v9 := Tryz.zeroValue9
 t31 := Tryz.underlying23
 a31 := Tryz.isAgg23
 z31 := Tryz.sizeOf23
 v31 := Tryz.zeroValue23 }
open Go.RowKit Go.Lib Go.Sort in
theorem Tryz.slices_Compact_string (blk off cap : Nat) (zs : List (List UInt8)) (w : World) (hH : Holds encStr w blk off zs.toArray) (hsz : zs.length ≤ 9223372036854775807) (hcap : zs.length ≤ cap) :
  Calls Tryz.prog 156 #[.slice (some ⟨blk, off, none⟩) zs.length cap] w fun e w' => e = .returned (.slice (some ⟨blk, off, none⟩) (Lib.compact zs).length cap) ∧ ∃ q, w' = putRow encStr (Sort.ahead w q) blk off (Lib.compact zs ++ List.replicate (zs.length - (Lib.compact zs).length) []).toArray := Any.slices_Compact_string Tryz.lays194 blk off cap zs w hH hsz hcap
end Go.Proofs
namespace Go.Proofs.YtidolgonmimicaaGreat
open Go.ChangeShapes Go.WideShapes Go.ChangeAt Go.RowKit Go.Deep
theorem uniq_step_last (out : List ByteArray) (f : ByteArray) : (uniqStep out f).getLast? = some f := by
 rw [uniqStep]
 split
 ·assumption
 ·simp
theorem uniq_last {L : List ByteArray} {m : Nat} {g : ByteArray} (h : L[m]? = some g) : (uniqF (L.take (m + 1))).getLast? = some g := by
 rw [uniqF_step h]; exact uniq_step_last _ _
def datS (s : ByteArray) : List UInt8 := s.data.toList
def mkS (x : List UInt8) : ByteArray := ⟨x.toArray⟩
theorem mk_dat (s : ByteArray) : mkS (datS s) = s := ba_list s
theorem dat_mk (x : List UInt8) : datS (mkS x) = x := by simp [datS, mkS]
theorem dat_inj {a b : ByteArray} (h : datS a = datS b) : a = b := by rw [← mk_dat a, h, mk_dat]
theorem compact_upto (l : List ByteArray) : ∀ m, m ≤ l.length → (Lib.compactUpTo (l.map datS).toArray m).map mkS = uniqF (l.take m)
 | 0, _ => rfl
 | m + 1, h => by
  obtain ⟨f, hf⟩ : ∃ f, l[m]? = some f := ⟨l[m], List.getElem?_eq_getElem (by omega)⟩
  have ih := compact_upto l m (by omega)
  have hd : (l.map datS).toArray[m]! = datS f := by
   rw [getElem!_pos _ m (by simp; omega)]
   have : (l.map datS)[m]? = some (datS f) := by rw [List.getElem?_map, hf]; rfl
   obtain ⟨_, e⟩ := List.getElem?_eq_some_iff.1 this
   simpa using e
  rw [Lib.compactUpTo_succ, List.map_append, ih, uniqF_step hf, hd]
  rcases m with _ | m
  ·rw [Lib.keeps_lt_one _ 0 (by omega), if_pos rfl]
   show [mkS (datS f)] = uniqStep [] f
   rw [mk_dat, uniqStep, if_neg (by simp)]
   rfl
  ·obtain ⟨g, hg⟩ : ∃ g, l[m]? = some g := ⟨l[m], List.getElem?_eq_getElem (by omega)⟩
   have hd2 : (l.map datS).toArray[m]! = datS g := by
    rw [getElem!_pos _ m (by simp; omega)]
    have : (l.map datS)[m]? = some (datS g) := by rw [List.getElem?_map, hg]; rfl
    obtain ⟨_, e⟩ := List.getElem?_eq_some_iff.1 this
    simpa using e
   have hl := uniq_last hg
   rw [uniqStep, hl]
   by_cases e : g = f
   ·subst e
    rw [Lib.keeps_neg (by omega) (by rw [hd, Nat.add_sub_cancel, hd2]), if_pos rfl]
    simp
   ·rw [Lib.keeps_pos (by rw [hd, Nat.add_sub_cancel, hd2]; exact fun q => e (dat_inj q).symm), if_neg (fun q => e (Option.some.inj q)), if_pos rfl]
    simp [mk_dat]
theorem compact_uniq (l : List ByteArray) : (Lib.compact (l.map datS)).map mkS = uniqF l := by
 rw [Lib.compact, List.length_map, compact_upto l _ (Nat.le_refl _), List.take_length]
theorem uniq_dat (l : List ByteArray) : (uniqF l).map datS = Lib.compact (l.map datS) := by
 have e : datS ∘ mkS = id := funext dat_mk
 rw [← compact_uniq, List.map_map, e, List.map_id]
theorem uniq_len (l : List ByteArray) : (uniqF l).length ≤ l.length := by
 have := uniqF_len l l.length (Nat.le_refl _)
 rwa [List.take_length] at this
theorem compact_strs {g n c base : Nat} {l : List ByteArray} {w : World} (ho : Owned strE 1 9 w base (some ⟨g, 0, none⟩) n c l) (hn : n ≤ 16777216) :
  Calls Tryz.prog 156 #[.slice (some ⟨g, 0, none⟩) n c] w fun e w' => ∃ m, e = .returned (.slice (some ⟨g, 0, none⟩) m c) ∧ m ≤ n ∧ Owned strE 1 9 w' base (some ⟨g, 0, none⟩) m c (uniqF l) ∧ w.grownBy w' (some g) := by
 obtain ⟨he, hl, hlen0, hv⟩ := ho
 rcases hv with ⟨h0, _⟩ | ⟨g', c', cur, hv, hbase, hb, h1, h2, h3, h4⟩
 ·cases h0
 cases hv
 obtain ⟨ss, hss⟩ : ∃ ss, ss = l.map datS := ⟨_, rfl⟩
 have hlen : ss.length = n := by rw [hss, List.length_map, hl]
 have hE : ∀ m : List ByteArray, m.flatMap strE = (m.map datS).map encStr := fun m => by
  rw [show strE = fun s => [Value.string s] from rfl, flatMap_one, List.map_map]
  exact List.map_congr_left fun s _ => by simp [encStr, datS, ba_list]
 have hH : Sort.Holds encStr w g 0 ss.toArray := holds_of_block hb (by rw [hlen, hss, ← hE]; simpa using h4)
 have hc := Tryz.slices_Compact_string g 0 c ss w hH (by omega) (by omega)
 rw [hlen] at hc
 refine hc.mono ?_
 rintro e w' ⟨rfl, q, rfl⟩
 have hK : (Lib.compact ss).length ≤ n := by
  have := uniq_len l
  have h5 := congrArg List.length (uniq_dat l)
  rw [List.length_map] at h5
  rw [hss, ← h5]; omega
 have hO : w.ownsRow base 9 1 (.slice (some ⟨g, 0, none⟩) n c) n (ss.map encStr) := by
  rw [hss, ← hE]
  exact ⟨hlen0, Or.inr ⟨g, c, cur, rfl, hbase, hb, h1, h2, h3, h4⟩⟩
 have hr := Lib.ownsRow_putRow (q := q) (k := (Lib.compact ss).length) (ys := Lib.compact ss ++ List.replicate (n - (Lib.compact ss).length) []) hO (by simp; omega) hK
 rw [List.take_left] at hr
 refine ⟨(Lib.compact ss).length, rfl, hK, ⟨he, ?_, ?_⟩, ?_⟩
 ·have h5 := congrArg List.length (uniq_dat l)
  rw [List.length_map] at h5
  rw [hss, h5]
 ·rw [hE, uniq_dat, ← hss]
  exact hr
 ·have hg := grownBy_sorted (w := w) (n := q) (g := g) (os := #[]) (Lib.compact ss ++ List.replicate (n - (Lib.compact ss).length) []).toArray
  rwa [Sort.grow_empty] at hg
end Go.Proofs.YtidolgonmimicaaGreat
namespace Go.Proofs.YtidolgonmimicaaGreat
open Go.ChangeShapes Go.WideShapes Go.ChangeAt Go.RowKit Go.Deep
theorem calT_cut {t : ByteArray} (h : calT t) (i j : Nat) : calT (t.extract i j) := by
 refine calT_of fun k hk => ?_
 have hk2 : i + k < t.size ∧ i + k < j := by rw [ByteArray.size_extract] at hk; omega
 have h1 := calT_at h (i + k) hk2.1
 have e : PlainAid.bt (t.extract i j) k = PlainAid.bt t (i + k) := by
  rw [← PlainAid.get_bt _ _ hk, ← PlainAid.get_bt _ _ hk2.1, ByteArray.getElem_extract]
 rw [callB, e]; exact h1
theorem calT_rev {t : ByteArray} (h : calT t) : ∀ k, calT (revP t k)
 | 0 => calT_nil
 | k + 1 => calT_app (calT_cut h _ _) (calT_rev h k)
theorem calT_bwd {t : ByteArray} (h : calT t) : calT (bwdT t) := calT_app (calT_rev h _) (calT_cut h _ _)
def ltT (t : ByteArray) (both : Bool) : ByteArray := if both = true then minT (leastP t t.size) (leastP (bwdT t) t.size) else leastP t t.size
def ltR (t : ByteArray) (both : Bool) : ByteArray := if goodT t = true then ltT t both else ⟨#[]⟩
theorem ltR_t {t : ByteArray} {both : Bool} (h : goodT t = true) : ltR t both = ltT t both := if_pos h
theorem ltR_f {t : ByteArray} {both : Bool} (h : goodT t = false) : ltR t both = ⟨#[]⟩ := if_neg (by rw [h]; simp)
theorem ltT_size {t : ByteArray} {both : Bool} (h : goodT t = true) : (ltT t both).size ≤ 60 := by
 have h1 := goodT_t h
 have e1 := leastP_size t t.size (Nat.le_refl _)
 have e2 := leastP_size (bwdT t) t.size (by rw [bwdT_size h1.1]; exact Nat.le_refl _)
 rw [bwdT_size h1.1] at e2
 rw [ltT]
 split
 ·rw [minT]
  split <;> omega
 ·omega
noncomputable def dtR (l : List ByteArray) (both : Bool) : List ByteArray := if l.all goodT = true then uniqF ((l.map fun t => ltT t both).mergeSort leS) else []
theorem dtR_t {l : List ByteArray} {both : Bool} (h : l.all goodT = true) {T : List ByteArray} (hs : Srt T) (hp : T.Perm (l.map fun t => ltT t both)) : dtR l both = uniqF T := by
 rw [dtR, if_pos h, srt_unique (List.pairwise_mergeSort leS_trans leS_total _) hs ((List.mergeSort_perm _ leS).trans hp.symm)]
theorem dtR_f {l : List ByteArray} {both : Bool} (h : l.all goodT = false) : dtR l both = [] := if_neg (by rw [h]; simp)
theorem all_at {α : Type} {f : α → Bool} {l : List α} {k : Nat} {x : α} (hx : l[k]? = some x) (h : f x = false) : l.all f = false := by
 rw [List.all_eq_false]; exact ⟨x, List.mem_of_getElem? hx, by rw [h]; simp⟩
theorem all_tk {α : Type} {f : α → Bool} {l : List α} {k : Nat} {x : α} (hx : l[k]? = some x) (h : (l.take k).all f = true) (h2 : f x = true) : (l.take (k + 1)).all f = true := by
 rw [List.take_add_one, hx, List.all_append, h]; simp [h2]
theorem map_take {α β : Type} {f : α → β} {l : List α} {k : Nat} {x : α} (hx : l[k]? = some x) : (l.map f).take (k + 1) = (l.map f).take k ++ [f x] := take_succ_some (by rw [List.getElem?_map, hx]; rfl)
theorem impl_leastTurn {t : ByteArray} {both : Bool} {w : World} (hg : goodT t = true) :
  Calls Tryz.prog 154 #[.string t, .bool both] w fun e w' => e = .returned (.string (ltT t both)) ∧ Below w.heap.size w w' := by
 have h := goodT_t hg
 rcases both
 ·refine (impl_leastTurn1 h.2.1).mono ?_
  rintro e w' ⟨rfl, hb⟩
  exact ⟨rfl, hb⟩
 ·refine (impl_leastTurn2 h.1 h.2.1).mono ?_
  rintro e w' ⟨rfl, hb⟩
  exact ⟨rfl, hb⟩
set_option maxHeartbeats 1000000 in
set_option maxRecDepth 100000 in
theorem spec_LeastTurn {t : ByteArray} {both : Bool} {w : World} (ht : t.size ≤ 16777216) :
  Calls Tryz.prog 157 #[.string t, .bool both] w fun e w' => e = .returned (.tuple #[.string (ltR t both), .bool (goodT t)]) ∧ Below w.heap.size w w' := by
 have HT := Lib.hid (@ltR_t t both)
 have HF := Lib.hid (@ltR_f t both)
 go_in
 go_wp2_with fail
 refine (spec_l9Good ht).mono ?_; rintro e w1 ⟨rfl, rfl⟩
 rcases hg : goodT t
 ·have E := Lib.hid (HF.out hg)
  have HG := Lib.hid hg
  clear hg
  go_wp2
  go_ret2
  rw [E.out, HG.out]
  exact ⟨rfl, Below.refl _ _⟩
 ·have E := Lib.hid (HT.out hg)
  have HG := Lib.hid hg
  have h3 := goodT_t hg
  have HC := Lib.hid h3.2.2
  have HCB := Lib.hid (calT_at (calT_bwd (calT_good hg)))
  have hz1 := h3.1
  have hz2 := h3.2.1
  have HBS := Lib.hid (bwdT_size hz1)
  have HDEF : Hid (ltT t both = if both = true then minT (leastP t t.size) (leastP (bwdT t) t.size) else leastP t t.size) := Lib.hid rfl
  clear hg h3
  go_wp2_with fail
  refine (spec_l9Least hz2 HC.out).mono ?_; rintro e w2 ⟨rfl, hb2⟩
  go_wp2_with fail
  refine (spec_l9Reverse hz1 hz2).mono ?_; rintro e w3 ⟨rfl, rfl⟩
  go_wp2_with fail
  refine (spec_l9Least (t := bwdT t) (by rw [HBS.out]; exact hz2) HCB.out).mono ?_; rw [HBS.out]; rintro e w3 ⟨rfl, hb3⟩
  have hb := below_go hb2 hb3
  obtain ⟨x, hx⟩ : ∃ x, x = leastP t t.size := ⟨_, rfl⟩
  obtain ⟨y, hy⟩ : ∃ y, y = leastP (bwdT t) t.size := ⟨_, rfl⟩
  rw [← hx, ← hy] at HDEF ⊢
  clear hx hy hb2 hb3
  rcases both
  ·have E2 := Lib.hid (show ltT t false = x by rw [HDEF.out]; rfl)
   go_wp2
   go_ret2
   rw [E.out, E2.out, HG.out]
   exact ⟨rfl, hb⟩
  ·rcases hl : less y x
   ·obtain ⟨q1, q2⟩ := less_no hl
    have E2 := Lib.hid (show ltT t true = x by rw [HDEF.out, if_pos rfl, minT, hl]; rfl)
    rcases q2 with q2 | ⟨q2, q3⟩
    ·go_wp2
     go_ret2
     rw [E.out, E2.out, HG.out]
     exact ⟨rfl, hb⟩
    ·go_wp2
     go_ret2
     rw [E.out, E2.out, HG.out]
     exact ⟨rfl, hb⟩
   ·obtain ⟨q1, q2, q3⟩ := less_yes hl
    have E2 := Lib.hid (show ltT t true = y by rw [HDEF.out, if_pos rfl, minT, hl]; rfl)
    go_wp2
    go_ret2
    rw [E.out, E2.out, HG.out]
    exact ⟨rfl, hb⟩
set_option maxHeartbeats 2000000 in
set_option maxRecDepth 100000 in
theorem impl_DistinctTurns {A : Option Addr} {N c : Nat} {l : List ByteArray} {both : Bool} {w : World} (hN : l.length = N) (h : Strs w A l) (hz : N ≤ 800) (hs : ∀ s ∈ l, s.size ≤ 16777216) :
  Calls Tryz.prog 65 #[.slice A N c, .bool both] w fun e w' => ∃ A' m c', e = .returned (.tuple #[.slice A' m c', .bool (l.all goodT)]) ∧ Owned strE 1 9 w' w.heap.size A' m c' (dtR l both) ∧ m ≤ 800 ∧ Below w.heap.size w w' := by
 have HS := Lib.hid hs
 have HDT := Lib.hid (@dtR_t l both)
 have HDF := Lib.hid (@dtR_f l both)
 have hI8 : ¬ (800 : Int) < (N : Int) := by omega
 have HH := Lib.hid h
 have HN := Lib.hid hN
 clear hs h hN
 go_in
 go_wp2
 obtain ⟨w0, hw0⟩ : ∃ u, u = w.alloc (.cells #[] 9) := ⟨_, rfl⟩
 have O0 : Owned strE 1 9 w0 w.heap.size (some ⟨w.heap.size, 0, none⟩) 0 0 ([] : List ByteArray) := by rw [hw0]; exact Owned.empty strE_len _ w (Nat.le_refl _)
 have b0 : Below w.heap.size w w0 := by rw [hw0]; (repeat' (first | (with_reducible exact Below.refl _ _) | (with_reducible assumption) | (with_reducible refine below_drewN ?_ _) | (with_reducible refine Below.drew ?_) | (with_reducible refine below_alloc ?_ _) | (with_reducible refine Below.alloc ?_ ?_ _) | (with_reducible refine Below.setCell ?_ ?_ _) | (with_reducible refine below_go ?_ (by with_reducible assumption)) | (with_reducible refine below_then (by with_reducible assumption) ?_ ?_) | go_size))
 rw [← hw0]
 clear hw0
 have HO0 := Lib.hid O0
 have HB0 := Lib.hid b0
 clear O0 b0
 go_loopw [6, 15] (fun v i wr => ∃ (k : Nat) (g c' : Nat), k ≤ N ∧ i = .int .i64 k ∧ v = .slice (some ⟨g, 0, none⟩) k c' ∧ Hid (Owned strE 1 9 wr w.heap.size (some ⟨g, 0, none⟩) k c' ((l.map fun t => ltT t both).take k)) ∧ Hid ((l.take k).all goodT = true) ∧ Hid (Below w.heap.size w wr)) (fun _ i _ => N - (intOf i).toNat)
 case atStart => exact ⟨0, _, _, Nat.zero_le _, rfl, rfl, HO0, Lib.hid rfl, HB0⟩
 case round =>
  obtain ⟨k, g, c3, hk, rfl, rfl, HO, HA, HB⟩ := hrel
  rename World => wr
  have hszr := HB.out.size
  by_cases hlt : k < N
  ·obtain ⟨b1, o1, x, rfl, _, hx, hcx⟩ := (HH.out.below HB.out (Nat.le_refl _)).at_str (k := k) (by rw [HN.out]; exact hlt)
   have HMT := Lib.hid (map_take (f := fun t => ltT t both) hx)
   have hxz := HS.out x (List.mem_of_getElem? hx)
   have hkI : (k : Int) < (N : Int) := by omega
   have HX := Lib.hid hx
   clear hx
   go_wp2_with fail
   refine (impl_GoodTouch hxz).mono ?_; rintro e w' ⟨rfl, rfl⟩
   rcases hg : goodT x
   ·have E := Lib.hid (all_at HX.out hg)
    have E2 := Lib.hid (HDF.out E.out)
    go_wp2
    go_ret2
    rw [E.out, E2.out]
    exact ⟨none, 0, 0, rfl, Owned.nil strE_len _ _ _, by omega, HB.out⟩
   ·have HA2 := Lib.hid (all_tk HX.out HA.out hg)
    go_wp2_with fail
    refine (impl_leastTurn hg).mono ?_; rintro e w3 ⟨rfl, hb3⟩
    have HB3 := Lib.hid (below_go HB.out hb3)
    have HO3 := Lib.hid (HO.out.up hb3)
    have hsz3 := HB3.out.size
    obtain ⟨y, hy⟩ : ∃ y, y = ltT x both := ⟨_, rfl⟩
    rw [← hy] at HMT ⊢
    clear hy hb3
    go_wp2_with (first | (at_builtin; go_must ((refine wpList_append_recs Tryz.elStr strE_one rfl (.tmp 22) (.tmp 26) rfl rfl (HO3.out.alloc _) rfl (own_lit1_at' strE_len _ 9 y rfl (Nat.le_refl _)).recs rfl ?_ (by decide) ?_ ?_; (focus (first | omega | (simp only [World.size_alloc]; done) | (simp only [World.size_alloc]; omega) | (simp; done) | (simp; omega))); (focus (first | omega | (simp only [World.size_alloc]; done) | (simp only [World.size_alloc]; omega) | (simp; done) | (simp; omega))); intro A6 c6 w6 ho6 hg6 hl6; have hb6 : Below w.heap.size w w6 := (HB3.out.alloc hsz3 _).trans (grown_base hg6 (by simp; omega) (fun z hz => (HO3.out.range z hz).1)); obtain ⟨g6, rfl, _⟩ := ho6.at_ (by omega)))))
    go_roundw
    case rel => exact ⟨k + 1, g6, c6, by omega, by go_num, rfl, Lib.hid (by rw [HMT.out]; exact ho6), HA2, Lib.hid hb6⟩
    case measure => simp [intOf]; omega
  ·obtain rfl : k = N := by omega
   have hkI : ¬ (k : Int) < (k : Int) := by omega
   have HML : Hid ((l.map fun t => ltT t both).take k = l.map fun t => ltT t both) := Lib.hid (List.take_of_length_le (by rw [List.length_map, HN.out]; exact Nat.le_refl _))
   have HLL : Hid (l.all goodT = true) := Lib.hid (by have := HA.out; rwa [List.take_of_length_le (by rw [HN.out]; exact Nat.le_refl _)] at this)
   have HO2 : Hid (Owned strE 1 9 wr w.heap.size (some ⟨g, 0, none⟩) k c3 (l.map fun t => ltT t both)) := Lib.hid (by rw [← HML.out]; exact HO.out)
   clear HO HA HML
   go_wp2_with fail
   refine (sort_strs HO2.out (by omega)).mono ?_; rintro e w4 ⟨rfl, T, ho4, hp4, hs4, hg4⟩
   have HDE := Lib.hid (HDT.out HLL.out hs4 hp4)
   have hB4 := HB.out.grown hg4 (by exact hszr) (fun k hk => by injection hk with hk; have := (HO2.out.at_own).1; omega)
   go_wp2_with fail
   refine (compact_strs ho4 (by omega)).mono ?_; rintro e w5 ⟨m, rfl, hm, ho5, hg5⟩
   have hB5 := hB4.grown hg5 hB4.size (fun k hk => by injection hk with hk; have := (HO2.out.at_own).1; omega)
   go_wp2
   go_ret2
   rw [HLL.out, HDE.out]
   exact ⟨_, m, _, rfl, ho5, by omega, hB5⟩
set_option maxHeartbeats 2000000 in
set_option maxRecDepth 100000 in
theorem spec_DistinctTurns {A : Option Addr} {N c : Nat} {l : List ByteArray} {both : Bool} {w : World} (hN : l.length = N) (h : Strs w A l) (hz : N ≤ 800) (hs : ∀ s ∈ l, s.size ≤ 16777216) :
  Calls Tryz.prog 66 #[.slice A N c, .bool both] w fun e w' => ∃ A' m c', e = .returned (.tuple #[.slice A' m c', .bool (l.all goodT)]) ∧ Owned strE 1 9 w' w.heap.size A' m c' (dtR l both) ∧ m ≤ 800 ∧ Below w.heap.size w w' := by
 have HS := Lib.hid hs
 have HDT := Lib.hid (@dtR_t l both)
 have HDF := Lib.hid (@dtR_f l both)
 have HLT : Hid (∀ (t : ByteArray) (b : Bool), goodT t = true → ltR t b = ltT t b) := Lib.hid (fun t b h => ltR_t h)
 have hI8 : ¬ (800 : Int) < (N : Int) := by omega
 have HH := Lib.hid h
 have HN := Lib.hid hN
 clear hs h hN
 go_in
 go_wp2
 go_loopw [6, 19] (fun v i wr => ∃ (k : Nat) (A' : Option Addr) (c' : Nat), k ≤ N ∧ i = .int .i64 k ∧ v = .slice A' k c' ∧ Hid (Owned strE 1 9 wr w.heap.size A' k c' ((l.map fun t => ltT t both).take k)) ∧ Hid ((l.take k).all goodT = true) ∧ Hid (Below w.heap.size w wr)) (fun _ i _ => N - (intOf i).toNat)
 case atStart => exact ⟨0, none, 0, Nat.zero_le _, rfl, rfl, Lib.hid (Owned.nil strE_len _ _ _), Lib.hid rfl, Lib.hid (Below.refl _ _)⟩
 case round =>
  obtain ⟨k, A3, c3, hk, rfl, rfl, HO, HA, HB⟩ := hrel
  rename World => wr
  have hszr := HB.out.size
  by_cases hlt : k < N
  ·obtain ⟨b1, o1, x, rfl, _, hx, hcx⟩ := (HH.out.below HB.out (Nat.le_refl _)).at_str (k := k) (by rw [HN.out]; exact hlt)
   have HMT := Lib.hid (map_take (f := fun t => ltT t both) hx)
   have hxz := HS.out x (List.mem_of_getElem? hx)
   have hkI : (k : Int) < (N : Int) := by omega
   have HX := Lib.hid hx
   clear hx
   go_wp2_with fail
   refine (spec_LeastTurn hxz).mono ?_; rintro e w3 ⟨rfl, hb3⟩
   have HB3 := Lib.hid (below_go HB.out hb3)
   have HO3 := Lib.hid (HO.out.up hb3)
   have hsz3 := HB3.out.size
   clear hb3
   rcases hg : goodT x
   ·have E := Lib.hid (all_at HX.out hg)
    have E2 := Lib.hid (HDF.out E.out)
    go_wp2
    go_ret2
    rw [E.out, E2.out]
    exact ⟨none, 0, 0, rfl, Owned.nil strE_len _ _ _, by omega, HB3.out⟩
   ·have HA2 := Lib.hid (all_tk HX.out HA.out hg)
    have HLE := Lib.hid (HLT.out x both hg)
    rw [HLE.out]
    obtain ⟨y, hy⟩ : ∃ y, y = ltT x both := ⟨_, rfl⟩
    rw [← hy] at HMT ⊢
    clear hy HLE
    go_wp2_with (first | (at_builtin; go_must ((refine wpList_append_recs Tryz.elStr strE_one rfl (.tmp 31) (.tmp 33) rfl rfl (HO3.out.alloc _) rfl (own_lit1_at' strE_len _ 9 y rfl (Nat.le_refl _)).recs rfl ?_ (by decide) ?_ ?_; (focus (first | omega | (simp only [World.size_alloc]; done) | (simp only [World.size_alloc]; omega) | (simp; done) | (simp; omega))); (focus (first | omega | (simp only [World.size_alloc]; done) | (simp only [World.size_alloc]; omega) | (simp; done) | (simp; omega))); intro A6 c6 w6 ho6 hg6 hl6; have hb6 : Below w.heap.size w w6 := (HB3.out.alloc hsz3 _).trans (grown_base hg6 (by simp; omega) (fun z hz => (HO3.out.range z hz).1))))))
    go_roundw
    case rel => exact ⟨k + 1, A6, c6, by omega, by go_num, rfl, Lib.hid (by rw [HMT.out]; exact ho6), HA2, Lib.hid hb6⟩
    case measure => simp [intOf]; omega
  ·obtain rfl : k = N := by omega
   have hkI : ¬ (k : Int) < (k : Int) := by omega
   have HML : Hid ((l.map fun t => ltT t both).take k = l.map fun t => ltT t both) := Lib.hid (List.take_of_length_le (by rw [List.length_map, HN.out]; exact Nat.le_refl _))
   have HLL : Hid (l.all goodT = true) := Lib.hid (by have := HA.out; rwa [List.take_of_length_le (by rw [HN.out]; exact Nat.le_refl _)] at this)
   have HO2 : Hid (Owned strE 1 9 wr w.heap.size A3 k c3 (l.map fun t => ltT t both)) := Lib.hid (by rw [← HML.out]; exact HO.out)
   have HZ : Hid (∀ s ∈ l.map (fun t => ltT t both), s.size ≤ 60) := Lib.hid (fun s hs => by
    obtain ⟨t, ht, rfl⟩ := List.mem_map.1 hs
    exact ltT_size (List.all_eq_true.1 HLL.out t ht))
   clear HO HA HML
   go_wp2_with fail
   refine (spec_l6Sort k A3 c3 (l.map fun t => ltT t both) wr HO2.out.len HO2.out.recs (by omega) (fun s hs => by have := HZ.out s hs; omega)).mono ?_; rintro e w7 ⟨A7, c7, T, rfl, ho7, hp7, hs7, hb7⟩
   have HTS := Lib.hid (HDT.out HLL.out hs7 hp7)
   have B7 := below_go HB.out hb7
   have R7 := Lib.hid ho7.recs
   have HTL := Lib.hid ho7.len
   have HTZ : Hid (∀ s ∈ T, s.size ≤ 60) := Lib.hid (fun s hs => HZ.out s (hp7.mem_iff.1 hs))
   have HUL := Lib.hid (uniqF_len T)
   clear ho7 hp7 hs7 hb7 HO2 HZ
   go_wp2
   go_loopw [11, 39] (fun v i wr => ∃ (j q : Nat) (A' : Option Addr) (c' : Nat), j ≤ k ∧ i = .int .i64 j ∧ v = .slice A' q c' ∧ q ≤ j ∧ Hid (Owned strE 1 9 wr w7.heap.size A' q c' (uniqF (T.take j))) ∧ Below w7.heap.size w7 wr) (fun _ i _ => k - (intOf i).toNat)
   case atStart => exact ⟨0, 0, none, 0, Nat.zero_le _, rfl, rfl, Nat.le_refl _, Lib.hid (Owned.nil strE_len _ _ _), Below.refl _ _⟩
   case round =>
    obtain ⟨j, q, A8, c8, hj, rfl, rfl, hqj, HO, hb8⟩ := hrel
    rename World => wr
    have hszr := hb8.size
    have HOL := Lib.hid HO.out.len
    by_cases hjt : j < k
    ·have hJ : (j : Int) < (k : Int) := by omega
     obtain ⟨b2, o2, y, rfl, _, hy, hcy⟩ := (R7.out.below hb8 (Nat.le_refl _)).at_str (k := j) (by rw [HTL.out]; exact hjt)
     have HUS := Lib.hid (uniqF_step hy)
     have hyz : y.size ≤ 60 := HTZ.out y (List.mem_of_getElem? hy)
     clear hy
     by_cases hq0 : q = 0
     ·subst hq0
      have e1 := Lib.hid (show uniqF (T.take (j + 1)) = uniqF (T.take j) ++ [y] by
       have h1 := List.eq_nil_of_length_eq_zero HOL.out
       rw [HUS.out, uniqStep, h1]; simp)
      go_wp2_with (first | (at_builtin; go_must ((refine wpList_append_recs Tryz.elStr strE_one rfl (.tmp 56) (.tmp 58) rfl rfl (HO.out.alloc _) rfl (own_lit1_at' strE_len _ 9 y rfl (Nat.le_refl _)).recs rfl ?_ (by decide) ?_ ?_; (focus (first | omega | (simp only [World.size_alloc]; done) | (simp only [World.size_alloc]; omega) | (simp; done) | (simp; omega))); (focus (first | omega | (simp only [World.size_alloc]; done) | (simp only [World.size_alloc]; omega) | (simp; done) | (simp; omega))); intro A6 c6 w6 ho6 hg6 hl6; have hb6 : Below w7.heap.size w7 w6 := (hb8.alloc hszr _).trans (grown_base hg6 (by simp; omega) (fun z hz => (HO.out.range z hz).1))))))
      go_roundw
      case rel => exact ⟨j + 1, 0 + 1, A6, c6, by omega, by go_num, rfl, by omega, Lib.hid (by rw [e1.out]; exact ho6), hb6⟩
      case measure => simp [intOf]; omega
     ·obtain ⟨g, rfl, g0, g1, gc, _⟩ := HO.out.at_ (by omega)
      obtain ⟨v, hv⟩ := some_of_lt (l := uniqF (T.take j)) (k := q - 1) (by rw [HOL.out]; omega)
      have cv := gc (q - 1) v 0 _ hv rfl
      simp only [Nat.mul_one, Nat.add_zero] at cv
      have hlast : (uniqF (T.take j)).getLast? = some v := by
       rw [List.getLast?_eq_getElem?, HOL.out]; exact hv
      have HLAST := Lib.hid hlast
      have hJq : ((q : Int) == 0) = false := by simp; omega
      have hJ2 : IntKind.i64.wrap ((q : Int) - 1) = ((q - 1 : Nat) : Int) := by rw [wrap_id (by omega)]; omega
      have hJ3 : (q : Int) - 1 = ((q - 1 : Nat) : Int) := by omega
      have hJ4 : ((q - 1 : Nat) : Int) < (q : Int) := by omega
      clear gc hv hlast
      by_cases hvy : v = y
      ·have e1 := Lib.hid (show uniqF (T.take (j + 1)) = uniqF (T.take j) by rw [HUS.out, uniqStep, if_pos (by rw [HLAST.out, hvy])])
       have hbe : (v.toList == y.toList) = true := by rw [hvy]; simp
       clear hvy
       go_wp2
       go_roundw
       case rel => exact ⟨j + 1, q, some ⟨g, 0, none⟩, c8, by omega, by go_num, rfl, by omega, Lib.hid (by rw [e1.out]; exact HO.out), hb8⟩
       case measure => simp [intOf]; omega
      ·have e1 := Lib.hid (show uniqF (T.take (j + 1)) = uniqF (T.take j) ++ [y] by rw [HUS.out, uniqStep, if_neg (by rw [HLAST.out]; intro e; injection e with e; exact hvy e)])
       have hbe := bytes_ne hvy
       clear hvy
       go_wp2_with (first | (at_builtin; go_must ((refine wpList_append_recs Tryz.elStr strE_one rfl (.tmp 56) (.tmp 58) rfl rfl (HO.out.alloc _) rfl (own_lit1_at' strE_len _ 9 y rfl (Nat.le_refl _)).recs rfl ?_ (by decide) ?_ ?_; (focus (first | omega | (simp only [World.size_alloc]; done) | (simp only [World.size_alloc]; omega) | (simp; done) | (simp; omega))); (focus (first | omega | (simp only [World.size_alloc]; done) | (simp only [World.size_alloc]; omega) | (simp; done) | (simp; omega))); intro A6 c6 w6 ho6 hg6 hl6; have hb6 : Below w7.heap.size w7 w6 := (hb8.alloc hszr _).trans (grown_base hg6 (by simp; omega) (fun z hz => (HO.out.range z hz).1))))))
       go_roundw
       case rel => exact ⟨j + 1, q + 1, A6, c6, by omega, by go_num, rfl, by omega, Lib.hid (by rw [e1.out]; exact ho6), hb6⟩
       case measure => simp [intOf]; omega
    ·obtain rfl : j = k := by omega
     have hJ : ¬ (j : Int) < (j : Int) := by omega
     have e1 := Lib.hid (show uniqF (T.take j) = dtR l both by rw [HTS.out, List.take_of_length_le (by rw [HTL.out]; exact Nat.le_refl _)])
     go_wp2
     go_ret2
     rw [HLL.out]
     exact ⟨_, _, _, rfl, by rw [← e1.out]; exact HO.out.base_le B7.size, by omega, below_go B7 hb8⟩
end Go.Proofs.YtidolgonmimicaaGreat
namespace Go.Proofs.YtidolgonmimicaaGreat
open Go.ChangeShapes Go.WideShapes Go.ChangeAt Go.RowKit Go.Deep
def drM (nm : ByteArray) (st : Nat) (L : List ByteArray) : Prop := nm.size ≤ 16 ∧ 2 ≤ st ∧ st ≤ 9 ∧ L.length ≤ 41 ∧ ∀ s ∈ L, s.size ≤ 8
theorem goodM_changes {nm : ByteArray} {st : Int} {l : List ByteArray} (h : goodM nm st l = true) : ∀ s ∈ l, s.size ≤ 8 := fun s hs => by
 have h1 := (goodM_t h).2.2.2
 rw [allCh, List.all_eq_true] at h1
 obtain ⟨k, hk⟩ := List.getElem?_of_mem hs
 have h2 := h1 k (List.mem_range.2 (List.getElem?_eq_some_iff.1 hk).1)
 rw [okCh_at hk] at h2
 have := goodChange_small h2
 omega
theorem goodM_name {nm : ByteArray} {st : Int} {l : List ByteArray} (h : goodM nm st l = true) : nm.size ≤ 10 := by
 have h1 := (goodM_t h).1
 rw [nameOk, Bool.and_eq_true] at h1
 have := inB_t h1.2
 omega
theorem own_fld {u u' : World} {b base m d : Nat} {B : Option Addr} {l : List ByteArray} {cs : List Value} (ho : Owned strE 1 9 u base B m d l) (hk : Blk u b 25 cs) (hg : u.grownBy u' (some b)) : Owned strE 1 9 u' base B m d l :=
 ho.kept hg (fun k hk' e => by have hne := ho.ne_blk hk (by decide) k hk'; injection e with e; omega)
section
variable {w u u' : World} {p n c a a' b : Nat} {A : Option Addr} {nm : ByteArray} {st : Int} {v v' : Value}
theorem MSt.put0 {x : ByteArray} (h : MSt w u p A n c a b nm st v) : MSt w (u.setCell ⟨b, 0, none⟩ (.string x)) p A n c a b x st v := by
 obtain ⟨h1, h2, ⟨q, y, z, h3⟩, h4, h5, h6⟩ := h
 have hg : u.grownBy (u.setCell ⟨b, 0, none⟩ (.string x)) (some b) := only_set u (p := ⟨b, 0, none⟩) (.string x)
 exact ⟨h1.set_ 0 (.string x), h2.grown hg (fun e => by injection e with e; omega), ⟨q, y, z, h3.grown hg (fun e => by injection e with e; omega)⟩, grow_own h4 hg (fun k e => by injection e with e; omega), h5, h6⟩
theorem MSt.put1 {x : Int} (h : MSt w u p A n c a b nm st v) : MSt w (u.setCell ⟨b, 1, none⟩ (.int .i64 x)) p A n c a b nm x v := by
 obtain ⟨h1, h2, ⟨q, y, z, h3⟩, h4, h5, h6⟩ := h
 have hg : u.grownBy (u.setCell ⟨b, 1, none⟩ (.int .i64 x)) (some b) := only_set u (p := ⟨b, 1, none⟩) (.int .i64 x)
 exact ⟨h1.set_ 1 (.int .i64 x), h2.grown hg (fun e => by injection e with e; omega), ⟨q, y, z, h3.grown hg (fun e => by injection e with e; omega)⟩, grow_own h4 hg (fun k e => by injection e with e; omega), h5, h6⟩
theorem MSt.grown2 {row : Option Nat} (h : MSt w u p A n c a b nm st v) (hg : u.grownBy u' row) (hr : ∀ k, row = some k → w.heap.size < k ∧ k ≠ b) : MSt w u' p A n c a b nm st v := by
 obtain ⟨h1, h2, ⟨x, y, z, h3⟩, h4, h5, h6⟩ := h
 exact ⟨h1.grown hg (fun e => (hr b e.symm).2 rfl), h2.grown hg (fun e => by have := (hr p e.symm).1; omega), ⟨x, y, z, h3.grown hg (fun e => by have := (hr _ e.symm).1; omega)⟩, grow_own h4 hg (fun k e => by have := (hr k e).1; omega), h5, h6⟩
theorem MSt.app {m d base : Nat} {B : Option Addr} {l : List ByteArray} (h : MSt w u p A n c a b nm st v) (ho : Owned strE 1 9 u base B m d l) (hb : w.heap.size < base) (hg : u.grownBy u' (Value.slice B m d).ownBlock) : MSt w u' p A n c a b nm st v :=
 h.grown2 hg (fun k hk => ⟨by have := (ho.blk hk).1; omega, ho.ne_blk h.1 (by decide) k hk⟩)
end
def clen : Option Value → Nat
 | some (.slice _ n _) => n
 | _ => 0
set_option maxHeartbeats 4000000 in
set_option maxRecDepth 100000 in
theorem cur_anyMethod {A : Option Addr} {n c a p : Nat} {w0 w : World} (hS : Src w0 A n) (hb : Below w0.heap.size w0 w) (hp : w0.heap.size ≤ p) (hc : Cur w p A n c a) (ha : a ≤ 900000) :
  Calls Tryz.prog 92 #[.pointer (some ⟨p, 0, none⟩)] w fun e w' => ∃ (nm : ByteArray) (st : Nat) (A' : Option Addr) (m c' : Nat) (L : List ByteArray), e = .returned (.agg #[.string nm, .int .i64 st, .slice A' m c']) ∧ drM nm st L ∧ Owned strE 1 9 w' w.heap.size A' m c' L ∧ Cur w' p A n c (a + 200) ∧ w.grownBy w' (some p) := by
 have hpw := hc.lt
 have R0 := Blk.at_ w 25 [.string ⟨#[]⟩, .int .i64 0, .slice none 0 0] (b := w.heap.size) rfl
 have b0 : Below w.heap.size w (w.alloc (.cells #[.string ⟨#[]⟩, .int .i64 0, .slice none 0 0] 25)) := by (repeat' (first | (with_reducible exact Below.refl _ _) | (with_reducible assumption) | (with_reducible refine below_drewN ?_ _) | (with_reducible refine Below.drew ?_) | (with_reducible refine below_alloc ?_ _) | (with_reducible refine Below.alloc ?_ ?_ _) | (with_reducible refine Below.setCell ?_ ?_ _) | (with_reducible refine below_go ?_ (by with_reducible assumption)) | (with_reducible refine below_then (by with_reducible assumption) ?_ ?_) | go_size))
 have G : Hid (∀ u : World, w.grownBy u (some p) → Below w0.heap.size w0 u) := Lib.hid (fun u hg => grown_below hb hp hg)
 have HS := Lib.hid hS
 clear hS hb
 go_in
 go_wp2_with fail
 obtain ⟨w1, hw1⟩ : ∃ u, u = w.alloc (.cells #[.string ⟨#[]⟩, .int .i64 0, .slice none 0 0] 25) := ⟨_, rfl⟩
 have z1 : w1.heap.size = w.heap.size + 1 := by rw [hw1]; simp
 rw [← hw1] at b0 ⊢
 have R1 : Blk w1 w.heap.size 25 [.string ⟨#[]⟩, .int .i64 0, .slice none 0 0] := by rw [hw1]; exact R0
 clear hw1 R0
 refine (cur_method HS.out (G.out _ (grown_any b0 _)) hp (hc.up b0) (by omega)).mono ?_; rintro e w2 ⟨nm, st, A2, m, c2, L, rfl, hgm, h3, h6, hm, ho2, hc2, hg2⟩
 have g2 : w.grownBy w2 (some p) := grownBy_trans (grown_any b0 _) hg2
 have R2 := R1.grown hg2 (fun e => by injection e with e; omega)
 have s2 := hg2.size
 have zl := goodM_changes hgm
 have zn := goodM_name hgm
 have zL : L.length ≤ 12 := by rw [ho2.len]; exact hm
 have K3 := Blk.at_ w2 25 [.string nm, .int .i64 (st : Int), .slice A2 m c2] (b := w2.heap.size) rfl
 have a3 : Below w2.heap.size w2 (w2.alloc (.cells #[.string nm, .int .i64 (st : Int), .slice A2 m c2] 25)) := by (repeat' (first | (with_reducible exact Below.refl _ _) | (with_reducible assumption) | (with_reducible refine below_drewN ?_ _) | (with_reducible refine Below.drew ?_) | (with_reducible refine below_alloc ?_ _) | (with_reducible refine Below.alloc ?_ ?_ _) | (with_reducible refine Below.setCell ?_ ?_ _) | (with_reducible refine below_go ?_ (by with_reducible assumption)) | (with_reducible refine below_then (by with_reducible assumption) ?_ ?_) | go_size))
 have M3 : MSt w (w2.alloc (.cells #[.string nm, .int .i64 (st : Int), .slice A2 m c2] 25)) p A n c (a + 100) w2.heap.size nm st (.slice A2 m c2) := ⟨K3, hc2.up a3, ⟨_, _, _, R2.up a3⟩, grownBy_trans g2 (grown_any a3 _), hpw, by omega⟩
 have HO3 := Lib.hid (ho2.up a3)
 have HZL := Lib.hid zl
 have hzL := Lib.hid zL
 have fin : Hid (∀ (u v : World) (nm' : ByteArray) (st' : Nat) (A' : Option Addr) (m c' : Nat) (L : List ByteArray), w.grownBy u (some p) → Cur u p A n c (a + 190) → Owned strE 1 9 u (w.heap.size + 1) A' m c' L → nm'.size ≤ 16 → 2 ≤ st' → st' ≤ 9 → m ≤ 41 → (∀ x ∈ L, x.size ≤ 8) → u.grownBy v (some w.heap.size) → ∃ (nm'' : ByteArray) (st'' : Nat) (A'' : Option Addr) (m' c'' : Nat) (L' : List ByteArray), Ending.returned (Value.agg #[.string nm', .int .i64 (st' : Int), .slice A' m c']) = .returned (.agg #[.string nm'', .int .i64 (st'' : Int), .slice A'' m' c'']) ∧ drM nm'' st'' L' ∧ Owned strE 1 9 v w.heap.size A'' m' c'' L' ∧ Cur v p A n c (a + 200) ∧ w.grownBy v (some p)) := Lib.hid (fun u v nm' st' A' m c' L h1 h2 h3 h4 h5 h6 h7 h8 h9 =>
  ⟨nm', st', A', m, c', L, rfl, ⟨h4, h5, h6, by rw [h3.len]; exact h7, h8⟩, (h3.past h9 (by omega)).base_le (by omega), (h2.grown h9 (fun e => by injection e with e; omega)).mono (by omega), grow_own h1 h9 (fun k e => by injection e with e; omega)⟩)
 clear K3 a3 R2 g2 hc2 ho2 hg2 hgm R1 hc zl zL
 go_upto_region 2 with fail
 obtain ⟨w3, hw3⟩ : ∃ u, u = w2.alloc (.cells #[.string nm, .int .i64 (st : Int), .slice A2 m c2] 25) := ⟨_, rfl⟩
 rw [← hw3] at M3 HO3 ⊢
 clear hw3
 rw [z1] at HO3
 obtain ⟨b, hb⟩ : ∃ b, b = w2.heap.size := ⟨_, rfl⟩
 rw [← hb] at M3 ⊢
 clear hb
 go_wp2_with fail
 refine (cur_pick HS.out (G.out _ M3.2.2.2.1) hp M3.2.1 (by omega) (by decide) (by decide)).mono ?_; rintro e w4 ⟨x, rfl, ⟨x0, x1⟩, hc4, hg4⟩
 have HM4 := Lib.hid (M3.draw hg4 hc4)
 have HO4 := Lib.hid (HO3.out.past hg4 (by omega))
 clear hc4 hg4 M3 HO3
 have hx : x = 0 ∨ x = 1 ∨ x = 2 ∨ x = 3 ∨ x = 4 ∨ 5 ≤ x := by omega
 clear x1
 rcases hx with rfl | rfl | rfl | rfl | rfl | hx
 ·go_wp2_with fail
  have hl := lit_strs2 w4 9 [⟨#[]⟩, ⟨#[65]⟩, ⟨#[101, 108, 101, 118, 101, 110, 108, 101, 116, 114, 115]⟩]
  have a5 : ∀ o : Obj, Below w4.heap.size w4 (w4.alloc o) := fun o => (Below.refl _ _).alloc (Nat.le_refl _) o
  have HM5 := Lib.hid (HM4.out.alloc (.cells #[.string ⟨#[]⟩, .string ⟨#[65]⟩, .string ⟨#[101, 108, 101, 118, 101, 110, 108, 101, 116, 114, 115]⟩] 9))
  have HO5 := Lib.hid (HO4.out.up (a5 (.cells #[.string ⟨#[]⟩, .string ⟨#[65]⟩, .string ⟨#[101, 108, 101, 118, 101, 110, 108, 101, 116, 114, 115]⟩] 9)))
  have hp4 := HM4.out.2.1.lt
  refine (cur_of HS.out (G.out _ HM5.out.2.2.2.1) hp HM5.out.2.1 (by omega) rfl hl (by decide) (by decide) (fun b o e => by injection e with e; injection e with e; omega)).mono ?_; rintro e w6 ⟨y, hy, rfl, hc6, hg6⟩
  have HM6 := Lib.hid (HM5.out.draw hg6 hc6)
  have HO6 := Lib.hid (HO5.out.past hg6 (by omega))
  have hyz : y.size ≤ 16 := by
   simp only [List.mem_cons, List.not_mem_nil, or_false] at hy
   rcases hy with rfl | rfl | rfl <;> decide
  have g0 := HM6.out.1.cell 0; have e0 := HM6.out.1.frozen 0
  simp only [List.getElem?_cons_zero, List.getElem?_cons_succ] at g0
  have HM := Lib.hid (HM6.out.put0 (x := y))
  have HO := Lib.hid (own_fld HO6.out HM6.out.1 (only_set w6 (p := ⟨b, 0, none⟩) (.string y)))
  have HZ := HZL
  have hOl := HO.out.len
  have hLz := hzL.out
  clear hl a5 hc6 hg6 hy HM6 HO6 HM5 HO5 HM4 HO4
  obtain ⟨K1, K2, ⟨rx, ry, rz, K3⟩, K4, K5, K6⟩ := HM.out
  have kc0 := K1.cell 0; have kc1 := K1.cell 1; have kc2 := K1.cell 2
  have kd0 := K3.cell 0; have kd1 := K3.cell 1; have kd2 := K3.cell 2
  have kf0 := K3.frozen 0; have kf1 := K3.frozen 1; have kf2 := K3.frozen 2
  simp only [List.getElem?_cons_zero, List.getElem?_cons_succ] at kc0 kc1 kc2 kd0 kd1 kd2
  have Z := ((K3.set_ 0 (.string y)).set_ 1 (.int .i64 (st : Int))).set_ 2 (.slice A2 (m) c2)
  have y0 := Z.cell 0; have y1 := Z.cell 1; have y2 := Z.cell 2
  simp only [List.set_cons_zero, List.set_cons_succ, List.getElem?_cons_zero, List.getElem?_cons_succ] at y0 y1 y2
  have HK := Lib.hid K2; have HGR := Lib.hid K4
  clear K1 K2 K3 K4 Z
  go_wp2_with fail
  refine bodyPost_ret (v := .agg #[.string y, .int .i64 (st : Int), .slice A2 (m) c2]) (by simp [results, Tryz.results92, go_sem, y0, y1, y2]) rfl ?_
  have X := fin.out _ _ y st _ _ _ _ HGR.out (HK.out.mono (by omega)) HO.out (by omega) (by omega) (by omega) (by omega) HZ.out (grownBy_trans (grownBy_trans (only_set _ (p := ⟨w.heap.size, 0, none⟩) (.string y)) (only_set _ (p := ⟨w.heap.size, 1, none⟩) (.int .i64 (st : Int)))) (only_set _ (p := ⟨w.heap.size, 2, none⟩) (.slice A2 (m) c2)))
  first | exact X | (obtain ⟨z1, z2, z3, z4, z5, z6, z7, z8⟩ := X; exact ⟨z1, z2, z3, z4, z5, z7, z6, z8⟩)
 ·have hOl := HO4.out.len
  have hLz := hzL.out
  have g2 := HM4.out.1.cell 2
  simp only [List.getElem?_cons_zero, List.getElem?_cons_succ] at g2
  have HM5 := Lib.hid (HM4.out.alloc (.cells ⟨[Value.string ⟨#[120]⟩]⟩ 9))
  have HO5 := Lib.hid (HO4.out.alloc (.cells ⟨[Value.string ⟨#[120]⟩]⟩ 9))
  have g2' := HM5.out.1.cell 2
  simp only [List.getElem?_cons_zero, List.getElem?_cons_succ] at g2'
  have hs4 := HM4.out.2.2.2.1.size
  have hbs := HM4.out.1.lt
  go_upto_region 15 with (first | (at_builtin; go_must ((refine wpList_append_recs Tryz.elStr strE_one rfl (.tmp 18) (.tmp 19) rfl rfl HO5.out rfl (own_lit1_at' strE_len _ 9 ⟨#[120]⟩ rfl (Nat.le_refl _)).recs rfl ?_ (by decide) ?_ ?_; (focus (first | omega | (simp only [World.size_alloc]; done) | (simp only [World.size_alloc]; omega) | (simp; done) | (simp; omega))); (simp; omega); intro A3 c3 w9 ho9 hg9 hl9; have HM9 := Lib.hid (HM5.out.app HO5.out (by omega) hg9); have g3 := HM9.out.1.cell 2; have e3 := HM9.out.1.frozen 2; simp only [List.getElem?_cons_zero, List.getElem?_cons_succ] at g3; have HM := Lib.hid (HM9.out.put (v' := .slice A3 (m + 1) c3)); have HO := Lib.hid (own_fld ho9 HM9.out.1 (only_set w9 (p := ⟨b, 2, none⟩) (.slice A3 (m + 1) c3))); have HZ := Lib.hid (show ∀ y ∈ L ++ [(⟨#[120]⟩ : ByteArray)], y.size ≤ 8 from fun y hy => (List.mem_append.1 hy).elim (fun q => HZL.out y q) (fun q => by rw [List.mem_singleton.1 q]; decide)); clear hg9 hl9 ho9 HM5 HO5 g2 g2' HM4 HO4))))
  obtain ⟨K1, K2, ⟨rx, ry, rz, K3⟩, K4, K5, K6⟩ := HM.out
  have kc0 := K1.cell 0; have kc1 := K1.cell 1; have kc2 := K1.cell 2
  have kd0 := K3.cell 0; have kd1 := K3.cell 1; have kd2 := K3.cell 2
  have kf0 := K3.frozen 0; have kf1 := K3.frozen 1; have kf2 := K3.frozen 2
  simp only [List.getElem?_cons_zero, List.getElem?_cons_succ] at kc0 kc1 kc2 kd0 kd1 kd2
  have Z := ((K3.set_ 0 (.string nm)).set_ 1 (.int .i64 (st : Int))).set_ 2 (.slice A3 (m + 1) c3)
  have y0 := Z.cell 0; have y1 := Z.cell 1; have y2 := Z.cell 2
  simp only [List.set_cons_zero, List.set_cons_succ, List.getElem?_cons_zero, List.getElem?_cons_succ] at y0 y1 y2
  have HK := Lib.hid K2; have HGR := Lib.hid K4
  clear K1 K2 K3 K4 Z
  go_wp2_with fail
  refine bodyPost_ret (v := .agg #[.string nm, .int .i64 (st : Int), .slice A3 (m + 1) c3]) (by simp [results, Tryz.results92, go_sem, y0, y1, y2]) rfl ?_
  have X := fin.out _ _ nm st _ _ _ _ HGR.out (HK.out.mono (by omega)) HO.out (by omega) (by omega) (by omega) (by omega) HZ.out (grownBy_trans (grownBy_trans (only_set _ (p := ⟨w.heap.size, 0, none⟩) (.string nm)) (only_set _ (p := ⟨w.heap.size, 1, none⟩) (.int .i64 (st : Int)))) (only_set _ (p := ⟨w.heap.size, 2, none⟩) (.slice A3 (m + 1) c3)))
  first | exact X | (obtain ⟨z1, z2, z3, z4, z5, z6, z7, z8⟩ := X; exact ⟨z1, z2, z3, z4, z5, z7, z6, z8⟩)
 ·go_wp2_with fail
  have hl := lit_ints w4 3 [2, 9, 5]
  have a5 : ∀ o : Obj, Below w4.heap.size w4 (w4.alloc o) := fun o => (Below.refl _ _).alloc (Nat.le_refl _) o
  have HM5 := Lib.hid (HM4.out.alloc (.cells #[.int .i64 2, .int .i64 9, .int .i64 5] 3))
  have HO5 := Lib.hid (HO4.out.up (a5 (.cells #[.int .i64 2, .int .i64 9, .int .i64 5] 3)))
  have hp4 := HM4.out.2.1.lt
  refine (cur_among HS.out (G.out _ HM5.out.2.2.2.1) hp HM5.out.2.1 (by omega) rfl hl (by decide) (by decide) (fun b o e => by injection e with e; injection e with e; omega)).mono ?_; rintro e w6 ⟨y, hy, rfl, hc6, hg6⟩
  have HM6 := Lib.hid (HM5.out.draw hg6 hc6)
  have HO6 := Lib.hid (HO5.out.past hg6 (by omega))
  simp only [List.mem_cons, List.not_mem_nil, or_false] at hy
  obtain ⟨y, rfl⟩ : ∃ z : Nat, y = (z : Int) := ⟨y.toNat, by omega⟩
  have hyz : 2 ≤ y ∧ y ≤ 9 := by omega
  have g0 := HM6.out.1.cell 1; have e0 := HM6.out.1.frozen 1
  simp only [List.getElem?_cons_zero, List.getElem?_cons_succ] at g0
  have HM := Lib.hid (HM6.out.put1 (x := (y : Int)))
  have HO := Lib.hid (own_fld HO6.out HM6.out.1 (only_set w6 (p := ⟨b, 1, none⟩) (.int .i64 (y : Int))))
  have HZ := HZL
  have hOl := HO.out.len
  have hLz := hzL.out
  clear hl a5 hc6 hg6 hy HM6 HO6 HM5 HO5 HM4 HO4
  obtain ⟨K1, K2, ⟨rx, ry, rz, K3⟩, K4, K5, K6⟩ := HM.out
  have kc0 := K1.cell 0; have kc1 := K1.cell 1; have kc2 := K1.cell 2
  have kd0 := K3.cell 0; have kd1 := K3.cell 1; have kd2 := K3.cell 2
  have kf0 := K3.frozen 0; have kf1 := K3.frozen 1; have kf2 := K3.frozen 2
  simp only [List.getElem?_cons_zero, List.getElem?_cons_succ] at kc0 kc1 kc2 kd0 kd1 kd2
  have Z := ((K3.set_ 0 (.string nm)).set_ 1 (.int .i64 (y : Int))).set_ 2 (.slice A2 (m) c2)
  have y0 := Z.cell 0; have y1 := Z.cell 1; have y2 := Z.cell 2
  simp only [List.set_cons_zero, List.set_cons_succ, List.getElem?_cons_zero, List.getElem?_cons_succ] at y0 y1 y2
  have HK := Lib.hid K2; have HGR := Lib.hid K4
  clear K1 K2 K3 K4 Z
  go_wp2_with fail
  refine bodyPost_ret (v := .agg #[.string nm, .int .i64 (y : Int), .slice A2 (m) c2]) (by simp [results, Tryz.results92, go_sem, y0, y1, y2]) rfl ?_
  have X := fin.out _ _ nm y _ _ _ _ HGR.out (HK.out.mono (by omega)) HO.out (by omega) (by omega) (by omega) (by omega) HZ.out (grownBy_trans (grownBy_trans (only_set _ (p := ⟨w.heap.size, 0, none⟩) (.string nm)) (only_set _ (p := ⟨w.heap.size, 1, none⟩) (.int .i64 (y : Int)))) (only_set _ (p := ⟨w.heap.size, 2, none⟩) (.slice A2 (m) c2)))
  first | exact X | (obtain ⟨z1, z2, z3, z4, z5, z6, z7, z8⟩ := X; exact ⟨z1, z2, z3, z4, z5, z7, z6, z8⟩)
 ·have g0 := HM4.out.1.cell 2; have e0 := HM4.out.1.frozen 2
  simp only [List.getElem?_cons_zero, List.getElem?_cons_succ] at g0
  have HM := Lib.hid (HM4.out.put (v' := .slice none 0 0))
  have HO := Lib.hid (Owned.nil strE_len 9 (w4.setCell ⟨b, 2, none⟩ (.slice none 0 0)) (w.heap.size + 1))
  have HZ := Lib.hid (show ∀ y ∈ ([] : List ByteArray), y.size ≤ 8 from fun y hy => by cases hy)
  clear HM4 HO4
  obtain ⟨K1, K2, ⟨rx, ry, rz, K3⟩, K4, K5, K6⟩ := HM.out
  have kc0 := K1.cell 0; have kc1 := K1.cell 1; have kc2 := K1.cell 2
  have kd0 := K3.cell 0; have kd1 := K3.cell 1; have kd2 := K3.cell 2
  have kf0 := K3.frozen 0; have kf1 := K3.frozen 1; have kf2 := K3.frozen 2
  simp only [List.getElem?_cons_zero, List.getElem?_cons_succ] at kc0 kc1 kc2 kd0 kd1 kd2
  have Z := ((K3.set_ 0 (.string nm)).set_ 1 (.int .i64 (st : Int))).set_ 2 (.slice none (0) 0)
  have y0 := Z.cell 0; have y1 := Z.cell 1; have y2 := Z.cell 2
  simp only [List.set_cons_zero, List.set_cons_succ, List.getElem?_cons_zero, List.getElem?_cons_succ] at y0 y1 y2
  have HK := Lib.hid K2; have HGR := Lib.hid K4
  clear K1 K2 K3 K4 Z
  go_wp2_with fail
  refine bodyPost_ret (v := .agg #[.string nm, .int .i64 (st : Int), .slice none (0) 0]) (by simp [results, Tryz.results92, go_sem, y0, y1, y2]) rfl ?_
  have X := fin.out _ _ nm st _ _ _ _ HGR.out (HK.out.mono (by omega)) HO.out (by omega) (by omega) (by omega) (by omega) HZ.out (grownBy_trans (grownBy_trans (only_set _ (p := ⟨w.heap.size, 0, none⟩) (.string nm)) (only_set _ (p := ⟨w.heap.size, 1, none⟩) (.int .i64 (st : Int)))) (only_set _ (p := ⟨w.heap.size, 2, none⟩) (.slice none (0) 0)))
  first | exact X | (obtain ⟨z1, z2, z3, z4, z5, z6, z7, z8⟩ := X; exact ⟨z1, z2, z3, z4, z5, z7, z6, z8⟩)
 ·go_wp2_with fail
  refine (cur_pick HS.out (G.out _ HM4.out.2.2.2.1) hp HM4.out.2.1 (by omega) (by decide) (by decide)).mono ?_; rintro e w5 ⟨z, rfl, ⟨z0, z1⟩, hc5, hg5⟩
  have HM5 := Lib.hid (HM4.out.draw hg5 hc5)
  have HO5 := Lib.hid (HO4.out.past hg5 (by omega))
  obtain ⟨Z, rfl⟩ := Int.eq_ofNat_of_zero_le z0
  have hZ : Z ≤ 1 := by omega
  have hm5 : m ≤ 12 := by have h1 := HO4.out.len; have h2 := hzL.out; omega
  clear hc5 hg5 z0 z1 HM4 HO4
  go_wp2
  go_loopw [] (fun wr => ∃ (m : Nat) (A' : Option Addr) (c' : Nat) (L : List ByteArray), m ≤ 40 + Z ∧ Hid (MSt w wr p A n c (a + 110 + m) b nm st (.slice A' m c')) ∧ Hid (Owned strE 1 9 wr (w.heap.size + 1) A' m c' L) ∧ Hid (∀ x ∈ L, x.size ≤ 8)) (fun wr => 41 - clen (wr.cell? ⟨b, 2, none⟩))
  case atStart => exact ⟨m, A2, c2, L, by omega, Lib.hid (HM5.out.mono (by omega)), HO5, HZL⟩
  case round =>
   obtain ⟨m, A2, c2, L, hmZ, HM, HO, HZ⟩ := hrel
   rename World => wr
   have d2 := HM.out.1.cell 2; have d1 := HM.out.1.cell 1
   simp only [List.getElem?_cons_zero, List.getElem?_cons_succ] at d2 d1
   have HCL := Lib.hid d2
   have hOl := HO.out.len
   have hbs := HM.out.1.lt
   have hs4 := HM.out.2.2.2.1.size
   by_cases h0 : m < 40 + Z
   ·have hI : (m : Int) < 40 + (Z : Int) := by omega
    go_upto_region 14 with fail
    refine wp_region_any (by kernel_rfl) ?_
    (try (change wpAny _ _ _ _ _ _ _ (World.drew _)))
    refine wpAny_take (i := 0) (oi := { dst := some 41, op := _, type := _, pos := _, after := _, guard := _ }) (v := ?_) rfl (by kernel_rfl) (by kernel_rfl) (by kernel_rfl) (fun _ _ _ h => h) (Or.inl ⟨by rfl, ?_⟩) ?_
    rotate_left
    ·(intro w; go_simp) <;> with_reducible rfl
    (try simp only [Act.put, List.setIfInBounds_toArray, List.set_cons_zero, List.set_cons_succ])
    refine wpAny_take (i := 2) (oi := { dst := some 43, op := _, type := _, pos := _, after := _, guard := _ }) (v := ?_) rfl (by kernel_rfl) (by kernel_rfl) (by kernel_rfl) (fun _ _ _ h => h) (Or.inl ⟨by rfl, ?_⟩) ?_
    rotate_left
    ·(intro w; go_simp) <;> with_reducible rfl
    (try simp only [Act.put, List.setIfInBounds_toArray, List.set_cons_zero, List.set_cons_succ])
    refine wpAny_take (i := 3) (oi := { dst := some 44, op := _, type := _, pos := _, after := _, guard := _ }) (v := ?_) rfl (by kernel_rfl) (by kernel_rfl) (by kernel_rfl) (fun _ _ _ h => h) (Or.inl ⟨by rfl, ?_⟩) ?_
    rotate_left
    ·(intro w; go_simp) <;> with_reducible rfl
    (try simp only [Act.put, List.setIfInBounds_toArray, List.set_cons_zero, List.set_cons_succ])
    refine wpAny_ready (rs := [1, 4]) (by kernel_rfl) (by simp) ?_
    refine AllReady.cons (o := _) rfl (fun K hK => ?_) (AllReady.cons (o := _) rfl (fun K hK => ?_) (AllReady.nil))
    ·go_simp
     (try (refine hK _ _ ?_; clear hK K))
     (try simp only [Act.put, List.setIfInBounds_toArray, List.set_cons_zero, List.set_cons_succ])
     refine wpAny_ready (rs := [4]) (by kernel_rfl) (by simp) ?_
     refine AllReady.cons (o := _) rfl (fun K hK => ?_) (AllReady.nil)
     go_simp
     (try (refine hK _ _ ?_; clear hK K))
     (try simp only [Act.put, List.setIfInBounds_toArray, List.set_cons_zero, List.set_cons_succ])
     refine wpAny_ready (rs := [5]) (by kernel_rfl) (by simp) ?_
     refine AllReady.cons (o := _) rfl (fun K hK => ?_) (AllReady.nil)
     go_simp
     refine (cur_change HS.out (G.out _ HM.out.drew.2.2.2.1) hp HM.out.drew.2.1 (by omega) (by omega) (by omega)).mono ?_; rintro e w8 ⟨x8, rfl, gx8, zx8, hc8, hg8⟩
     have HM8 := Lib.hid (HM.out.drew.draw hg8 hc8)
     have HO8 := Lib.hid ((HO.out.up (below_drewN (Below.refl _ _) 1)).past hg8 (by omega))
     have d3 := HM8.out.1.cell 2
     simp only [List.getElem?_cons_zero, List.getElem?_cons_succ] at d3
     have d4 := (HM8.out.alloc (.cells #[.string x8] 9)).1.cell 2
     simp only [List.getElem?_cons_zero, List.getElem?_cons_succ] at d4
     try go_wp2_with fail
     (try (refine hK _ _ ?_; clear hK K))
     (try simp only [Act.put, List.setIfInBounds_toArray, List.set_cons_zero, List.set_cons_succ])
     refine wpAny_ready (rs := [6]) (by kernel_rfl) (by simp) ?_
     refine AllReady.cons (o := _) rfl (fun K hK => ?_) (AllReady.nil)
     go_simp
     (try (refine hK _ _ ?_; clear hK K))
     (try simp only [Act.put, List.setIfInBounds_toArray, List.set_cons_zero, List.set_cons_succ])
     refine wpAny_ready (rs := [7]) (by kernel_rfl) (by simp) ?_
     refine AllReady.cons (o := _) rfl (fun K hK => ?_) (AllReady.nil)
     refine step_append_rec Tryz.elStr (by rfl) _ _ (by rfl) (by rfl) (HO8.out.alloc _) x8 (by rfl) (Box.at_ _ [.string x8] _ (by rfl)) (strE_one _) (by omega) (by decide) (by have h1 := HM8.out.1.lt; have h2 := hg8.size; simp at h2 ⊢; omega) ?_
     intro A3 c3 w9 ho9 hg9 hb9
     have HM9 := Lib.hid ((HM8.out.alloc (.cells #[.string x8] 9)).app (HO8.out.alloc _) (by omega) hg9)
     have d5 := HM9.out.1.cell 2; have e5 := HM9.out.1.frozen 2
     simp only [List.getElem?_cons_zero, List.getElem?_cons_succ] at d5
     (try (refine hK _ _ ?_; clear hK K))
     (try simp only [Act.put, List.setIfInBounds_toArray, List.set_cons_zero, List.set_cons_succ])
     refine wpAny_ready (rs := [8]) (by kernel_rfl) (by simp) ?_
     refine AllReady.cons (o := _) rfl (fun K hK => ?_) (AllReady.nil)
     go_simp
     (try (refine hK _ _ ?_; clear hK K))
     (try simp only [Act.put, List.setIfInBounds_toArray, List.set_cons_zero, List.set_cons_succ])
     refine wpAny_ready (rs := [9]) (by kernel_rfl) (by simp) ?_
     refine AllReady.cons (o := _) rfl (fun K hK => ?_) (AllReady.nil)
     go_simp
     (try (refine hK _ _ ?_; clear hK K))
     (try simp only [Act.put, List.setIfInBounds_toArray, List.set_cons_zero, List.set_cons_succ])
     refine wpAny_done (by kernel_rfl) ?_ _
     (try simp only [Act.put, List.setIfInBounds_toArray, List.set_cons_zero, List.set_cons_succ])
     have HZ9 := Lib.hid (show ∀ y ∈ L ++ [x8], y.size ≤ 8 from fun y hy => (List.mem_append.1 hy).elim (fun q => HZ.out y q) (fun q => by rw [List.mem_singleton.1 q]; exact zx8))
     have HMF := Lib.hid (HM9.out.put (v' := .slice A3 (m + 1) c3))
     have HOF := Lib.hid (own_fld ho9 HM9.out.1 (only_set w9 (p := ⟨b, 2, none⟩) (.slice A3 (m + 1) c3)))
     have hmc := HMF.out.1.cell 2
     simp only [List.getElem?_cons_zero, List.getElem?_cons_succ] at hmc
     have HMC := Lib.hid hmc
     clear d2 d1 d3 d4 d5 e5 hmc
     go_wp2
     go_roundw
     case rel => exact ⟨m + 1, A3, c3, L ++ [x8], by omega, Lib.hid (HMF.out.mono (by omega)), HOF, HZ9⟩
     case measure => rw [HMC.out, HCL.out]; simp only [clen]; omega
    ·go_simp
     (try (refine hK _ _ ?_; clear hK K))
     (try simp only [Act.put, List.setIfInBounds_toArray, List.set_cons_zero, List.set_cons_succ])
     refine wpAny_ready (rs := [1, 5]) (by kernel_rfl) (by simp) ?_
     refine AllReady.cons (o := _) rfl (fun K hK => ?_) (AllReady.cons (o := _) rfl (fun K hK => ?_) (AllReady.nil))
     ·go_simp
      (try (refine hK _ _ ?_; clear hK K))
      (try simp only [Act.put, List.setIfInBounds_toArray, List.set_cons_zero, List.set_cons_succ])
      refine wpAny_ready (rs := [5]) (by kernel_rfl) (by simp) ?_
      refine AllReady.cons (o := _) rfl (fun K hK => ?_) (AllReady.nil)
      go_simp
      refine (cur_change HS.out (G.out _ HM.out.drew.2.2.2.1) hp HM.out.drew.2.1 (by omega) (by omega) (by omega)).mono ?_; rintro e w8 ⟨x8, rfl, gx8, zx8, hc8, hg8⟩
      have HM8 := Lib.hid (HM.out.drew.draw hg8 hc8)
      have HO8 := Lib.hid ((HO.out.up (below_drewN (Below.refl _ _) 1)).past hg8 (by omega))
      have d3 := HM8.out.1.cell 2
      simp only [List.getElem?_cons_zero, List.getElem?_cons_succ] at d3
      have d4 := (HM8.out.alloc (.cells #[.string x8] 9)).1.cell 2
      simp only [List.getElem?_cons_zero, List.getElem?_cons_succ] at d4
      try go_wp2_with fail
      (try (refine hK _ _ ?_; clear hK K))
      (try simp only [Act.put, List.setIfInBounds_toArray, List.set_cons_zero, List.set_cons_succ])
      refine wpAny_ready (rs := [6]) (by kernel_rfl) (by simp) ?_
      refine AllReady.cons (o := _) rfl (fun K hK => ?_) (AllReady.nil)
      go_simp
      (try (refine hK _ _ ?_; clear hK K))
      (try simp only [Act.put, List.setIfInBounds_toArray, List.set_cons_zero, List.set_cons_succ])
      refine wpAny_ready (rs := [7]) (by kernel_rfl) (by simp) ?_
      refine AllReady.cons (o := _) rfl (fun K hK => ?_) (AllReady.nil)
      refine step_append_rec Tryz.elStr (by rfl) _ _ (by rfl) (by rfl) (HO8.out.alloc _) x8 (by rfl) (Box.at_ _ [.string x8] _ (by rfl)) (strE_one _) (by omega) (by decide) (by have h1 := HM8.out.1.lt; have h2 := hg8.size; simp at h2 ⊢; omega) ?_
      intro A3 c3 w9 ho9 hg9 hb9
      have HM9 := Lib.hid ((HM8.out.alloc (.cells #[.string x8] 9)).app (HO8.out.alloc _) (by omega) hg9)
      have d5 := HM9.out.1.cell 2; have e5 := HM9.out.1.frozen 2
      simp only [List.getElem?_cons_zero, List.getElem?_cons_succ] at d5
      (try (refine hK _ _ ?_; clear hK K))
      (try simp only [Act.put, List.setIfInBounds_toArray, List.set_cons_zero, List.set_cons_succ])
      refine wpAny_ready (rs := [8]) (by kernel_rfl) (by simp) ?_
      refine AllReady.cons (o := _) rfl (fun K hK => ?_) (AllReady.nil)
      go_simp
      (try (refine hK _ _ ?_; clear hK K))
      (try simp only [Act.put, List.setIfInBounds_toArray, List.set_cons_zero, List.set_cons_succ])
      refine wpAny_ready (rs := [9]) (by kernel_rfl) (by simp) ?_
      refine AllReady.cons (o := _) rfl (fun K hK => ?_) (AllReady.nil)
      go_simp
      (try (refine hK _ _ ?_; clear hK K))
      (try simp only [Act.put, List.setIfInBounds_toArray, List.set_cons_zero, List.set_cons_succ])
      refine wpAny_done (by kernel_rfl) ?_ _
      (try simp only [Act.put, List.setIfInBounds_toArray, List.set_cons_zero, List.set_cons_succ])
      have HZ9 := Lib.hid (show ∀ y ∈ L ++ [x8], y.size ≤ 8 from fun y hy => (List.mem_append.1 hy).elim (fun q => HZ.out y q) (fun q => by rw [List.mem_singleton.1 q]; exact zx8))
      have HMF := Lib.hid (HM9.out.put (v' := .slice A3 (m + 1) c3))
      have HOF := Lib.hid (own_fld ho9 HM9.out.1 (only_set w9 (p := ⟨b, 2, none⟩) (.slice A3 (m + 1) c3)))
      have hmc := HMF.out.1.cell 2
      simp only [List.getElem?_cons_zero, List.getElem?_cons_succ] at hmc
      have HMC := Lib.hid hmc
      clear d2 d1 d3 d4 d5 e5 hmc
      go_wp2
      go_roundw
      case rel => exact ⟨m + 1, A3, c3, L ++ [x8], by omega, Lib.hid (HMF.out.mono (by omega)), HOF, HZ9⟩
      case measure => rw [HMC.out, HCL.out]; simp only [clen]; omega
     ·go_simp
      refine (cur_change HS.out (G.out _ HM.out.drew.2.2.2.1) hp HM.out.drew.2.1 (by omega) (by omega) (by omega)).mono ?_; rintro e w8 ⟨x8, rfl, gx8, zx8, hc8, hg8⟩
      have HM8 := Lib.hid (HM.out.drew.draw hg8 hc8)
      have HO8 := Lib.hid ((HO.out.up (below_drewN (Below.refl _ _) 1)).past hg8 (by omega))
      have d3 := HM8.out.1.cell 2
      simp only [List.getElem?_cons_zero, List.getElem?_cons_succ] at d3
      have d4 := (HM8.out.alloc (.cells #[.string x8] 9)).1.cell 2
      simp only [List.getElem?_cons_zero, List.getElem?_cons_succ] at d4
      try go_wp2_with fail
      (try (refine hK _ _ ?_; clear hK K))
      (try simp only [Act.put, List.setIfInBounds_toArray, List.set_cons_zero, List.set_cons_succ])
      refine wpAny_ready (rs := [1, 6]) (by kernel_rfl) (by simp) ?_
      refine AllReady.cons (o := _) rfl (fun K hK => ?_) (AllReady.cons (o := _) rfl (fun K hK => ?_) (AllReady.nil))
      ·go_simp
       (try (refine hK _ _ ?_; clear hK K))
       (try simp only [Act.put, List.setIfInBounds_toArray, List.set_cons_zero, List.set_cons_succ])
       refine wpAny_ready (rs := [6]) (by kernel_rfl) (by simp) ?_
       refine AllReady.cons (o := _) rfl (fun K hK => ?_) (AllReady.nil)
       go_simp
       (try (refine hK _ _ ?_; clear hK K))
       (try simp only [Act.put, List.setIfInBounds_toArray, List.set_cons_zero, List.set_cons_succ])
       refine wpAny_ready (rs := [7]) (by kernel_rfl) (by simp) ?_
       refine AllReady.cons (o := _) rfl (fun K hK => ?_) (AllReady.nil)
       refine step_append_rec Tryz.elStr (by rfl) _ _ (by rfl) (by rfl) (HO8.out.alloc _) x8 (by rfl) (Box.at_ _ [.string x8] _ (by rfl)) (strE_one _) (by omega) (by decide) (by have h1 := HM8.out.1.lt; have h2 := hg8.size; simp at h2 ⊢; omega) ?_
       intro A3 c3 w9 ho9 hg9 hb9
       have HM9 := Lib.hid ((HM8.out.alloc (.cells #[.string x8] 9)).app (HO8.out.alloc _) (by omega) hg9)
       have d5 := HM9.out.1.cell 2; have e5 := HM9.out.1.frozen 2
       simp only [List.getElem?_cons_zero, List.getElem?_cons_succ] at d5
       (try (refine hK _ _ ?_; clear hK K))
       (try simp only [Act.put, List.setIfInBounds_toArray, List.set_cons_zero, List.set_cons_succ])
       refine wpAny_ready (rs := [8]) (by kernel_rfl) (by simp) ?_
       refine AllReady.cons (o := _) rfl (fun K hK => ?_) (AllReady.nil)
       go_simp
       (try (refine hK _ _ ?_; clear hK K))
       (try simp only [Act.put, List.setIfInBounds_toArray, List.set_cons_zero, List.set_cons_succ])
       refine wpAny_ready (rs := [9]) (by kernel_rfl) (by simp) ?_
       refine AllReady.cons (o := _) rfl (fun K hK => ?_) (AllReady.nil)
       go_simp
       (try (refine hK _ _ ?_; clear hK K))
       (try simp only [Act.put, List.setIfInBounds_toArray, List.set_cons_zero, List.set_cons_succ])
       refine wpAny_done (by kernel_rfl) ?_ _
       (try simp only [Act.put, List.setIfInBounds_toArray, List.set_cons_zero, List.set_cons_succ])
       have HZ9 := Lib.hid (show ∀ y ∈ L ++ [x8], y.size ≤ 8 from fun y hy => (List.mem_append.1 hy).elim (fun q => HZ.out y q) (fun q => by rw [List.mem_singleton.1 q]; exact zx8))
       have HMF := Lib.hid (HM9.out.put (v' := .slice A3 (m + 1) c3))
       have HOF := Lib.hid (own_fld ho9 HM9.out.1 (only_set w9 (p := ⟨b, 2, none⟩) (.slice A3 (m + 1) c3)))
       have hmc := HMF.out.1.cell 2
       simp only [List.getElem?_cons_zero, List.getElem?_cons_succ] at hmc
       have HMC := Lib.hid hmc
       clear d2 d1 d3 d4 d5 e5 hmc
       go_wp2
       go_roundw
       case rel => exact ⟨m + 1, A3, c3, L ++ [x8], by omega, Lib.hid (HMF.out.mono (by omega)), HOF, HZ9⟩
       case measure => rw [HMC.out, HCL.out]; simp only [clen]; omega
      ·go_simp
       (try (refine hK _ _ ?_; clear hK K))
       (try simp only [Act.put, List.setIfInBounds_toArray, List.set_cons_zero, List.set_cons_succ])
       refine wpAny_ready (rs := [1]) (by kernel_rfl) (by simp) ?_
       refine AllReady.cons (o := _) rfl (fun K hK => ?_) (AllReady.nil)
       go_simp
       (try (refine hK _ _ ?_; clear hK K))
       (try simp only [Act.put, List.setIfInBounds_toArray, List.set_cons_zero, List.set_cons_succ])
       refine wpAny_ready (rs := [7]) (by kernel_rfl) (by simp) ?_
       refine AllReady.cons (o := _) rfl (fun K hK => ?_) (AllReady.nil)
       refine step_append_rec Tryz.elStr (by rfl) _ _ (by rfl) (by rfl) (HO8.out.alloc _) x8 (by rfl) (Box.at_ _ [.string x8] _ (by rfl)) (strE_one _) (by omega) (by decide) (by have h1 := HM8.out.1.lt; have h2 := hg8.size; simp at h2 ⊢; omega) ?_
       intro A3 c3 w9 ho9 hg9 hb9
       have HM9 := Lib.hid ((HM8.out.alloc (.cells #[.string x8] 9)).app (HO8.out.alloc _) (by omega) hg9)
       have d5 := HM9.out.1.cell 2; have e5 := HM9.out.1.frozen 2
       simp only [List.getElem?_cons_zero, List.getElem?_cons_succ] at d5
       (try (refine hK _ _ ?_; clear hK K))
       (try simp only [Act.put, List.setIfInBounds_toArray, List.set_cons_zero, List.set_cons_succ])
       refine wpAny_ready (rs := [8]) (by kernel_rfl) (by simp) ?_
       refine AllReady.cons (o := _) rfl (fun K hK => ?_) (AllReady.nil)
       go_simp
       (try (refine hK _ _ ?_; clear hK K))
       (try simp only [Act.put, List.setIfInBounds_toArray, List.set_cons_zero, List.set_cons_succ])
       refine wpAny_ready (rs := [9]) (by kernel_rfl) (by simp) ?_
       refine AllReady.cons (o := _) rfl (fun K hK => ?_) (AllReady.nil)
       go_simp
       (try (refine hK _ _ ?_; clear hK K))
       (try simp only [Act.put, List.setIfInBounds_toArray, List.set_cons_zero, List.set_cons_succ])
       refine wpAny_done (by kernel_rfl) ?_ _
       (try simp only [Act.put, List.setIfInBounds_toArray, List.set_cons_zero, List.set_cons_succ])
       have HZ9 := Lib.hid (show ∀ y ∈ L ++ [x8], y.size ≤ 8 from fun y hy => (List.mem_append.1 hy).elim (fun q => HZ.out y q) (fun q => by rw [List.mem_singleton.1 q]; exact zx8))
       have HMF := Lib.hid (HM9.out.put (v' := .slice A3 (m + 1) c3))
       have HOF := Lib.hid (own_fld ho9 HM9.out.1 (only_set w9 (p := ⟨b, 2, none⟩) (.slice A3 (m + 1) c3)))
       have hmc := HMF.out.1.cell 2
       simp only [List.getElem?_cons_zero, List.getElem?_cons_succ] at hmc
       have HMC := Lib.hid hmc
       clear d2 d1 d3 d4 d5 e5 hmc
       go_wp2
       go_roundw
       case rel => exact ⟨m + 1, A3, c3, L ++ [x8], by omega, Lib.hid (HMF.out.mono (by omega)), HOF, HZ9⟩
       case measure => rw [HMC.out, HCL.out]; simp only [clen]; omega
   ·have hI : ¬ (m : Int) < 40 + (Z : Int) := by omega
    go_upto_region 15 with fail
    obtain ⟨K1, K2, ⟨rx, ry, rz, K3⟩, K4, K5, K6⟩ := HM.out
    have kc0 := K1.cell 0; have kc1 := K1.cell 1; have kc2 := K1.cell 2
    have kd0 := K3.cell 0; have kd1 := K3.cell 1; have kd2 := K3.cell 2
    have kf0 := K3.frozen 0; have kf1 := K3.frozen 1; have kf2 := K3.frozen 2
    simp only [List.getElem?_cons_zero, List.getElem?_cons_succ] at kc0 kc1 kc2 kd0 kd1 kd2
    have Z := ((K3.set_ 0 (.string nm)).set_ 1 (.int .i64 (st : Int))).set_ 2 (.slice A2 (m) c2)
    have y0 := Z.cell 0; have y1 := Z.cell 1; have y2 := Z.cell 2
    simp only [List.set_cons_zero, List.set_cons_succ, List.getElem?_cons_zero, List.getElem?_cons_succ] at y0 y1 y2
    have HK := Lib.hid K2; have HGR := Lib.hid K4
    clear K1 K2 K3 K4 Z
    go_wp2_with fail
    refine bodyPost_ret (v := .agg #[.string nm, .int .i64 (st : Int), .slice A2 (m) c2]) (by simp [results, Tryz.results92, go_sem, y0, y1, y2]) rfl ?_
    have X := fin.out _ _ nm st _ _ _ _ HGR.out (HK.out.mono (by omega)) HO.out (by omega) (by omega) (by omega) (by omega) HZ.out (grownBy_trans (grownBy_trans (only_set _ (p := ⟨w.heap.size, 0, none⟩) (.string nm)) (only_set _ (p := ⟨w.heap.size, 1, none⟩) (.int .i64 (st : Int)))) (only_set _ (p := ⟨w.heap.size, 2, none⟩) (.slice A2 (m) c2)))
    first | exact X | (obtain ⟨z1, z2, z3, z4, z5, z6, z7, z8⟩ := X; exact ⟨z1, z2, z3, z4, z5, z7, z6, z8⟩)
 ·have n0 : (x == 0) = false := by simp; omega
  have n1 : (x == 1) = false := by simp; omega
  have n2 : (x == 2) = false := by simp; omega
  have n3 : (x == 3) = false := by simp; omega
  have n4 : (x == 4) = false := by simp; omega
  have HM := HM4
  have HO := HO4
  have HZ := HZL
  have hOl := HO.out.len
  have hLz := hzL.out
  clear HM4 HO4
  obtain ⟨K1, K2, ⟨rx, ry, rz, K3⟩, K4, K5, K6⟩ := HM.out
  have kc0 := K1.cell 0; have kc1 := K1.cell 1; have kc2 := K1.cell 2
  have kd0 := K3.cell 0; have kd1 := K3.cell 1; have kd2 := K3.cell 2
  have kf0 := K3.frozen 0; have kf1 := K3.frozen 1; have kf2 := K3.frozen 2
  simp only [List.getElem?_cons_zero, List.getElem?_cons_succ] at kc0 kc1 kc2 kd0 kd1 kd2
  have Z := ((K3.set_ 0 (.string nm)).set_ 1 (.int .i64 (st : Int))).set_ 2 (.slice A2 (m) c2)
  have y0 := Z.cell 0; have y1 := Z.cell 1; have y2 := Z.cell 2
  simp only [List.set_cons_zero, List.set_cons_succ, List.getElem?_cons_zero, List.getElem?_cons_succ] at y0 y1 y2
  have HK := Lib.hid K2; have HGR := Lib.hid K4
  clear K1 K2 K3 K4 Z
  go_wp2_with fail
  refine bodyPost_ret (v := .agg #[.string nm, .int .i64 (st : Int), .slice A2 (m) c2]) (by simp [results, Tryz.results92, go_sem, y0, y1, y2]) rfl ?_
  have X := fin.out _ _ nm st _ _ _ _ HGR.out (HK.out.mono (by omega)) HO.out (by omega) (by omega) (by omega) (by omega) HZ.out (grownBy_trans (grownBy_trans (only_set _ (p := ⟨w.heap.size, 0, none⟩) (.string nm)) (only_set _ (p := ⟨w.heap.size, 1, none⟩) (.int .i64 (st : Int)))) (only_set _ (p := ⟨w.heap.size, 2, none⟩) (.slice A2 (m) c2)))
  first | exact X | (obtain ⟨z1, z2, z3, z4, z5, z6, z7, z8⟩ := X; exact ⟨z1, z2, z3, z4, z5, z7, z6, z8⟩)
end Go.Proofs.YtidolgonmimicaaGreat
