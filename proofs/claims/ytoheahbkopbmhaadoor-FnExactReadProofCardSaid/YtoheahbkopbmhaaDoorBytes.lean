/- Rows of bytes: what []byte(s) lays, stores into it, and the text made of it. -/
import Derived.Test.YtoheahbkopbmhaaDoorBase
import Derived.Test.YtoheahbkopbmhaaDoorMore
import Derived.Test.YtoheahbkopbmhaaDoorRows
import Derived.PlainAid
import Derived.Laws.BytesArg
namespace Go.Proofs.YtoheahbkopbmhaaDoor
set_option linter.unusedVariables false
set_option linter.unusedSimpArgs false
open Go.ChangeShapes Go.WideShapes Go.ChangeAt Go.RowKit Go.Deep
def nums (s : ByteArray) : List Int := (List.range s.size).map (PlainAid.bt s)
theorem nums_len (s : ByteArray) : (nums s).length = s.size := by simp [nums]
theorem nums_at {s : ByteArray} {k : Nat} (h : k < s.size) : (nums s)[k]? = some (PlainAid.bt s k) := by simp [nums, h]
/-- The block g's first cells are the bytes l, and they may be written. -/
def BRow (w : World) (g : Nat) (l : List Int) : Prop :=
  g < w.heap.size ∧ (∀ (j : Nat) (z : Int), l[j]? = some z → w.cell? ⟨g, j, none⟩ = some (.int .u8 z)) ∧ ∀ j, j < l.length → w.frozen? ⟨g, j, none⟩ = false
section
variable {w w' : World} {g : Nat} {l : List Int}
theorem BRow.below {B : Nat} (h : BRow w g l) (hb : Below B w w') (hB : g < B) : BRow w' g l :=
  ⟨Nat.lt_of_lt_of_le h.1 hb.size, fun j z hz => (hb.cell (p := ⟨g, j, none⟩) hB).trans (h.2.1 j z hz), fun j hj => (hb.frozen (p := ⟨g, j, none⟩) hB).trans (h.2.2 j hj)⟩
theorem BRow.up (h : BRow w g l) (hb : Below w.heap.size w w') : BRow w' g l := h.below hb h.1
theorem BRow.drewN (h : BRow w g l) (n : Nat) : BRow (w.drewN n) g l := h.up (below_drewN (Below.refl _ _) n)
theorem BRow.set (h : BRow w g l) {k : Nat} (hk : k < l.length) (z : Int) : BRow (w.setCell ⟨g, k, none⟩ (.int .u8 z)) g (l.set k z) := by
  refine ⟨?_, fun j y hy => ?_, fun j hj => ?_⟩
  · have : (w.setCell ⟨g, k, none⟩ (.int .u8 z)).heap.size = w.heap.size := by simp [World.setCell]
    rw [this]; exact h.1
  · by_cases hjk : j = k
    · subst hjk
      rw [List.getElem?_set_self hk] at hy
      injection hy with hy
      subst hy
      exact World.cell?_setCell_same' _ _ _ (by rw [h.2.1 j _ (List.getElem?_eq_getElem hk)]; rfl)
    · rw [List.getElem?_set_ne (fun e => hjk e.symm)] at hy
      rw [World.cell?_setCell_other]
      · exact h.2.1 j y hy
      · intro e; injection e with _ e; exact hjk e.symm
  · rw [List.length_set] at hj
    rw [World.frozen?_setCell]
    exact h.2.2 j hj
/-- The text that the bytes make. -/
theorem BRow.text {P : Program} {src e dst : TypeId} (h : BRow w g l) (n c : Nat) (hn : l.length = n) (hs : P.underlying src = some (.slice e)) (he : P.underlying e = some (.int .u8)) (hd : P.underlying dst = some .string) :
    (convert src dst (.slice (some ⟨g, 0, none⟩) n c)).run P w = .ok (.string (strOfNums l)) w :=
  run_convert_bytes_arg w src e hs he g 0 n c l hn (fun i hi => by
    rw [Nat.zero_add, h.2.1 i (l.getD i 0) (by rw [List.getD, List.getElem?_eq_getElem (by omega)]; rfl)]) dst hd
end
/-- The world behind []byte(s). -/
def bytesW (w : World) (e : TypeId) (s : ByteArray) : World := w.drew.alloc (.cells (bytesRow s (grownCap w s.size 0 e)) e ((bytesRow s (grownCap w s.size 0 e)).size, (bytesRow s (grownCap w s.size 0 e)).size + 1))
theorem run_bytes {P : Program} {src dst e : TypeId} (s : ByteArray) (hs : P.underlying src = some .string) (hd : P.underlying dst = some (.slice e)) (he : P.underlying e = some (.int .u8)) :
    ∀ u : World, (convert src dst (.string s)).run P u = .ok (.slice (some ⟨u.heap.size, 0, none⟩) s.size (grownCap u s.size 0 e)) (bytesW u e s) := fun u => run_bytes_of_string u src dst e s hs hd he
theorem bytesW_below (w : World) (e : TypeId) (s : ByteArray) : Below w.heap.size w (bytesW w e s) := below_alloc (Below.drew (Below.refl _ _)) _
theorem bytesW_size (w : World) (e : TypeId) (s : ByteArray) : (bytesW w e s).heap.size = w.heap.size + 1 := by simp [bytesW]
theorem bytesW_row (w : World) (e : TypeId) (s : ByteArray) : BRow (bytesW w e s) w.heap.size (nums s) := by
  have hh : (bytesW w e s).heap[w.heap.size]? = some (.cells (bytesRow s (grownCap w s.size 0 e)) e ((bytesRow s (grownCap w s.size 0 e)).size, (bytesRow s (grownCap w s.size 0 e)).size + 1)) := by
    have := heap_alloc_new w.drew (.cells (bytesRow s (grownCap w s.size 0 e)) e ((bytesRow s (grownCap w s.size 0 e)).size, (bytesRow s (grownCap w s.size 0 e)).size + 1))
    exact this
  refine ⟨by rw [bytesW_size]; omega, fun j z hz => ?_, fun j hj => ?_⟩
  · have hj : j < s.size := by
      have := (List.getElem?_eq_some_iff.1 hz).1
      rwa [nums_len] at this
    rw [nums_at hj] at hz
    injection hz with hz
    subst hz
    have hd : j < s.data.size := hj
    simp [World.cell?, hh, bytesRow, Array.getElem?_append, hd, PlainAid.bt, hj]
    rfl
  · rw [nums_len] at hj
    have : s.size ≤ (bytesRow s (grownCap w s.size 0 e)).size := by
      simp only [bytesRow, Array.size_append, Array.size_map]
      exact Nat.le_add_right _ _
    simp [World.frozen?, hh]
    omega
/-! a fresh row of bytes -/
abbrev byteE (z : Int) : List Value := [.int .u8 z]
theorem byteE_len (z : Int) : (byteE z).length = 1 := rfl
theorem Tryd.elU8 : ElemOk Tryd.prog 55 5 (.int .u8 0) 1 1 := ⟨Tryd.underlying55, by kernel_rfl, rfl, by decide⟩
theorem BRow.of_owned {w : World} {E : TypeId} {base g n c : Nat} {l : List Int} (h : Owned byteE 1 E w base (some ⟨g, 0, none⟩) n c l) : BRow w g l := by
  have hg := h.at_own
  rcases Nat.eq_zero_or_pos n with h0 | h0
  · have hl := h.len
    subst h0
    rw [List.length_eq_zero_iff] at hl
    subst hl
    exact ⟨hg.2, fun j z hz => by simp at hz, fun j hj => absurd hj (by simp)⟩
  · obtain ⟨g', e, _, _, hc, hf⟩ := h.at_ h0
    injection e with e
    injection e with e
    subst e
    exact ⟨hg.2, fun j z hz => by have := hc j z 0 _ hz rfl; simpa using this, fun j _ => hf j⟩
/-! texts and numbers -/
theorem nums_strOf {l : List Int} (h : ∀ x ∈ l, 0 ≤ x ∧ x < 256) : nums (strOfNums l) = l := by
  have hs : (strOfNums l).size = l.length := by simp [strOfNums, ByteArray.size]
  apply List.ext_getElem (by rw [nums_len, hs])
  intro j h1 h2
  have hb := h l[j] (List.getElem_mem h2)
  have : (nums (strOfNums l))[j]? = some l[j] := by
    rw [nums_at (by rw [hs]; exact h2), PlainAid.bt, dif_pos (by rw [hs]; exact h2)]
    congr 1
    have : (strOfNums l)[j]'(by rw [hs]; exact h2) = UInt8.ofNat (l[j]).toNat := by
      show (strOfNums l).data[j]'_ = _
      simp [strOfNums]
    rw [this, UInt8.toNat_ofNat']
    omega
  rw [List.getElem?_eq_getElem h1] at this
  injection this
theorem bt_strOf {l : List Int} (h : ∀ x ∈ l, 0 ≤ x ∧ x < 256) {k : Nat} {z : Int} (hk : l[k]? = some z) : PlainAid.bt (strOfNums l) k = z := by
  have hs : (strOfNums l).size = l.length := by simp [strOfNums, ByteArray.size]
  have h1 := nums_strOf h
  have hkl := (List.getElem?_eq_some_iff.1 hk).1
  have h2 := nums_at (s := strOfNums l) (k := k) (by rw [hs]; exact hkl)
  rw [h1, hk] at h2
  injection h2 with h2
  exact h2.symm
theorem strOf_append (l m : List Int) : strOfNums l ++ strOfNums m = strOfNums (l ++ m) := by
  apply ByteArray.ext
  simp [strOfNums, ByteArray.data_append]
theorem one_byte {a : ByteArray} {j : Nat} (h : j < a.size) : a.extract j (j + 1) = strOfNums [PlainAid.bt a j] := by
  apply ByteArray.ext
  have hd : j < a.data.size := h
  rw [ByteArray.data_extract]
  apply Array.ext'
  simp [strOfNums, PlainAid.bt, h]
  have hl : j < a.data.toList.length := by simpa using hd
  rw [List.drop_eq_getElem_cons hl, List.take_succ_cons, List.take_zero, Array.getElem_toList]
  rfl
end Go.Proofs.YtoheahbkopbmhaaDoor
