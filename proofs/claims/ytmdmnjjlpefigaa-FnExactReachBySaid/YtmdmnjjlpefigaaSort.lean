/- The library's sort of a row of texts of the call's own: the same row, the same texts, in order. -/
import Derived.Test.YtmdmnjjlpefigaaShelf
import Derived.Test.YtmdmnjjlpefigaaP6s
import Derived.Test.YtmdmnjjlpefigaaMore
import Derived.Sort.OwnSorted
namespace Go.Proofs.Ytmdmnjjlpefigaa
set_option linter.unusedVariables false
set_option linter.unusedSimpArgs false
open Go.ChangeShapes Go.WideShapes Go.ChangeAt Go.RowKit Go.Deep
theorem bytes_lt : ∀ a b : List UInt8, Op.bytesLess a b = decide (a < b)
  | [], [] => by simp [Op.bytesLess]
  | [], _ :: _ => by simp [Op.bytesLess]
  | _ :: _, [] => by simp [Op.bytesLess]
  | x :: a, y :: b => by
    rw [Op.bytesLess, bytes_lt a b]
    simp only [List.cons_lt_cons_iff]
    rcases Nat.lt_trichotomy x.toNat y.toNat with h | h | h
    · have h1 : x < y := h
      simp [h1]
    · have h1 : x = y := UInt8.toNat_inj.1 h
      subst h1; simp
    · have h1 : ¬ x < y := fun q => Nat.lt_asymm h q
      have h2 : ¬ x = y := fun q => by subst q; exact Nat.lt_irrefl _ h
      simp [h1, h2]
theorem ba_list (s : ByteArray) : (⟨s.data.toList.toArray⟩ : ByteArray) = s := by cases s; simp
theorem le_leS {x y : List UInt8} (h : decide (x ≤ y) = true) : leS ⟨x.toArray⟩ ⟨y.toArray⟩ = true := by
  rw [leS, less, ByteArray.toList_eq, ByteArray.toList_eq, bytes_lt]
  simpa using h
theorem sort_strs {g n c base : Nat} {l : List ByteArray} {w : World} (ho : Owned strE 1 9 w base (some ⟨g, 0, none⟩) n c l) (hn : n ≤ 16777216) :
    Calls Try.prog 123 #[.slice (some ⟨g, 0, none⟩) n c] w fun e w' => e = .returned (.tuple #[]) ∧ ∃ L, Owned strE 1 9 w' base (some ⟨g, 0, none⟩) n c L ∧ L.Perm l ∧ Srt L ∧ w.grownBy w' (some g) := by
  obtain ⟨he, hl, _, hv⟩ := ho
  rcases hv with ⟨h0, _⟩ | ⟨g', c', cur, hv, hbase, hb, h1, h2, h3, h4⟩
  · cases h0
  cases hv
  obtain ⟨ss, hss⟩ : ∃ ss, ss = l.map fun s : ByteArray => s.data.toList := ⟨_, rfl⟩
  have hlen : ss.length = n := by rw [hss, List.length_map, hl]
  have hE : ∀ m : List ByteArray, m.flatMap strE = (m.map fun s : ByteArray => s.data.toList).map encStr := fun m => by
    rw [show strE = fun s => [Value.string s] from rfl, flatMap_one, List.map_map]
    exact List.map_congr_left fun s _ => by simp [encStr, ba_list]
  have hH : Sort.Holds encStr w g 0 ss.toArray := holds_of_block hb (by rw [hlen, hss, ← hE]; simpa using h4)
  have hc := Try.slices_Sort_string g 0 c ss w hH (Array.getElem?_eq_some_iff.1 hb).1 (by omega)
  rw [hlen] at hc
  refine hc.mono ?_
  rintro e w' ⟨rfl, k, os, rfl⟩
  refine ⟨rfl, (ss.mergeSort fun x y => decide (x ≤ y)).map fun x => (⟨x.toArray⟩ : ByteArray), ?_, ?_, ?_, grownBy_sorted _⟩
  · have hr := ownsRow_sorted (n := k) (os := os) (ss := ss) (ts := ss.mergeSort fun x y => decide (x ≤ y)) (by simp) hbase hb (by rw [hlen]; exact h1) h2 h3
    rw [hlen] at hr
    refine ⟨he, by simp [hlen], ?_⟩
    have e2 : ((ss.mergeSort fun x y => decide (x ≤ y)).map fun x : List UInt8 => (⟨x.toArray⟩ : ByteArray)).map (fun s : ByteArray => s.data.toList) = ss.mergeSort fun x y => decide (x ≤ y) := by
      rw [List.map_map, List.map_congr_left (g := id) (fun x _ => by simp)]; simp
    rw [hE, e2]
    exact hr
  · have hp : (ss.mergeSort fun x y => decide (x ≤ y)).Perm ss := List.mergeSort_perm _ _
    have hq := hp.map fun x => (⟨x.toArray⟩ : ByteArray)
    rw [hss, List.map_map] at hq
    have e1 : l.map ((fun x : List UInt8 => (⟨x.toArray⟩ : ByteArray)) ∘ fun s : ByteArray => s.data.toList) = l := by
      rw [List.map_congr_left (g := id) (fun s _ => by exact ba_list s)]; simp
    rw [e1] at hq
    rw [hss]; exact hq
  · have hs := List.pairwise_mergeSort (le := fun x y : List UInt8 => decide (x ≤ y)) (fun a b c h1 h2 => by simp at h1 h2 ⊢; exact List.le_trans h1 h2) (fun a b => by simp; exact List.le_total a b) ss
    rw [Srt, List.pairwise_map]
    exact hs.imp fun h => le_leS h
end Go.Proofs.Ytmdmnjjlpefigaa
