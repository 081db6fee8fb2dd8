/- The lines of a text. -/
import Derived.Test.YtoheahbkopbmhaaDoorP21c
import Derived.Test.YtoheahbkopbmhaaDoorP20r
import Derived.Test.YtoheahbkopbmhaaDoorW6c0
import Derived.Test.YtoheahbkopbmhaaDoorShelfs
namespace Go.Proofs.YtoheahbkopbmhaaDoor
set_option linter.unusedVariables false
set_option linter.unusedSimpArgs false
open Go.ChangeShapes Go.WideShapes Go.ChangeAt Go.RowKit Go.Deep
theorem lit_strs (w : World) (t : TypeId) (l : List ByteArray) : Strs (w.alloc (.cells ⟨l.map Value.string⟩ t)) (some ⟨w.heap.size, 0, none⟩) l := by
  refine ⟨strE_len, by rw [flatMap_len strE_len], fun hn => ⟨w.heap.size, 0, rfl, by simp, fun j u hu => ?_⟩⟩
  have h := Box.new w (l.map Value.string) t
  rw [Nat.zero_add]
  refine h j u ?_
  rw [← hu]
  congr 1
  exact (flatMap_one Value.string l).symm
theorem strs_front {w : World} {b o : Nat} {ps : List ByteArray} {z : ByteArray} (h : Strs w (some ⟨b, o, none⟩) (ps ++ [z])) : Strs w (some ⟨b, o, none⟩) ps := by
  have h1 := Recs.sub h (i := 0) (n := ps.length) (by simp)
  simpa using h1
theorem pieces_len {c : UInt8} {s : ByteArray} : (splB c s).length ≤ s.size + 2 := by
  rw [(splB_lib c s).2]
  have := Lib.count_le s.data.toList (⟨#[c]⟩ : ByteArray).data.toList
  have e : s.data.toList.length = s.size := rfl
  show Lib.count s.data.toList _ + 1 ≤ _
  omega
theorem Recs.grown {α : Type} {e : α → List Value} {s b o : Nat} {w w' : World} {l : List α} {row : Option Nat} (h : Recs e s w (some ⟨b, o, none⟩) l) (hg : w.grownBy w' row) (hne : some b ≠ row) : Recs e s w' (some ⟨b, o, none⟩) l := by
  refine ⟨h.1, h.2.1, fun hn => ?_⟩
  obtain ⟨b', o', hA, hb, hc⟩ := h.2.2 hn
  injection hA with hA
  injection hA with e1 e2 _
  subst e1 e2
  exact ⟨b, o, rfl, Nat.lt_of_lt_of_le hb hg.size, fun j u hu => (hg.cell_far ⟨b, o + j, none⟩ hb hne).trans (hc j u hu)⟩
set_option maxHeartbeats 1000000 in
set_option maxRecDepth 100000 in
theorem impl_linesOf {s z : ByteArray} {ps : List ByteArray} {m : Int} {w : World} (hz : s.size ≤ 1048576) (hm : w.cell? ⟨0, 0, none⟩ = some (.int .i64 m)) (hps : splB 10 s = ps ++ [z]) :
    Calls Tryd.prog 13 #[.string s] w fun e w' => e = .returned (.tuple #[.slice (some ⟨w.heap.size, 0, none⟩) ps.length (ps.length + 1), .bool z.toList.isEmpty]) ∧ Strs w' (some ⟨w.heap.size, 0, none⟩) ps ∧ Below w.heap.size w w' ∧ w.heap.size < w'.heap.size := by
  have hl := splB_lib 10 s
  have hpl := pieces_len (c := 10) (s := s)
  rw [hps, List.length_append, List.length_singleton] at hl hpl
  have HC := Lib.hid (show Lib.countB s ⟨#[10]⟩ = ps.length by omega)
  have HS := Lib.hid hl.1
  have hb1 : Below w.heap.size w (w.alloc (.cells ⟨(ps ++ [z]).map Value.string⟩ 9)) := by (repeat' (first | (with_reducible exact Below.refl _ _) | (with_reducible assumption) | (with_reducible refine below_drewN ?_ _) | (with_reducible refine Below.drew ?_) | (with_reducible refine below_alloc ?_ _) | (with_reducible refine Below.alloc ?_ ?_ _) | (with_reducible refine Below.setCell ?_ ?_ _) | (with_reducible refine below_go ?_ (by with_reducible assumption)) | (with_reducible refine below_then (by with_reducible assumption) ?_ ?_) | go_size))
  have HR := Lib.hid (lit_strs w 9 (ps ++ [z]))
  have hn : ps.length ≤ 1048578 := by omega
  clear hl hpl hps
  go_in
  go_wp2_with fail
  refine (Tryd.strings_Split s { data := #[10] } m w (by omega) hm (by decide)).mono ?_
  rw [HC.out, show Lib.splitB { data := #[10] } 0 ps.length s = ps ++ [z] by rw [← HC.out]; exact HS.out]
  rintro e w1 ⟨rfl, hw1⟩
  have hw1' : w1 = w.alloc (.cells ⟨(ps ++ [z]).map Value.string⟩ 9) := hw1
  have hlt1 : w.heap.size < w1.heap.size := by rw [hw1']; simp
  rw [← hw1'] at hb1 HR
  clear hw1 hw1'
  obtain ⟨b3, o3, y, hA, hbb, hy, hcy⟩ := HR.out.at_str (k := ps.length) (by simp)
  injection hA with hA
  injection hA with e1 e2 _
  subst e1 e2
  have hyz : y = z := by
    rw [List.getElem?_append_right (Nat.le_refl _), Nat.sub_self] at hy
    injection hy with hy
    exact hy.symm
  subst hyz
  simp only [Nat.zero_add] at hcy
  clear hy hbb
  have hw : IntKind.i64.wrap ((ps.length : Int) + 1 - 1) = (ps.length : Int) := by rw [wrap_id (by omega)]; omega
  have hw2 : (((ps.length + 1 : Nat) : Int)) = (ps.length : Int) + 1 := by omega
  have hI : (ps.length : Int) ≤ (ps.length : Int) + 1 := by omega
  have hJ : (ps.length : Int) < (ps.length : Int) + 1 := by omega
  go_wp2
  go_quiet (fail)
  go_wp2
  go_ret2
  exact ⟨rfl, (strs_front HR.out).up (below_drewN (Below.refl _ _) _), below_drewN hb1 _, hlt1⟩
theorem spl_last_one (c : UInt8) (s : ByteArray) : ∃ ps z, splB c s = ps ++ [z] := by
  rcases List.eq_nil_or_concat (splB c s) with h | ⟨r, b, h⟩
  · rw [splB, List.map_eq_nil_iff] at h
    exact absurd h (spl_ne c _)
  · exact ⟨r, b, by rw [h, List.concat_eq_append]⟩
end Go.Proofs.YtoheahbkopbmhaaDoor
