/- The walks through ReadStrikes, both sides. -/
import Derived.Test.YtmlhdchglhkhiaaDoorP21s
import Derived.Test.YtmlhdchglhkhiaaDoorW21t
import Derived.Test.YtmlhdchglhkhiaaDoorP21c
import Derived.Test.YtmlhdchglhkhiaaDoorShelfs
namespace Go.Proofs.YtmlhdchglhkhiaaDoor
set_option linter.unusedVariables false
set_option linter.unusedSimpArgs false
open Go.ChangeShapes Go.WideShapes Go.ChangeAt Go.RowKit Go.Deep
theorem lit_strs (w : World) (t : TypeId) (l : List ByteArray) : Strs (w.alloc (.cells ⟨l.map Value.string⟩ t)) (some ⟨w.heap.size, 0, none⟩) l := by
  refine ⟨strE_len, by rw [flatMap_len strE_len], fun hn => ⟨w.heap.size, 0, rfl, by simp, fun j u hu => ?_⟩⟩
  have h := Box.new w (l.map Value.string) t
  rw [Nat.zero_add]
  refine h j u ?_
  rw [← hu]
  congr 1
  exact (flatMap_one Value.string l).symm
theorem strs_front {w : World} {b o : Nat} {ps : List ByteArray} {z : ByteArray} (h : Strs w (some ⟨b, o, none⟩) (ps ++ [z])) : Strs w (some ⟨b, o, none⟩) ps := by
  have h1 := Recs.sub h (i := 0) (n := ps.length) (by simp)
  simpa using h1
theorem pieces_len {c : UInt8} {s : ByteArray} : (splB c s).length ≤ s.size + 2 := by
  rw [(splB_lib c s).2]
  have := Lib.count_le s.data.toList (⟨#[c]⟩ : ByteArray).data.toList
  have e : s.data.toList.length = s.size := rfl
  show Lib.count s.data.toList _ + 1 ≤ _
  omega
theorem Recs.grown {α : Type} {e : α → List Value} {s b o : Nat} {w w' : World} {l : List α} {row : Option Nat} (h : Recs e s w (some ⟨b, o, none⟩) l) (hg : w.grownBy w' row) (hne : some b ≠ row) : Recs e s w' (some ⟨b, o, none⟩) l := by
  refine ⟨h.1, h.2.1, fun hn => ?_⟩
  obtain ⟨b', o', hA, hb, hc⟩ := h.2.2 hn
  injection hA with hA
  injection hA with e1 e2 _
  subst e1 e2
  exact ⟨b, o, rfl, Nat.lt_of_lt_of_le hb hg.size, fun j u hu => (hg.cell_far ⟨b, o + j, none⟩ hb hne).trans (hc j u hu)⟩
set_option maxHeartbeats 1000000 in
set_option maxRecDepth 100000 in
theorem impl_linesOf {s z : ByteArray} {ps : List ByteArray} {m : Int} {w : World} (hz : s.size ≤ 1048576) (hm : w.cell? ⟨0, 0, none⟩ = some (.int .i64 m)) (hps : splB 10 s = ps ++ [z]) :
    Calls Tryd.prog 46 #[.string s] w fun e w' => e = .returned (.tuple #[.slice (some ⟨w.heap.size, 0, none⟩) ps.length (ps.length + 1), .bool z.toList.isEmpty]) ∧ Strs w' (some ⟨w.heap.size, 0, none⟩) ps ∧ Below w.heap.size w w' ∧ w.heap.size < w'.heap.size := by
  have hl := splB_lib 10 s
  have hpl := pieces_len (c := 10) (s := s)
  rw [hps, List.length_append, List.length_singleton] at hl hpl
  have HC := Lib.hid (show Lib.countB s ⟨#[10]⟩ = ps.length by omega)
  have HS := Lib.hid hl.1
  have hb1 : Below w.heap.size w (w.alloc (.cells ⟨(ps ++ [z]).map Value.string⟩ 9)) := by (repeat' (first | (with_reducible exact Below.refl _ _) | (with_reducible assumption) | (with_reducible refine below_drewN ?_ _) | (with_reducible refine Below.drew ?_) | (with_reducible refine below_alloc ?_ _) | (with_reducible refine Below.alloc ?_ ?_ _) | (with_reducible refine Below.setCell ?_ ?_ _) | (with_reducible refine below_go ?_ (by with_reducible assumption)) | (with_reducible refine below_then (by with_reducible assumption) ?_ ?_) | go_size))
  have HR := Lib.hid (lit_strs w 9 (ps ++ [z]))
  have hn : ps.length ≤ 1048578 := by omega
  clear hl hpl hps
  go_in
  go_wp2_with fail
  refine (Tryd.strings_Split s { data := #[10] } m w (by omega) hm (by decide)).mono ?_
  rw [HC.out, show Lib.splitB { data := #[10] } 0 ps.length s = ps ++ [z] by rw [← HC.out]; exact HS.out]
  rintro e w1 ⟨rfl, hw1⟩
  have hw1' : w1 = w.alloc (.cells ⟨(ps ++ [z]).map Value.string⟩ 9) := hw1
  have hlt1 : w.heap.size < w1.heap.size := by rw [hw1']; simp
  rw [← hw1'] at hb1 HR
  clear hw1 hw1'
  obtain ⟨b3, o3, y, hA, hbb, hy, hcy⟩ := HR.out.at_str (k := ps.length) (by simp)
  injection hA with hA
  injection hA with e1 e2 _
  subst e1 e2
  have hyz : y = z := by
    rw [List.getElem?_append_right (Nat.le_refl _), Nat.sub_self] at hy
    injection hy with hy
    exact hy.symm
  subst hyz
  simp only [Nat.zero_add] at hcy
  clear hy hbb
  have hw : IntKind.i64.wrap ((ps.length : Int) + 1 - 1) = (ps.length : Int) := by rw [wrap_id (by omega)]; omega
  have hw2 : (((ps.length + 1 : Nat) : Int)) = (ps.length : Int) + 1 := by omega
  have hI : (ps.length : Int) ≤ (ps.length : Int) + 1 := by omega
  have hJ : (ps.length : Int) < (ps.length : Int) + 1 := by omega
  go_wp2
  go_quiet (fail)
  go_wp2
  go_ret2
  exact ⟨rfl, (strs_front HR.out).up (below_drewN (Below.refl _ _) _), below_drewN hb1 _, hlt1⟩
theorem flat_concat {L : List (Int × Int)} {ps : List ByteArray} {k : Nat} {y : ByteArray} {x : Int × Int} (hL : (ps.take k).map (·.data.toList) = L.map lnT) (hy : ps[k]? = some y) (hx : y.data.toList = lnT x) : (ps.take (k + 1)).map (·.data.toList) = (L ++ [x]).map lnT := by
  rw [take_succ_some hy, List.map_append, List.map_append, hL, List.map_cons, List.map_nil, List.map_cons, List.map_nil, hx]
set_option maxHeartbeats 2000000 in
set_option maxRecDepth 100000 in
theorem impl_ReadStrikes_yes {s : ByteArray} {m : Int} {l : List (Int × Int)} {w : World} (hz : s.size ≤ 1048576) (hm : w.cell? ⟨0, 0, none⟩ = some (.int .i64 m)) (hmw : 0 < w.heap.size) (hh : hitS s l) :
    Calls Tryd.prog 20 #[.string s] w fun e w' => ∃ A' c', e = .returned (.tuple #[.slice A' l.length c', .bool true]) ∧ Owned strikeE 2 57 w' w.heap.size A' l.length c' l ∧ Below w.heap.size w w' := by
  have hp := hit_pieces hh
  have HG := Lib.hid hh.1
  have HST := Lib.hid (goodStrikes_t hh.1).2
  have hl2 := (goodStrikes_t hh.1).1
  have HM := Lib.hid (fun (u : World) (hu : Below w.heap.size w u) => (hu.cell (p := ⟨0, 0, none⟩) hmw).trans hm)
  have hlen : (l.map lnB).length = l.length := List.length_map _
  go_in
  go_wp2_with fail
  refine (impl_linesOf hz hm hp).mono ?_
  rw [hlen]
  rintro e w1 ⟨rfl, hR, hb1, hlt1⟩
  have HR := Lib.hid hR
  have hem : ({ data := #[] } : ByteArray).toList.isEmpty = true := by simp [ByteArray.toList_eq]
  rw [hem]
  have hI : ¬ (2000 : Int) < (l.length : Int) := by omega
  have HE := Lib.hid (Owned.empty (E := 57) (base := w.heap.size + 1) strikeE_len w1 hlt1)
  clear hp hh hm hlen hem hR
  go_wp2
  go_loopw [6, 31] (fun v i wr => ∃ (k : Nat) (A' : Option Addr) (c' : Nat), k ≤ l.length ∧ i = .int .i64 k ∧ v = .slice A' k c' ∧ Hid (Owned strikeE 2 57 wr (w.heap.size + 1) A' k c' (l.take k)) ∧ w.heap.size < wr.heap.size ∧ Hid (Strs wr (some ⟨w.heap.size, 0, none⟩) (l.map lnB)) ∧ Below w.heap.size w wr) (fun _ i _ => l.length - (intOf i).toNat)
  case atStart => exact ⟨0, _, _, Nat.zero_le _, rfl, rfl, HE, by (simp; omega), Lib.hid (HR.out.alloc _), by (repeat' (first | (with_reducible exact Below.refl _ _) | (with_reducible assumption) | (with_reducible refine below_drewN ?_ _) | (with_reducible refine Below.drew ?_) | (with_reducible refine below_alloc ?_ _) | (with_reducible refine Below.alloc ?_ ?_ _) | (with_reducible refine Below.setCell ?_ ?_ _) | (with_reducible refine below_go ?_ (by with_reducible assumption)) | (with_reducible refine below_then (by with_reducible assumption) ?_ ?_) | go_size))⟩
  case round =>
    obtain ⟨k, A1, c1, hk, rfl, rfl, HO, hszr, HR, hbr⟩ := hrel
    rename World => wr
    by_cases hlt : k < l.length
    · obtain ⟨⟨p, q⟩, hx⟩ := some_of_lt hlt
      have hxb := HST.out _ (List.mem_of_getElem? hx)
      dsimp only at hxb
      obtain ⟨a, rfl⟩ : ∃ a : Nat, p = (a : Int) := ⟨p.toNat, by omega⟩
      obtain ⟨b, rfl⟩ : ∃ b : Nat, q = (b : Int) := ⟨q.toNat, by omega⟩
      obtain ⟨b3, o3, y, hA, hbb, hy, hcy⟩ := HR.out.at_str (k := k) (by rw [List.length_map]; exact hlt)
      injection hA with hA
      injection hA with e1 e2 _
      subst e1 e2
      have hyl : y = lnB ((a : Int), (b : Int)) := by
        rw [List.getElem?_map, hx] at hy
        injection hy with hy
        exact hy.symm
      have HCT := Lib.hid (show Lib.cut y.data.toList (⟨#[64]⟩ : ByteArray).data.toList = (Lib.decDigits a, Lib.decDigits b, true) by rw [hyl]; exact cut_line _)
      have hys : y.size ≤ 16777216 := by
        rw [hyl]
        have d1 := dec_len1 (a := a) (by omega); have d2 := dec_len7 (b := b) (by omega)
        have : (lnB ((a : Int), (b : Int))).size = (lnT ((a : Int), (b : Int))).length := by simp [lnB, ByteArray.size]
        rw [this, lnT, List.length_append, List.length_cons]
        show (Lib.decDigits a).length + ((Lib.decDigits b).length + 1) ≤ _
        omega
      have hn1 := num_dec (a := a) (most := 1) (by rw [dec_len1 (by omega)]; decide)
      have hn2 := num_dec (a := b) (most := 7) (by have := dec_len7 (b := b) (by omega); omega)
      have hs1 : (⟨(Lib.decDigits a).toArray⟩ : ByteArray).size ≤ 16777216 := by
        have := dec_len1 (a := a) (by omega)
        have e : (⟨(Lib.decDigits a).toArray⟩ : ByteArray).size = (Lib.decDigits a).length := by simp [ByteArray.size]
        omega
      have hs2 : (⟨(Lib.decDigits b).toArray⟩ : ByteArray).size ≤ 16777216 := by
        have := dec_len7 (b := b) (by omega)
        have e : (⟨(Lib.decDigits b).toArray⟩ : ByteArray).size = (Lib.decDigits b).length := by simp [ByteArray.size]
        omega
      have HT := Lib.hid (show l.take (k + 1) = l.take k ++ [((a : Int), (b : Int))] from take_succ_some hx)
      have HN1 := Lib.hid hn1; have HN2 := Lib.hid hn2
      clear hx hy hyl hn1 hn2
      simp only [Nat.zero_add] at hcy
      go_wp2_with fail
      refine (Tryd.strings_Cut y { data := #[64] } m wr (by omega) (HM.out _ hbr)).mono ?_
      rw [HCT.out]; rintro e w2 ⟨rfl, nq, hw2⟩
      have hb2 : Below wr.heap.size wr w2 := by rw [hw2]; exact below_drewN (Below.refl _ _) _
      clear hw2
      have hB8 := below_go hbr hb2
      have HO8 := Lib.hid (HO.out.up hb2)
      have HR8 := Lib.hid (HR.out.up hb2)
      have hs8 : w.heap.size < w2.heap.size := by have := hb2.size; omega
      go_wp2_with fail
      refine (impl_number hs1 (by decide)).mono ?_; rw [HN1.out.1, HN1.out.2]; rintro e w' ⟨rfl, rfl⟩
      go_wp2_with fail
      refine (impl_number hs2 (by decide)).mono ?_; rw [HN2.out.1, HN2.out.2]; rintro e w' ⟨rfl, rfl⟩
      have HAL := Lib.hid (HR8.out.alloc (.cells ⟨strikeE ((a : Int), (b : Int))⟩ 57))
      go_wp2_with (first | (at_builtin; go_must ((refine wpList_append_recs Tryd.elStrike strikeE_one rfl (.tmp 61) (.tmp 65) rfl rfl (HO8.out.alloc _) rfl (own_lit1_at' strikeE_len _ 57 ((a : Int), (b : Int)) rfl (Nat.le_refl _)).recs rfl ?_ (by decide) ?_ ?_; (focus (first | omega | (simp only [World.size_alloc]; done) | (simp only [World.size_alloc]; omega) | (simp; done) | (simp; omega))); (simp; omega); intro A3 c3 w6 ho6 hg6 hl6; have hb6 : Below w.heap.size w w6 := (hB8.alloc hB8.size _).trans (grown_base hg6 (by simp; omega) (fun z hz => by have := (HO8.out.range z hz).1; omega))))))
      have HR9 := Lib.hid (HAL.out.grown hg6 (fun e => by have := (HO8.out.blk e.symm).1; omega))
      have hs9 : w.heap.size < w6.heap.size := by have := hg6.size; simp at this; omega
      go_roundw
      case rel => exact ⟨k + 1, A3, c3, by omega, by go_num, by go_num, Lib.hid (by rw [HT.out]; exact ho6), hs9, HR9, hb6⟩
      case measure => simp [intOf]; omega
    · obtain rfl : k = l.length := by omega
      have hOl : l.take l.length = l := List.take_length
      have HOL := Lib.hid (show Owned strikeE 2 57 wr w.heap.size A1 l.length c1 l by have := HO.out; rw [hOl] at this; exact this.base_le (by omega))
      go_wp2_with fail
      refine (impl_GoodStrikes rfl HOL.out.recs (by omega)).mono ?_; rw [HG.out]; rintro e w2 ⟨rfl, hb2⟩
      go_wp2
      go_ret2
      exact ⟨_, _, rfl, HOL.out.up hb2, below_go hbr hb2⟩
theorem cut_len (y c : List UInt8) : (Lib.cut y c).1.length ≤ y.length ∧ (Lib.cut y c).2.1.length ≤ y.length := by
  rw [Lib.cut]
  split
  · exact ⟨by rw [List.length_take]; omega, by rw [List.length_drop]; omega⟩
  · exact ⟨Nat.le_refl _, by simp⟩
theorem arr_size (l : List UInt8) : (⟨l.toArray⟩ : ByteArray).size = l.length := by simp [ByteArray.size]
theorem spl_last_one (c : UInt8) (s : ByteArray) : ∃ ps z, splB c s = ps ++ [z] := by
  rcases List.eq_nil_or_concat (splB c s) with h | ⟨r, b, h⟩
  · rw [splB, List.map_eq_nil_iff] at h
    exact absurd h (spl_ne c _)
  · exact ⟨r, b, by rw [h, List.concat_eq_append]⟩
set_option maxHeartbeats 2000000 in
set_option maxRecDepth 100000 in
theorem impl_ReadStrikes_no {s : ByteArray} {m : Int} {w : World} (hz : s.size ≤ 1048576) (hm : w.cell? ⟨0, 0, none⟩ = some (.int .i64 m)) (hmw : 0 < w.heap.size) (hno : ¬ ∃ l, hitS s l) :
    Calls Tryd.prog 20 #[.string s] w fun e w' => e = .returned (.tuple #[.slice none 0 0, .bool false]) ∧ Below w.heap.size w w' := by
  obtain ⟨ps, z, hp⟩ := spl_last_one 10 s
  have HP := Lib.hid hp
  have HNO := Lib.hid hno
  have HM := Lib.hid (fun (u : World) (hu : Below w.heap.size w u) => (hu.cell (p := ⟨0, 0, none⟩) hmw).trans hm)
  have HSZ := Lib.hid (fun (x : ByteArray) (hx : x ∈ ps) => show x.size ≤ 1048576 from Nat.le_trans (splB_size (c := 10) s x (by rw [hp]; exact List.mem_append_left _ hx)) hz)
  have hpl := pieces_len (c := 10) (s := s)
  rw [hp, List.length_append, List.length_singleton] at hpl
  go_in
  go_wp2_with fail
  refine (impl_linesOf hz hm hp).mono ?_
  rintro e w1 ⟨rfl, hR, hb1, hlt1⟩
  have HR := Lib.hid hR
  clear hp hno hm hR
  rcases hze : z.toList.isEmpty
  · go_wp2
    go_ret2
    exact ⟨rfl, hb1⟩
  have HZE := Lib.hid hze
  by_cases h2 : (2000 : Int) < (ps.length : Int)
  · clear hze
    go_wp2
    go_ret2
    exact ⟨rfl, hb1⟩
  have HE := Lib.hid (Owned.empty (E := 57) (base := w.heap.size + 1) strikeE_len w1 hlt1)
  clear hze
  go_wp2
  go_loopw [6, 31] (fun v i wr => ∃ (k : Nat) (A' : Option Addr) (c' : Nat) (L : List (Int × Int)), k ≤ ps.length ∧ i = .int .i64 k ∧ v = .slice A' k c' ∧ Hid (Owned strikeE 2 57 wr (w.heap.size + 1) A' k c' L) ∧ Hid ((ps.take k).map (·.data.toList) = L.map lnT) ∧ w.heap.size < wr.heap.size ∧ Hid (Strs wr (some ⟨w.heap.size, 0, none⟩) ps) ∧ Below w.heap.size w wr) (fun _ i _ => ps.length - (intOf i).toNat)
  case atStart => exact ⟨0, _, _, [], Nat.zero_le _, rfl, rfl, HE, Lib.hid rfl, by (simp; omega), Lib.hid (HR.out.alloc _), by (repeat' (first | (with_reducible exact Below.refl _ _) | (with_reducible assumption) | (with_reducible refine below_drewN ?_ _) | (with_reducible refine Below.drew ?_) | (with_reducible refine below_alloc ?_ _) | (with_reducible refine Below.alloc ?_ ?_ _) | (with_reducible refine Below.setCell ?_ ?_ _) | (with_reducible refine below_go ?_ (by with_reducible assumption)) | (with_reducible refine below_then (by with_reducible assumption) ?_ ?_) | go_size))⟩
  case round =>
    obtain ⟨k, A1, c1, L, hk, rfl, rfl, HO, HL, hszr, HR, hbr⟩ := hrel
    rename World => wr
    by_cases hlt : k < ps.length
    · obtain ⟨b3, o3, y, hA, hbb, hy, hcy⟩ := HR.out.at_str hlt
      injection hA with hA
      injection hA with e1 e2 _
      subst e1 e2
      have hys := HSZ.out y (List.mem_of_getElem? hy)
      have HY := Lib.hid hy
      obtain ⟨P, hP⟩ : ∃ P, P = (Lib.cut y.data.toList (⟨#[64]⟩ : ByteArray).data.toList).1 := ⟨_, rfl⟩
      obtain ⟨Q, hQ⟩ : ∃ Q, Q = (Lib.cut y.data.toList (⟨#[64]⟩ : ByteArray).data.toList).2.1 := ⟨_, rfl⟩
      obtain ⟨f, hf⟩ : ∃ f, f = (Lib.cut y.data.toList (⟨#[64]⟩ : ByteArray).data.toList).2.2 := ⟨_, rfl⟩
      have HBK := Lib.hid (show f = true → y.data.toList = P ++ 64 :: Q from fun h => by rw [hP, hQ]; exact cut_back (by rw [← h, hf]))
      have hyl : y.data.toList.length = y.size := rfl
      have hPl : P.length ≤ 1048576 := by have := (cut_len y.data.toList (⟨#[64]⟩ : ByteArray).data.toList).1; rw [← hP] at this; omega
      have hQl : Q.length ≤ 1048576 := by have := (cut_len y.data.toList (⟨#[64]⟩ : ByteArray).data.toList).2; rw [← hQ] at this; omega
      have hs1 : (⟨P.toArray⟩ : ByteArray).size ≤ 16777216 := by rw [arr_size]; omega
      have hs2 : (⟨Q.toArray⟩ : ByteArray).size ≤ 16777216 := by rw [arr_size]; omega
      have HC := Lib.hid (And.intro hP (And.intro hQ hf))
      clear hy hP hQ hf hyl
      simp only [Nat.zero_add] at hcy
      go_wp2_with fail
      refine (Tryd.strings_Cut y { data := #[64] } m wr (by omega) (HM.out _ hbr)).mono ?_
      rw [← HC.out.1, ← HC.out.2.1, ← HC.out.2.2]; rintro e w2 ⟨rfl, nq, hw2⟩
      have hb2 : Below wr.heap.size wr w2 := by rw [hw2]; exact below_drewN (Below.refl _ _) _
      clear hw2
      have hB8 := below_go hbr hb2
      have HO8 := Lib.hid (HO.out.up hb2)
      have HR8 := Lib.hid (HR.out.up hb2)
      have hs8 : w.heap.size < w2.heap.size := by have := hb2.size; omega
      go_wp2_with fail
      refine (impl_number hs1 (by decide)).mono ?_; rintro e w' ⟨rfl, rfl⟩
      obtain ⟨v1, hv1⟩ : ∃ v, v = numV ⟨P.toArray⟩ 1 := ⟨_, rfl⟩
      obtain ⟨n1, hn1⟩ : ∃ v, v = numOk ⟨P.toArray⟩ 1 := ⟨_, rfl⟩
      rw [← hv1, ← hn1]
      have HV1 := Lib.hid hv1; have HN1 := Lib.hid hn1
      clear hv1 hn1
      go_wp2_with fail
      refine (impl_number hs2 (by decide)).mono ?_; rintro e w' ⟨rfl, rfl⟩
      obtain ⟨v2, hv2⟩ : ∃ v, v = numV ⟨Q.toArray⟩ 7 := ⟨_, rfl⟩
      obtain ⟨n2, hn2⟩ : ∃ v, v = numOk ⟨Q.toArray⟩ 7 := ⟨_, rfl⟩
      rw [← hv2, ← hn2]
      have HV2 := Lib.hid hv2; have HN2 := Lib.hid hn2
      clear hv2 hn2
      rcases f
      · go_wp2
        go_ret2
        exact ⟨rfl, hB8⟩
      rcases n1
      · go_wp2
        go_ret2
        exact ⟨rfl, hB8⟩
      rcases n2
      · go_wp2
        go_ret2
        exact ⟨rfl, hB8⟩
      have HL2 := Lib.hid (show (ps.take (k + 1)).map (·.data.toList) = (L ++ [(v1, v2)]).map lnT from flat_concat HL.out HY.out (by
        have q1 := (numV_bd HN1.out.symm (by decide)).2.2
        have q2 := (numV_bd HN2.out.symm (by decide)).2.2
        rw [← HV1.out] at q1
        rw [← HV2.out] at q2
        rw [HBK.out rfl]
        show _ = Lib.decDigits v1.toNat ++ 64 :: Lib.decDigits v2.toNat
        rw [q1, q2]))
      have HAL := Lib.hid (HR8.out.alloc (.cells ⟨strikeE (v1, v2)⟩ 57))
      go_wp2_with (first | (at_builtin; go_must ((refine wpList_append_recs Tryd.elStrike strikeE_one rfl (.tmp 61) (.tmp 65) rfl rfl (HO8.out.alloc _) rfl (own_lit1_at' strikeE_len _ 57 (v1, v2) rfl (Nat.le_refl _)).recs rfl ?_ (by decide) ?_ ?_; (focus (first | omega | (simp only [World.size_alloc]; done) | (simp only [World.size_alloc]; omega) | (simp; done) | (simp; omega))); (simp; omega); intro A3 c3 w6 ho6 hg6 hl6; have hb6 : Below w.heap.size w w6 := (hB8.alloc hB8.size _).trans (grown_base hg6 (by simp; omega) (fun z hz => by have := (HO8.out.range z hz).1; omega))))))
      have HR9 := Lib.hid (HAL.out.grown hg6 (fun e => by have := (HO8.out.blk e.symm).1; omega))
      have hs9 : w.heap.size < w6.heap.size := by have := hg6.size; simp at this; omega
      go_roundw
      case rel => exact ⟨k + 1, A3, c3, L ++ [(v1, v2)], by omega, by go_num, by go_num, Lib.hid ho6, HL2, hs9, HR9, hb6⟩
      case measure => simp [intOf]; omega
    · obtain rfl : k = ps.length := by omega
      have hLl := HO.out.len
      rcases hg : goodStrikes L
      · have HG := Lib.hid hg
        go_wp2_with fail
        refine (impl_GoodStrikes hLl HO.out.recs (by omega)).mono ?_; rw [HG.out]; rintro e w2 ⟨rfl, hb2⟩
        go_wp2
        go_ret2
        exact ⟨rfl, below_go hbr hb2⟩
      · exact absurd ⟨L, text_of_lines HP.out HZE.out (by have := HL.out; rwa [List.take_length] at this) hg⟩ HNO.out
theorem impl_ReadStrikes {s : ByteArray} {m : Int} {w : World} (hz : s.size ≤ 1048576) (hm : w.cell? ⟨0, 0, none⟩ = some (.int .i64 m)) (hmw : 0 < w.heap.size) :
    Calls Tryd.prog 20 #[.string s] w fun e w' => ∃ A' c', e = .returned (.tuple #[.slice A' (rsR s).length c', .bool (rsOk s)]) ∧ Owned strikeE 2 57 w' w.heap.size A' (rsR s).length c' (rsR s) ∧ (rsR s).length ≤ 16777216 ∧ Below w.heap.size w w' := by
  by_cases h : ∃ l, hitS s l
  · obtain ⟨l, hl⟩ := h
    have e := rs_yes hl
    have h2 := (goodStrikes_t hl.1).1
    rw [e.1, e.2]
    refine (impl_ReadStrikes_yes hz hm hmw hl).mono ?_
    rintro _ w' ⟨A', c', rfl, ho, hb⟩
    exact ⟨A', c', rfl, ho, by omega, hb⟩
  · have e := rs_no h
    rw [e.1, e.2]
    refine (impl_ReadStrikes_no hz hm hmw h).mono ?_
    rintro _ w' ⟨rfl, hb⟩
    exact ⟨none, 0, rfl, Owned.nil strikeE_len _ _ _, by decide, hb⟩
end Go.Proofs.YtmlhdchglhkhiaaDoor
