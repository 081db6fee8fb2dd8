/- The walks through shifting, choosing and clipping lists of strikes, both sides. -/
import Derived.Test.YtnoipbldgondiaaW21s
namespace Go.Proofs.Ytnoipbldgondiaa
set_option linter.unusedVariables false
set_option linter.unusedSimpArgs false
open Go.ChangeShapes Go.WideShapes Go.ChangeAt Go.RowKit Go.Deep

set_option maxRecDepth 100000 in
theorem impl_ShiftStrikes {A : Option Addr} {n c : Nat} {l : List (Int × Int)} {d : Int} {w : World} (hn : l.length = n) (h : Recs strikeE 2 w A l) (hz : n ≤ 16777216) :
    Calls Try.prog 18 #[.slice A n c, .int .i64 d] w fun e w' => ∃ A' c', e = .returned (.tuple #[.slice A' (shiftR l d).length c', .bool (shiftOk l d)]) ∧
      Owned strikeE 2 86 w' w.heap.size A' (shiftR l d).length c' (shiftR l d) ∧ (shiftR l d).length ≤ 16777216 ∧ Below w.heap.size w w' := by
  have HL := Lib.hid (shift_len (l := l) (d := d))
  have E : Hid (shiftOk l d = (goodStrikes l && inB d (-1000000) 1000000 && goodStrikes (l.map fun s => (s.1, s.2 + d)))) := rfl
  rcases h1 : goodStrikes l
  · have e0 : shiftOk l d = false := by rw [E.out, h1]; rfl
    rw [shiftR_f e0, e0]
    go_in
    go_wp2_with (first | (go_at_call 70; refine (impl_GoodStrikes hn h hz).mono ?_; rintro e w1 ⟨rfl, hb1⟩))
    go_ret2
    exact ⟨none, 0, rfl, Owned.nil strikeE_len _ _ _, by decide, hb1⟩
  rcases h2 : inB d (-1000000) 1000000
  · have e0 : shiftOk l d = false := by rw [E.out, h1, h2]; rfl
    rw [shiftR_f e0, e0]
    go_in
    go_wp2_with (first | (go_at_call 70; refine (impl_GoodStrikes hn h hz).mono ?_; rintro e w1 ⟨rfl, hb1⟩) | (go_at_call 71; refine (impl_within _ _ _ _).mono ?_; rintro e w' ⟨rfl, rfl⟩))
    go_ret2
    exact ⟨none, 0, rfl, Owned.nil strikeE_len _ _ _, by decide, hb1⟩
  subst hn
  obtain ⟨hlen, hbd⟩ := goodStrikes_t h1
  have hd := inB_t h2
  have HB := Lib.hid hbd
  clear hbd
  go_in
  go_wp2_with (first | (go_at_call 70; refine (impl_GoodStrikes rfl h hz).mono ?_; rintro e w1 ⟨rfl, hb1⟩) | (go_at_call 71; refine (impl_within _ _ _ _).mono ?_; rintro e w' ⟨rfl, rfl⟩))
  go_loopw [6, 20] (fun v i wr => ∃ (k : Nat) (A' : Option Addr) (c' : Nat), k ≤ l.length ∧ i = .int .i64 k ∧ v = .slice A' k c' ∧ Owned strikeE 2 86 wr w.heap.size A' k c' ((l.take k).map fun s => (s.1, s.2 + d)) ∧ Below w.heap.size w wr) (fun _ i _ => l.length - (intOf i).toNat)
  case atStart => exact ⟨0, _, _, Nat.zero_le _, rfl, rfl, Owned.empty strikeE_len _ _ hb1.size, by (repeat' (first | (with_reducible exact Below.refl _ _) | (with_reducible assumption) | (with_reducible refine below_drewN ?_ _) | (with_reducible refine Below.drew ?_) | (with_reducible refine below_alloc ?_ _) | (with_reducible refine Below.alloc ?_ ?_ _) | (with_reducible refine Below.setCell ?_ ?_ _) | (with_reducible refine below_go ?_ (by with_reducible assumption)) | (with_reducible refine below_then (by with_reducible assumption) ?_ ?_) | go_size))⟩
  case round =>
    obtain ⟨k, A', c', hk, rfl, rfl, ho, hb⟩ := hrel
    by_cases hlt : k < l.length
    · obtain ⟨x, hx⟩ := some_of_lt hlt
      have hxb := HB.out x (List.mem_of_getElem? hx)
      obtain ⟨b1, o1, rfl, hbb, hc0, hc1⟩ := (h.below hb (Nat.le_refl _)).at_2 hx
      have HX := Lib.hid hx
      have HO := Lib.hid ho
      have hsz := hb.size
      clear hx ho h
      go_wp2_with (first | (at_builtin; go_must ((refine wpList_append_rec Try.elStrike rfl (.tmp 24) (.tmp 32) rfl rfl ((HO.out.alloc _).alloc _) (x.1, x.2 + d) rfl (Box.at_ _ [.int .i64 x.1, .int .i64 (x.2 + d)] _ ?_) (strikeE_one _) ?_ (by decide) ?_ ?_; (focus (first | omega | (simp only [World.size_alloc]; done) | (simp only [World.size_alloc]; omega) | (simp; done) | (simp; omega))); (focus (first | omega | (simp only [World.size_alloc]; done) | (simp only [World.size_alloc]; omega) | (simp; done) | (simp; omega))); (focus (first | omega | (simp only [World.size_alloc]; done) | (simp only [World.size_alloc]; omega) | (simp; done) | (simp; omega))); intro A2 c2 w2 ho2 hg2 hb2))))
      go_roundw
      case rel =>
        refine ⟨k + 1, A2, c2, by omega, by go_num, by go_num, ?_, ?_⟩
        · rw [take_succ_some HX.out, List.map_append]; exact ho2
        · exact ((hb.alloc hsz _).alloc (by simp; omega) _).trans hb2
      case measure => simp [intOf]; omega
    · obtain rfl : k = l.length := by omega
      rw [List.take_of_length_le (Nat.le_refl _)] at ho
      rcases h3 : goodStrikes (l.map fun s => (s.1, s.2 + d))
      · have e0 := Lib.hid (show shiftOk l d = false by rw [E.out, h1, h2, h3]; rfl)
        go_wp2_with (first | (go_at_call 70; refine (impl_GoodStrikes (by simp) ho.recs (by omega)).mono ?_; rintro e w2 ⟨rfl, hb2⟩))
        go_ret2
        rw [shiftR_f e0.out, e0.out]
        exact ⟨none, 0, rfl, Owned.nil strikeE_len _ _ _, by decide, below_go hb hb2⟩
      · have e0 := Lib.hid (show shiftOk l d = true by rw [E.out, h1, h2, h3]; rfl)
        have e1 := Lib.hid (show (shiftR l d).length = l.length by rw [shiftR_t e0.out, List.length_map])
        go_wp2_with (first | (go_at_call 70; refine (impl_GoodStrikes (by simp) ho.recs (by omega)).mono ?_; rintro e w2 ⟨rfl, hb2⟩))
        go_ret2
        rw [e1.out, e0.out, shiftR_t e0.out]
        exact ⟨_, _, rfl, ho.up hb2, by omega, below_go hb hb2⟩
set_option maxRecDepth 100000 in
theorem spec_ShiftStrikes {A : Option Addr} {n c : Nat} {l : List (Int × Int)} {d : Int} {w : World} (hn : l.length = n) (h : Recs strikeE 2 w A l) (hz : n ≤ 16777216) :
    Calls Try.prog 16 #[.slice A n c, .int .i64 d] w fun e w' => ∃ A' c', e = .returned (.tuple #[.slice A' (shiftR l d).length c', .bool (shiftOk l d)]) ∧
      Owned strikeE 2 86 w' w.heap.size A' (shiftR l d).length c' (shiftR l d) ∧ (shiftR l d).length ≤ 16777216 ∧ Below w.heap.size w w' := by
  have HL := Lib.hid (shift_len (l := l) (d := d))
  have E : Hid (shiftOk l d = (goodStrikes l && inB d (-1000000) 1000000 && goodStrikes (l.map fun s => (s.1, s.2 + d)))) := rfl
  rcases h1 : goodStrikes l
  · have e0 : shiftOk l d = false := by rw [E.out, h1]; rfl
    rw [shiftR_f e0, e0]
    go_in
    go_wp2_with (first | (go_at_call 67; refine (spec_l21Good hn h hz).mono ?_; rintro e w1 ⟨rfl, hb1⟩))
    go_ret2
    exact ⟨none, 0, rfl, Owned.nil strikeE_len _ _ _, by decide, hb1⟩
  rcases h2 : inB d (-1000000) 1000000
  · have e0 : shiftOk l d = false := by rw [E.out, h1, h2]; rfl
    rw [shiftR_f e0, e0]
    go_in
    go_wp2_with (first | (go_at_call 67; refine (spec_l21Good hn h hz).mono ?_; rintro e w1 ⟨rfl, hb1⟩) | (go_at_call 68; refine (spec_l1In _ _ _ _).mono ?_; rintro e w' ⟨rfl, rfl⟩))
    go_ret2
    exact ⟨none, 0, rfl, Owned.nil strikeE_len _ _ _, by decide, hb1⟩
  subst hn
  obtain ⟨hlen, hbd⟩ := goodStrikes_t h1
  have hd := inB_t h2
  have HB := Lib.hid hbd
  clear hbd
  go_in
  go_wp2_with (first | (go_at_call 67; refine (spec_l21Good rfl h hz).mono ?_; rintro e w1 ⟨rfl, hb1⟩) | (go_at_call 68; refine (spec_l1In _ _ _ _).mono ?_; rintro e w' ⟨rfl, rfl⟩))
  go_loopw [6, 19] (fun v i wr => ∃ (k : Nat) (A' : Option Addr) (c' : Nat), k ≤ l.length ∧ i = .int .i64 k ∧ v = .slice A' k c' ∧ Owned strikeE 2 86 wr w.heap.size A' k c' ((l.take k).map fun s => (s.1, s.2 + d)) ∧ Below w.heap.size w wr) (fun _ i _ => l.length - (intOf i).toNat)
  case atStart => exact ⟨0, _, _, Nat.zero_le _, rfl, rfl, Owned.nil strikeE_len _ _ _, by (repeat' (first | (with_reducible exact Below.refl _ _) | (with_reducible assumption) | (with_reducible refine below_drewN ?_ _) | (with_reducible refine Below.drew ?_) | (with_reducible refine below_alloc ?_ _) | (with_reducible refine Below.alloc ?_ ?_ _) | (with_reducible refine Below.setCell ?_ ?_ _) | (with_reducible refine below_go ?_ (by with_reducible assumption)) | (with_reducible refine below_then (by with_reducible assumption) ?_ ?_) | go_size))⟩
  case round =>
    obtain ⟨k, A', c', hk, rfl, rfl, ho, hb⟩ := hrel
    by_cases hlt : k < l.length
    · obtain ⟨x, hx⟩ := some_of_lt hlt
      have hxb := HB.out x (List.mem_of_getElem? hx)
      obtain ⟨b1, o1, rfl, hbb, hc0, hc1⟩ := (h.below hb (Nat.le_refl _)).at_2 hx
      have HX := Lib.hid hx
      have HO := Lib.hid ho
      have hsz := hb.size
      clear hx ho h
      go_wp2_with (first | (at_builtin; go_must ((refine wpList_append_rec Try.elStrike rfl (.tmp 23) (.tmp 31) rfl rfl ((HO.out.alloc _).alloc _) (x.1, x.2 + d) rfl (Box.at_ _ [.int .i64 x.1, .int .i64 (x.2 + d)] _ ?_) (strikeE_one _) ?_ (by decide) ?_ ?_; (focus (first | omega | (simp only [World.size_alloc]; done) | (simp only [World.size_alloc]; omega) | (simp; done) | (simp; omega))); (focus (first | omega | (simp only [World.size_alloc]; done) | (simp only [World.size_alloc]; omega) | (simp; done) | (simp; omega))); (focus (first | omega | (simp only [World.size_alloc]; done) | (simp only [World.size_alloc]; omega) | (simp; done) | (simp; omega))); intro A2 c2 w2 ho2 hg2 hb2))))
      go_roundw
      case rel =>
        refine ⟨k + 1, A2, c2, by omega, by go_num, by go_num, ?_, ?_⟩
        · rw [take_succ_some HX.out, List.map_append]; exact ho2
        · exact ((hb.alloc hsz _).alloc (by simp; omega) _).trans hb2
      case measure => simp [intOf]; omega
    · obtain rfl : k = l.length := by omega
      rw [List.take_of_length_le (Nat.le_refl _)] at ho
      rcases h3 : goodStrikes (l.map fun s => (s.1, s.2 + d))
      · have e0 := Lib.hid (show shiftOk l d = false by rw [E.out, h1, h2, h3]; rfl)
        go_wp2_with (first | (go_at_call 67; refine (spec_l21Good (by simp) ho.recs (by omega)).mono ?_; rintro e w2 ⟨rfl, hb2⟩))
        go_ret2
        rw [shiftR_f e0.out, e0.out]
        exact ⟨none, 0, rfl, Owned.nil strikeE_len _ _ _, by decide, below_go hb hb2⟩
      · have e0 := Lib.hid (show shiftOk l d = true by rw [E.out, h1, h2, h3]; rfl)
        have e1 := Lib.hid (show (shiftR l d).length = l.length by rw [shiftR_t e0.out, List.length_map])
        go_wp2_with (first | (go_at_call 67; refine (spec_l21Good (by simp) ho.recs (by omega)).mono ?_; rintro e w2 ⟨rfl, hb2⟩))
        go_ret2
        rw [e1.out, e0.out, shiftR_t e0.out]
        exact ⟨_, _, rfl, ho.up hb2, by omega, below_go hb hb2⟩
end Go.Proofs.Ytnoipbldgondiaa
