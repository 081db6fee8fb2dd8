/- The walks through shifting, choosing and clipping lists of strikes, both sides. -/
import Derived.Test.YtnoipbldgondiaaW21s
import Derived.Test.YtnoipbldgondiaaCints
namespace Go.Proofs.Ytnoipbldgondiaa
set_option linter.unusedVariables false
set_option linter.unusedSimpArgs false
open Go.ChangeShapes Go.WideShapes Go.ChangeAt Go.RowKit Go.Deep

set_option maxRecDepth 100000 in
theorem impl_ShiftStrikes {A : Option Addr} {n c : Nat} {l : List (Int × Int)} {d : Int} {w : World} (hn : l.length = n) (h : Recs strikeE 2 w A l) (hz : n ≤ 16777216) :
    Calls Try.prog 18 #[.slice A n c, .int .i64 d] w fun e w' => ∃ A' c', e = .returned (.tuple #[.slice A' (shiftR l d).length c', .bool (shiftOk l d)]) ∧
      Owned strikeE 2 86 w' w.heap.size A' (shiftR l d).length c' (shiftR l d) ∧ (shiftR l d).length ≤ 16777216 ∧ Below w.heap.size w w' := by
  have HL := Lib.hid (shift_len (l := l) (d := d))
  have E : Hid (shiftOk l d = (goodStrikes l && inB d (-1000000) 1000000 && goodStrikes (l.map fun s => (s.1, s.2 + d)))) := rfl
  rcases h1 : goodStrikes l
  · have e0 : shiftOk l d = false := by rw [E.out, h1]; rfl
    rw [shiftR_f e0, e0]
    go_in
    go_wp2_with (first | (go_at_call 70; refine (impl_GoodStrikes hn h hz).mono ?_; rintro e w1 ⟨rfl, hb1⟩))
    go_ret2
    exact ⟨none, 0, rfl, Owned.nil strikeE_len _ _ _, by decide, hb1⟩
  rcases h2 : inB d (-1000000) 1000000
  · have e0 : shiftOk l d = false := by rw [E.out, h1, h2]; rfl
    rw [shiftR_f e0, e0]
    go_in
    go_wp2_with (first | (go_at_call 70; refine (impl_GoodStrikes hn h hz).mono ?_; rintro e w1 ⟨rfl, hb1⟩) | (go_at_call 71; refine (impl_within _ _ _ _).mono ?_; rintro e w' ⟨rfl, rfl⟩))
    go_ret2
    exact ⟨none, 0, rfl, Owned.nil strikeE_len _ _ _, by decide, hb1⟩
  subst hn
  obtain ⟨hlen, hbd⟩ := goodStrikes_t h1
  have hd := inB_t h2
  have HB := Lib.hid hbd
  clear hbd
  go_in
  go_wp2_with (first | (go_at_call 70; refine (impl_GoodStrikes rfl h hz).mono ?_; rintro e w1 ⟨rfl, hb1⟩) | (go_at_call 71; refine (impl_within _ _ _ _).mono ?_; rintro e w' ⟨rfl, rfl⟩))
  go_loopw [6, 20] (fun v i wr => ∃ (k : Nat) (A' : Option Addr) (c' : Nat), k ≤ l.length ∧ i = .int .i64 k ∧ v = .slice A' k c' ∧ Owned strikeE 2 86 wr w.heap.size A' k c' ((l.take k).map fun s => (s.1, s.2 + d)) ∧ Below w.heap.size w wr) (fun _ i _ => l.length - (intOf i).toNat)
  case atStart => exact ⟨0, _, _, Nat.zero_le _, rfl, rfl, Owned.empty strikeE_len _ _ hb1.size, by (repeat' (first | (with_reducible exact Below.refl _ _) | (with_reducible assumption) | (with_reducible refine below_drewN ?_ _) | (with_reducible refine Below.drew ?_) | (with_reducible refine below_alloc ?_ _) | (with_reducible refine Below.alloc ?_ ?_ _) | (with_reducible refine Below.setCell ?_ ?_ _) | (with_reducible refine below_go ?_ (by with_reducible assumption)) | (with_reducible refine below_then (by with_reducible assumption) ?_ ?_) | go_size))⟩
  case round =>
    obtain ⟨k, A', c', hk, rfl, rfl, ho, hb⟩ := hrel
    by_cases hlt : k < l.length
    · obtain ⟨x, hx⟩ := some_of_lt hlt
      have hxb := HB.out x (List.mem_of_getElem? hx)
      obtain ⟨b1, o1, rfl, hbb, hc0, hc1⟩ := (h.below hb (Nat.le_refl _)).at_2 hx
      have HX := Lib.hid hx
      have HO := Lib.hid ho
      have hsz := hb.size
      clear hx ho h
      go_wp2_with (first | (at_builtin; go_must ((refine wpList_append_rec Try.elStrike rfl (.tmp 24) (.tmp 32) rfl rfl ((HO.out.alloc _).alloc _) (x.1, x.2 + d) rfl (Box.at_ _ [.int .i64 x.1, .int .i64 (x.2 + d)] _ ?_) (strikeE_one _) ?_ (by decide) ?_ ?_; (focus (first | omega | (simp only [World.size_alloc]; done) | (simp only [World.size_alloc]; omega) | (simp; done) | (simp; omega))); (focus (first | omega | (simp only [World.size_alloc]; done) | (simp only [World.size_alloc]; omega) | (simp; done) | (simp; omega))); (focus (first | omega | (simp only [World.size_alloc]; done) | (simp only [World.size_alloc]; omega) | (simp; done) | (simp; omega))); intro A2 c2 w2 ho2 hg2 hb2))))
      go_roundw
      case rel =>
        refine ⟨k + 1, A2, c2, by omega, by go_num, by go_num, ?_, ?_⟩
        · rw [take_succ_some HX.out, List.map_append]; exact ho2
        · exact ((hb.alloc hsz _).alloc (by simp; omega) _).trans hb2
      case measure => simp [intOf]; omega
    · obtain rfl : k = l.length := by omega
      rw [List.take_of_length_le (Nat.le_refl _)] at ho
      rcases h3 : goodStrikes (l.map fun s => (s.1, s.2 + d))
      · have e0 := Lib.hid (show shiftOk l d = false by rw [E.out, h1, h2, h3]; rfl)
        go_wp2_with (first | (go_at_call 70; refine (impl_GoodStrikes (by simp) ho.recs (by omega)).mono ?_; rintro e w2 ⟨rfl, hb2⟩))
        go_ret2
        rw [shiftR_f e0.out, e0.out]
        exact ⟨none, 0, rfl, Owned.nil strikeE_len _ _ _, by decide, below_go hb hb2⟩
      · have e0 := Lib.hid (show shiftOk l d = true by rw [E.out, h1, h2, h3]; rfl)
        have e1 := Lib.hid (show (shiftR l d).length = l.length by rw [shiftR_t e0.out, List.length_map])
        go_wp2_with (first | (go_at_call 70; refine (impl_GoodStrikes (by simp) ho.recs (by omega)).mono ?_; rintro e w2 ⟨rfl, hb2⟩))
        go_ret2
        rw [e1.out, e0.out, shiftR_t e0.out]
        exact ⟨_, _, rfl, ho.up hb2, by omega, below_go hb hb2⟩
set_option maxRecDepth 100000 in
theorem spec_ShiftStrikes {A : Option Addr} {n c : Nat} {l : List (Int × Int)} {d : Int} {w : World} (hn : l.length = n) (h : Recs strikeE 2 w A l) (hz : n ≤ 16777216) :
    Calls Try.prog 16 #[.slice A n c, .int .i64 d] w fun e w' => ∃ A' c', e = .returned (.tuple #[.slice A' (shiftR l d).length c', .bool (shiftOk l d)]) ∧
      Owned strikeE 2 86 w' w.heap.size A' (shiftR l d).length c' (shiftR l d) ∧ (shiftR l d).length ≤ 16777216 ∧ Below w.heap.size w w' := by
  have HL := Lib.hid (shift_len (l := l) (d := d))
  have E : Hid (shiftOk l d = (goodStrikes l && inB d (-1000000) 1000000 && goodStrikes (l.map fun s => (s.1, s.2 + d)))) := rfl
  rcases h1 : goodStrikes l
  · have e0 : shiftOk l d = false := by rw [E.out, h1]; rfl
    rw [shiftR_f e0, e0]
    go_in
    go_wp2_with (first | (go_at_call 67; refine (spec_l21Good hn h hz).mono ?_; rintro e w1 ⟨rfl, hb1⟩))
    go_ret2
    exact ⟨none, 0, rfl, Owned.nil strikeE_len _ _ _, by decide, hb1⟩
  rcases h2 : inB d (-1000000) 1000000
  · have e0 : shiftOk l d = false := by rw [E.out, h1, h2]; rfl
    rw [shiftR_f e0, e0]
    go_in
    go_wp2_with (first | (go_at_call 67; refine (spec_l21Good hn h hz).mono ?_; rintro e w1 ⟨rfl, hb1⟩) | (go_at_call 68; refine (spec_l1In _ _ _ _).mono ?_; rintro e w' ⟨rfl, rfl⟩))
    go_ret2
    exact ⟨none, 0, rfl, Owned.nil strikeE_len _ _ _, by decide, hb1⟩
  subst hn
  obtain ⟨hlen, hbd⟩ := goodStrikes_t h1
  have hd := inB_t h2
  have HB := Lib.hid hbd
  clear hbd
  go_in
  go_wp2_with (first | (go_at_call 67; refine (spec_l21Good rfl h hz).mono ?_; rintro e w1 ⟨rfl, hb1⟩) | (go_at_call 68; refine (spec_l1In _ _ _ _).mono ?_; rintro e w' ⟨rfl, rfl⟩))
  go_loopw [6, 19] (fun v i wr => ∃ (k : Nat) (A' : Option Addr) (c' : Nat), k ≤ l.length ∧ i = .int .i64 k ∧ v = .slice A' k c' ∧ Owned strikeE 2 86 wr w.heap.size A' k c' ((l.take k).map fun s => (s.1, s.2 + d)) ∧ Below w.heap.size w wr) (fun _ i _ => l.length - (intOf i).toNat)
  case atStart => exact ⟨0, _, _, Nat.zero_le _, rfl, rfl, Owned.nil strikeE_len _ _ _, by (repeat' (first | (with_reducible exact Below.refl _ _) | (with_reducible assumption) | (with_reducible refine below_drewN ?_ _) | (with_reducible refine Below.drew ?_) | (with_reducible refine below_alloc ?_ _) | (with_reducible refine Below.alloc ?_ ?_ _) | (with_reducible refine Below.setCell ?_ ?_ _) | (with_reducible refine below_go ?_ (by with_reducible assumption)) | (with_reducible refine below_then (by with_reducible assumption) ?_ ?_) | go_size))⟩
  case round =>
    obtain ⟨k, A', c', hk, rfl, rfl, ho, hb⟩ := hrel
    by_cases hlt : k < l.length
    · obtain ⟨x, hx⟩ := some_of_lt hlt
      have hxb := HB.out x (List.mem_of_getElem? hx)
      obtain ⟨b1, o1, rfl, hbb, hc0, hc1⟩ := (h.below hb (Nat.le_refl _)).at_2 hx
      have HX := Lib.hid hx
      have HO := Lib.hid ho
      have hsz := hb.size
      clear hx ho h
      go_wp2_with (first | (at_builtin; go_must ((refine wpList_append_rec Try.elStrike rfl (.tmp 23) (.tmp 31) rfl rfl ((HO.out.alloc _).alloc _) (x.1, x.2 + d) rfl (Box.at_ _ [.int .i64 x.1, .int .i64 (x.2 + d)] _ ?_) (strikeE_one _) ?_ (by decide) ?_ ?_; (focus (first | omega | (simp only [World.size_alloc]; done) | (simp only [World.size_alloc]; omega) | (simp; done) | (simp; omega))); (focus (first | omega | (simp only [World.size_alloc]; done) | (simp only [World.size_alloc]; omega) | (simp; done) | (simp; omega))); (focus (first | omega | (simp only [World.size_alloc]; done) | (simp only [World.size_alloc]; omega) | (simp; done) | (simp; omega))); intro A2 c2 w2 ho2 hg2 hb2))))
      go_roundw
      case rel =>
        refine ⟨k + 1, A2, c2, by omega, by go_num, by go_num, ?_, ?_⟩
        · rw [take_succ_some HX.out, List.map_append]; exact ho2
        · exact ((hb.alloc hsz _).alloc (by simp; omega) _).trans hb2
      case measure => simp [intOf]; omega
    · obtain rfl : k = l.length := by omega
      rw [List.take_of_length_le (Nat.le_refl _)] at ho
      rcases h3 : goodStrikes (l.map fun s => (s.1, s.2 + d))
      · have e0 := Lib.hid (show shiftOk l d = false by rw [E.out, h1, h2, h3]; rfl)
        go_wp2_with (first | (go_at_call 67; refine (spec_l21Good (by simp) ho.recs (by omega)).mono ?_; rintro e w2 ⟨rfl, hb2⟩))
        go_ret2
        rw [shiftR_f e0.out, e0.out]
        exact ⟨none, 0, rfl, Owned.nil strikeE_len _ _ _, by decide, below_go hb hb2⟩
      · have e0 := Lib.hid (show shiftOk l d = true by rw [E.out, h1, h2, h3]; rfl)
        have e1 := Lib.hid (show (shiftR l d).length = l.length by rw [shiftR_t e0.out, List.length_map])
        go_wp2_with (first | (go_at_call 67; refine (spec_l21Good (by simp) ho.recs (by omega)).mono ?_; rintro e w2 ⟨rfl, hb2⟩))
        go_ret2
        rw [e1.out, e0.out, shiftR_t e0.out]
        exact ⟨_, _, rfl, ho.up hb2, by omega, below_go hb hb2⟩

set_option maxRecDepth 100000 in
theorem impl_ofBell {A : Option Addr} {n c : Nat} {l : List (Int × Int)} {d : Int} {w : World} (hn : l.length = n) (h : Recs strikeE 2 w A l) (hz : n ≤ 16777216) :
    Calls Try.prog 84 #[.slice A n c, .int .i64 d] w fun e w' => ∃ A' c', e = .returned (.slice A' (ofBellR l d).length c') ∧
      Owned intE 1 3 w' w.heap.size A' (ofBellR l d).length c' (ofBellR l d) ∧ Below w.heap.size w w' := by
  subst hn
  go_in
  go_wp2
  go_loopw [5, 11] (fun v i wr => ∃ (k : Nat) (A' : Option Addr) (m c' : Nat), k ≤ l.length ∧ i = .int .i64 k ∧ v = .slice A' m c' ∧ Owned intE 1 3 wr w.heap.size A' m c' (ofBellR (l.take k) d) ∧ Below w.heap.size w wr) (fun _ i _ => l.length - (intOf i).toNat)
  case atStart => exact ⟨0, _, _, _, Nat.zero_le _, rfl, rfl, Owned.empty intE_len _ _ (Nat.le_refl _), by (repeat' (first | (with_reducible exact Below.refl _ _) | (with_reducible assumption) | (with_reducible refine below_drewN ?_ _) | (with_reducible refine Below.drew ?_) | (with_reducible refine below_alloc ?_ _) | (with_reducible refine Below.alloc ?_ ?_ _) | (with_reducible refine Below.setCell ?_ ?_ _) | (with_reducible refine below_go ?_ (by with_reducible assumption)) | (with_reducible refine below_then (by with_reducible assumption) ?_ ?_) | go_size))⟩
  case round =>
    obtain ⟨k, A', m, c', hk, rfl, rfl, ho, hb⟩ := hrel
    have hml : m ≤ k := by
      have := ofBell_len (l.take k) d
      rw [ho.len] at this
      simp at this; omega
    by_cases hlt : k < l.length
    · obtain ⟨x, hx⟩ := some_of_lt hlt
      obtain ⟨b1, o1, rfl, hbb, hc0, hc1⟩ := (h.below hb (Nat.le_refl _)).at_2 hx
      have HX := Lib.hid hx
      have HO := Lib.hid ho
      have hsz := hb.size
      clear hx ho h
      rcases hxd : (x.1 == d)
      · go_wp2
        go_roundw
        case rel => exact ⟨k + 1, A', m, c', by omega, by go_num, rfl, by rw [ofBell_miss HX.out hxd]; exact HO.out.alloc _, by (repeat' (first | (with_reducible exact Below.refl _ _) | (with_reducible assumption) | (with_reducible refine below_drewN ?_ _) | (with_reducible refine Below.drew ?_) | (with_reducible refine below_alloc ?_ _) | (with_reducible refine Below.alloc ?_ ?_ _) | (with_reducible refine Below.setCell ?_ ?_ _) | (with_reducible refine below_go ?_ (by with_reducible assumption)) | (with_reducible refine below_then (by with_reducible assumption) ?_ ?_) | go_size))⟩
        case measure => simp [intOf]; omega
      · go_wp2_with (first | (at_builtin; go_must ((refine wpList_append_rec Try.elInt rfl (.tmp 19) (.tmp 22) rfl rfl ((HO.out.alloc _).alloc _) x.2 rfl (Box.at_ _ [.int .i64 x.2] _ ?_) (intE_one _) ?_ (by decide) ?_ ?_; (focus (first | omega | (simp only [World.size_alloc]; done) | (simp only [World.size_alloc]; omega) | (simp; done) | (simp; omega))); (focus (first | omega | (simp only [World.size_alloc]; done) | (simp only [World.size_alloc]; omega) | (simp; done) | (simp; omega))); (focus (first | omega | (simp only [World.size_alloc]; done) | (simp only [World.size_alloc]; omega) | (simp; done) | (simp; omega))); intro A2 c2 w2 ho2 hg2 hb2))))
        go_roundw
        case rel =>
          refine ⟨k + 1, A2, m + 1, c2, by omega, by go_num, by go_num, ?_, ?_⟩
          · rw [ofBell_hit HX.out hxd]; exact ho2
          · exact ((hb.alloc hsz _).alloc (by simp; omega) _).trans hb2
        case measure => simp [intOf]; omega
    · obtain rfl : k = l.length := by omega
      rw [List.take_of_length_le (Nat.le_refl _)] at ho
      obtain rfl := ho.len
      go_wp2
      go_ret
      exact ⟨_, _, rfl, ho, hb⟩
theorem impl_OfBell {A : Option Addr} {n c : Nat} {l : List (Int × Int)} {d : Int} {w : World} (hn : l.length = n) (h : Recs strikeE 2 w A l) (hz : n ≤ 16777216) :
    Calls Try.prog 39 #[.slice A n c, .int .i64 d] w fun e w' => ∃ A' c', e = .returned (.tuple #[.slice A' (bellR l d).length c', .bool (bellOk l d)]) ∧
      Owned intE 1 3 w' w.heap.size A' (bellR l d).length c' (bellR l d) ∧ (bellR l d).length ≤ 16777216 ∧ Below w.heap.size w w' := by
  have E : Hid (bellOk l d = (goodStrikes l && inB d 1 8)) := rfl
  rcases h1 : goodStrikes l
  · have e0 : bellOk l d = false := by rw [E.out, h1]; rfl
    rw [bellR_f e0, e0]
    go_in
    go_wp2_with (first | (go_at_call 70; refine (impl_GoodStrikes hn h hz).mono ?_; rintro e w1 ⟨rfl, hb1⟩))
    go_ret2
    exact ⟨none, 0, rfl, Owned.nil intE_len _ _ _, by decide, hb1⟩
  rcases h2 : inB d 1 8
  · have e0 : bellOk l d = false := by rw [E.out, h1, h2]; rfl
    rw [bellR_f e0, e0]
    go_in
    go_wp2_with (first | (go_at_call 70; refine (impl_GoodStrikes hn h hz).mono ?_; rintro e w1 ⟨rfl, hb1⟩) | (go_at_call 83; refine (impl_isBell _ _ _).mono ?_; rintro e w' ⟨rfl, rfl⟩))
    go_ret2
    exact ⟨none, 0, rfl, Owned.nil intE_len _ _ _, by decide, hb1⟩
  · have e0 : bellOk l d = true := by rw [E.out, h1, h2]; rfl
    rw [bellR_t e0, e0]
    clear e0
    have hlen := ofBell_len l d
    go_in
    go_wp2_with (first | (go_at_call 70; refine (impl_GoodStrikes hn h hz).mono ?_; rintro e w1 ⟨rfl, hb1⟩) | (go_at_call 83; refine (impl_isBell _ _ _).mono ?_; rintro e w' ⟨rfl, rfl⟩) | (go_at_call 84; refine (impl_ofBell hn (h.up hb1) hz).mono ?_; rintro e w2 ⟨A2, c2, rfl, ho2, hb2⟩))
    go_ret2
    exact ⟨_, _, rfl, ho2.base_le hb1.size, by omega, below_go hb1 hb2⟩
set_option maxRecDepth 100000 in
theorem impl_ClippedIn {A : Option Addr} {n c : Nat} {l : List (Int × Int)} {d : Int} {w : World} (hn : l.length = n) (h : Recs strikeE 2 w A l) (hz : n ≤ 16777216) :
    Calls Try.prog 35 #[.slice A n c, .int .i64 d] w fun e w' => ∃ A' c', e = .returned (.tuple #[.slice A' (clipR l d).length c', .bool (clipOk l d)]) ∧
      Owned intE 1 3 w' w.heap.size A' (clipR l d).length c' (clipR l d) ∧ (clipR l d).length ≤ 16777216 ∧ Below w.heap.size w w' := by
  have E : Hid (clipOk l d = (goodStrikes l && inB d 0 10000)) := rfl
  rcases h1 : goodStrikes l
  · have e0 : clipOk l d = false := by rw [E.out, h1]; rfl
    rw [clipR_f e0, e0]
    go_in
    go_wp2_with (first | (go_at_call 70; refine (impl_GoodStrikes hn h hz).mono ?_; rintro e w1 ⟨rfl, hb1⟩))
    go_ret2
    exact ⟨none, 0, rfl, Owned.nil intE_len _ _ _, by decide, hb1⟩
  rcases h2 : inB d 0 10000
  · have e0 : clipOk l d = false := by rw [E.out, h1, h2]; rfl
    rw [clipR_f e0, e0]
    go_in
    go_wp2_with (first | (go_at_call 70; refine (impl_GoodStrikes hn h hz).mono ?_; rintro e w1 ⟨rfl, hb1⟩) | (go_at_call 71; refine (impl_within _ _ _ _).mono ?_; rintro e w' ⟨rfl, rfl⟩))
    go_ret2
    exact ⟨none, 0, rfl, Owned.nil intE_len _ _ _, by decide, hb1⟩
  subst hn
  have e0 := Lib.hid (show clipOk l d = true by rw [E.out, h1, h2]; rfl)
  obtain ⟨hlen, hbd⟩ := goodStrikes_t h1
  have hd := inB_t h2
  have HB := Lib.hid hbd
  clear hbd
  go_in
  go_wp2_with (first | (go_at_call 70; refine (impl_GoodStrikes rfl h hz).mono ?_; rintro e w1 ⟨rfl, hb1⟩) | (go_at_call 71; refine (impl_within _ _ _ _).mono ?_; rintro e w' ⟨rfl, rfl⟩))
  go_loopw [6, 7] (fun v i wr => ∃ (k : Nat) (A' : Option Addr) (m c' : Nat), 1 ≤ k ∧ (k ≤ l.length ∨ k = 1) ∧ i = .int .i64 k ∧ v = .slice A' m c' ∧ Owned intE 1 3 wr w.heap.size A' m c' (pick (soon l d) k) ∧ Below w.heap.size w wr) (fun _ i _ => l.length - (intOf i).toNat)
  case atStart => exact ⟨1, _, _, _, Nat.le_refl _, .inr rfl, rfl, rfl, Owned.empty intE_len _ _ hb1.size, by (repeat' (first | (with_reducible exact Below.refl _ _) | (with_reducible assumption) | (with_reducible refine below_drewN ?_ _) | (with_reducible refine Below.drew ?_) | (with_reducible refine below_alloc ?_ _) | (with_reducible refine Below.alloc ?_ ?_ _) | (with_reducible refine Below.setCell ?_ ?_ _) | (with_reducible refine below_go ?_ (by with_reducible assumption)) | (with_reducible refine below_then (by with_reducible assumption) ?_ ?_) | go_size))⟩
  case round =>
    obtain ⟨k, A', m, c', hk0, hk, rfl, rfl, ho, hb⟩ := hrel
    have hml : m ≤ k := by
      have := pick_len (soon l d) k
      rw [ho.len] at this
      omega
    by_cases hlt : k < l.length
    · obtain ⟨x, hx⟩ := some_of_lt hlt
      obtain ⟨y, hy⟩ := some_of_lt (l := l) (k := k - 1) (by omega)
      have hr := h.below hb (Nat.le_refl _)
      obtain ⟨b1, o1, rfl, hbb, hc0, hc1⟩ := hr.at_2 hx
      obtain ⟨b2, o2, e, _, hd0, hd1⟩ := hr.at_2 hy
      injection e with e
      injection e with e1 e2
      subst e1 e2
      have S := Lib.hid (soon_eq (d := d) (by omega) hx hy)
      have hxb := HB.out x (List.mem_of_getElem? hx)
      have hyb := HB.out y (List.mem_of_getElem? hy)
      have HO := Lib.hid ho
      have hsz := hb.size
      clear hx hy ho h hr
      by_cases hxd : x.2 - y.2 < d
      · have S' := Lib.hid (S.out.trans (decide_eq_true hxd))
        go_wp2
        go_quiet (fail)
        go_wp2_with (first | (at_builtin; go_must ((refine wpList_append_rec Try.elInt rfl (.tmp 37) (.tmp 39) rfl rfl ((HO.out.drewN _).alloc _) (k : Int) rfl (Box.at_ _ [.int .i64 (k : Int)] _ ?_) (intE_one _) ?_ (by decide) ?_ ?_; (focus (first | omega | (simp only [World.size_alloc]; done) | (simp only [World.size_alloc]; omega) | (simp; done) | (simp; omega))); (focus (first | omega | (simp only [World.size_alloc]; done) | (simp only [World.size_alloc]; omega) | (simp; done) | (simp; omega))); (focus (first | omega | (simp only [World.size_alloc]; done) | (simp only [World.size_alloc]; omega) | (simp; done) | (simp; omega))); intro A2 c2 w2 ho2 hg2 hb2))))
        go_roundw
        case rel =>
          refine ⟨k + 1, A2, m + 1, c2, by omega, .inl (by omega), by go_num, by go_num, ?_, ?_⟩
          · rw [pick_hit S'.out]; exact ho2
          · exact ((below_drewN hb _).alloc (by simp; omega) _).trans hb2
        case measure => simp [intOf]; omega
      · have S' := Lib.hid (S.out.trans (decide_eq_false hxd))
        go_wp2
        go_quiet (fail)
        go_wp2
        go_roundw
        case rel => exact ⟨k + 1, A', m, c', by omega, .inl (by omega), by go_num, rfl, by rw [pick_miss S'.out]; exact HO.out.drewN _, by (repeat' (first | (with_reducible exact Below.refl _ _) | (with_reducible assumption) | (with_reducible refine below_drewN ?_ _) | (with_reducible refine Below.drew ?_) | (with_reducible refine below_alloc ?_ _) | (with_reducible refine Below.alloc ?_ ?_ _) | (with_reducible refine Below.setCell ?_ ?_ _) | (with_reducible refine below_go ?_ (by with_reducible assumption)) | (with_reducible refine below_then (by with_reducible assumption) ?_ ?_) | go_size))⟩
        case measure => simp [intOf]; omega
    · have ep : pick (soon l d) k = clipR l d := by
        rw [clipR_t e0.out]
        by_cases h0 : l.length ≤ 1
        · rw [clip_short h0]
          obtain rfl : k = 1 := by omega
          rfl
        · rw [show k = l.length by omega]
      rw [ep] at ho
      obtain rfl := ho.len
      have hll := pick_len (soon l d) l.length
      rw [← clipR_t e0.out] at hll
      go_wp2
      go_ret2
      rw [e0.out]
      exact ⟨_, _, rfl, ho, by omega, hb⟩

set_option maxRecDepth 100000 in
theorem spec_l21Of {A : Option Addr} {n c : Nat} {l : List (Int × Int)} {d : Int} {w : World} (hn : l.length = n) (h : Recs strikeE 2 w A l) (hz : n ≤ 16777216) :
    Calls Try.prog 82 #[.slice A n c, .int .i64 d] w fun e w' => ∃ A' c', e = .returned (.slice A' (ofBellR l d).length c') ∧
      Owned intE 1 3 w' w.heap.size A' (ofBellR l d).length c' (ofBellR l d) ∧ Below w.heap.size w w' := by
  subst hn
  go_in
  go_wp2
  go_loopw [5, 10] (fun v i wr => ∃ (k : Nat) (A' : Option Addr) (m c' : Nat), k ≤ l.length ∧ i = .int .i64 k ∧ v = .slice A' m c' ∧ Owned intE 1 3 wr w.heap.size A' m c' (ofBellR (l.take k) d) ∧ Below w.heap.size w wr) (fun _ i _ => l.length - (intOf i).toNat)
  case atStart => exact ⟨0, _, _, _, Nat.zero_le _, rfl, rfl, Owned.nil intE_len _ _ _, by (repeat' (first | (with_reducible exact Below.refl _ _) | (with_reducible assumption) | (with_reducible refine below_drewN ?_ _) | (with_reducible refine Below.drew ?_) | (with_reducible refine below_alloc ?_ _) | (with_reducible refine Below.alloc ?_ ?_ _) | (with_reducible refine Below.setCell ?_ ?_ _) | (with_reducible refine below_go ?_ (by with_reducible assumption)) | (with_reducible refine below_then (by with_reducible assumption) ?_ ?_) | go_size))⟩
  case round =>
    obtain ⟨k, A', m, c', hk, rfl, rfl, ho, hb⟩ := hrel
    have hml : m ≤ k := by
      have := ofBell_len (l.take k) d
      rw [ho.len] at this
      simp at this; omega
    by_cases hlt : k < l.length
    · obtain ⟨x, hx⟩ := some_of_lt hlt
      obtain ⟨b1, o1, rfl, hbb, hc0, hc1⟩ := (h.below hb (Nat.le_refl _)).at_2 hx
      have HX := Lib.hid hx
      have HO := Lib.hid ho
      have hsz := hb.size
      clear hx ho h
      rcases hxd : (x.1 == d)
      · go_wp2
        go_roundw
        case rel => exact ⟨k + 1, A', m, c', by omega, by go_num, rfl, by rw [ofBell_miss HX.out hxd]; exact HO.out.alloc _, by (repeat' (first | (with_reducible exact Below.refl _ _) | (with_reducible assumption) | (with_reducible refine below_drewN ?_ _) | (with_reducible refine Below.drew ?_) | (with_reducible refine below_alloc ?_ _) | (with_reducible refine Below.alloc ?_ ?_ _) | (with_reducible refine Below.setCell ?_ ?_ _) | (with_reducible refine below_go ?_ (by with_reducible assumption)) | (with_reducible refine below_then (by with_reducible assumption) ?_ ?_) | go_size))⟩
        case measure => simp [intOf]; omega
      · go_wp2_with (first | (at_builtin; go_must ((refine wpList_append_rec Try.elInt rfl (.tmp 18) (.tmp 21) rfl rfl ((HO.out.alloc _).alloc _) x.2 rfl (Box.at_ _ [.int .i64 x.2] _ ?_) (intE_one _) ?_ (by decide) ?_ ?_; (focus (first | omega | (simp only [World.size_alloc]; done) | (simp only [World.size_alloc]; omega) | (simp; done) | (simp; omega))); (focus (first | omega | (simp only [World.size_alloc]; done) | (simp only [World.size_alloc]; omega) | (simp; done) | (simp; omega))); (focus (first | omega | (simp only [World.size_alloc]; done) | (simp only [World.size_alloc]; omega) | (simp; done) | (simp; omega))); intro A2 c2 w2 ho2 hg2 hb2))))
        go_roundw
        case rel =>
          refine ⟨k + 1, A2, m + 1, c2, by omega, by go_num, by go_num, ?_, ?_⟩
          · rw [ofBell_hit HX.out hxd]; exact ho2
          · exact ((hb.alloc hsz _).alloc (by simp; omega) _).trans hb2
        case measure => simp [intOf]; omega
    · obtain rfl : k = l.length := by omega
      rw [List.take_of_length_le (Nat.le_refl _)] at ho
      obtain rfl := ho.len
      go_wp2
      go_ret
      exact ⟨_, _, rfl, ho, hb⟩
theorem spec_OfBell {A : Option Addr} {n c : Nat} {l : List (Int × Int)} {d : Int} {w : World} (hn : l.length = n) (h : Recs strikeE 2 w A l) (hz : n ≤ 16777216) :
    Calls Try.prog 38 #[.slice A n c, .int .i64 d] w fun e w' => ∃ A' c', e = .returned (.tuple #[.slice A' (bellR l d).length c', .bool (bellOk l d)]) ∧
      Owned intE 1 3 w' w.heap.size A' (bellR l d).length c' (bellR l d) ∧ (bellR l d).length ≤ 16777216 ∧ Below w.heap.size w w' := by
  have E : Hid (bellOk l d = (goodStrikes l && inB d 1 8)) := rfl
  rcases h1 : goodStrikes l
  · have e0 : bellOk l d = false := by rw [E.out, h1]; rfl
    rw [bellR_f e0, e0]
    go_in
    go_wp2_with (first | (go_at_call 67; refine (spec_l21Good hn h hz).mono ?_; rintro e w1 ⟨rfl, hb1⟩))
    go_ret2
    exact ⟨none, 0, rfl, Owned.nil intE_len _ _ _, by decide, hb1⟩
  rcases h2 : inB d 1 8
  · have e0 : bellOk l d = false := by rw [E.out, h1, h2]; rfl
    rw [bellR_f e0, e0]
    go_in
    go_wp2_with (first | (go_at_call 67; refine (spec_l21Good hn h hz).mono ?_; rintro e w1 ⟨rfl, hb1⟩) | (go_at_call 68; refine (spec_l1In _ _ _ _).mono ?_; rintro e w' ⟨rfl, rfl⟩))
    go_ret2
    exact ⟨none, 0, rfl, Owned.nil intE_len _ _ _, by decide, hb1⟩
  · have e0 : bellOk l d = true := by rw [E.out, h1, h2]; rfl
    rw [bellR_t e0, e0]
    clear e0
    have hlen := ofBell_len l d
    go_in
    go_wp2_with (first | (go_at_call 67; refine (spec_l21Good hn h hz).mono ?_; rintro e w1 ⟨rfl, hb1⟩) | (go_at_call 68; refine (spec_l1In _ _ _ _).mono ?_; rintro e w' ⟨rfl, rfl⟩) | (go_at_call 82; refine (spec_l21Of hn (h.up hb1) hz).mono ?_; rintro e w2 ⟨A2, c2, rfl, ho2, hb2⟩))
    go_ret2
    exact ⟨_, _, rfl, ho2.base_le hb1.size, by omega, below_go hb1 hb2⟩
set_option maxRecDepth 100000 in
theorem spec_ClippedIn {A : Option Addr} {n c : Nat} {l : List (Int × Int)} {d : Int} {w : World} (hn : l.length = n) (h : Recs strikeE 2 w A l) (hz : n ≤ 16777216) :
    Calls Try.prog 34 #[.slice A n c, .int .i64 d] w fun e w' => ∃ A' c', e = .returned (.tuple #[.slice A' (clipR l d).length c', .bool (clipOk l d)]) ∧
      Owned intE 1 3 w' w.heap.size A' (clipR l d).length c' (clipR l d) ∧ (clipR l d).length ≤ 16777216 ∧ Below w.heap.size w w' := by
  have E : Hid (clipOk l d = (goodStrikes l && inB d 0 10000)) := rfl
  rcases h1 : goodStrikes l
  · have e0 : clipOk l d = false := by rw [E.out, h1]; rfl
    rw [clipR_f e0, e0]
    go_in
    go_wp2_with (first | (go_at_call 67; refine (spec_l21Good hn h hz).mono ?_; rintro e w1 ⟨rfl, hb1⟩))
    go_ret2
    exact ⟨none, 0, rfl, Owned.nil intE_len _ _ _, by decide, hb1⟩
  rcases h2 : inB d 0 10000
  · have e0 : clipOk l d = false := by rw [E.out, h1, h2]; rfl
    rw [clipR_f e0, e0]
    go_in
    go_wp2_with (first | (go_at_call 67; refine (spec_l21Good hn h hz).mono ?_; rintro e w1 ⟨rfl, hb1⟩) | (go_at_call 68; refine (spec_l1In _ _ _ _).mono ?_; rintro e w' ⟨rfl, rfl⟩))
    go_ret2
    exact ⟨none, 0, rfl, Owned.nil intE_len _ _ _, by decide, hb1⟩
  subst hn
  have e0 := Lib.hid (show clipOk l d = true by rw [E.out, h1, h2]; rfl)
  obtain ⟨hlen, hbd⟩ := goodStrikes_t h1
  have hd := inB_t h2
  have HB := Lib.hid hbd
  clear hbd
  go_in
  go_wp2_with (first | (go_at_call 67; refine (spec_l21Good rfl h hz).mono ?_; rintro e w1 ⟨rfl, hb1⟩) | (go_at_call 68; refine (spec_l1In _ _ _ _).mono ?_; rintro e w' ⟨rfl, rfl⟩))
  go_loopw [6, 7] (fun v i wr => ∃ (k : Nat) (A' : Option Addr) (m c' : Nat), 1 ≤ k ∧ (k ≤ l.length ∨ k = 1) ∧ i = .int .i64 k ∧ v = .slice A' m c' ∧ Owned intE 1 3 wr w.heap.size A' m c' (pick (soon l d) k) ∧ Below w.heap.size w wr) (fun _ i _ => l.length - (intOf i).toNat)
  case atStart => exact ⟨1, _, _, _, Nat.le_refl _, .inr rfl, rfl, rfl, Owned.nil intE_len _ _ _, by (repeat' (first | (with_reducible exact Below.refl _ _) | (with_reducible assumption) | (with_reducible refine below_drewN ?_ _) | (with_reducible refine Below.drew ?_) | (with_reducible refine below_alloc ?_ _) | (with_reducible refine Below.alloc ?_ ?_ _) | (with_reducible refine Below.setCell ?_ ?_ _) | (with_reducible refine below_go ?_ (by with_reducible assumption)) | (with_reducible refine below_then (by with_reducible assumption) ?_ ?_) | go_size))⟩
  case round =>
    obtain ⟨k, A', m, c', hk0, hk, rfl, rfl, ho, hb⟩ := hrel
    have hml : m ≤ k := by
      have := pick_len (soon l d) k
      rw [ho.len] at this
      omega
    by_cases hlt : k < l.length
    · obtain ⟨x, hx⟩ := some_of_lt hlt
      obtain ⟨y, hy⟩ := some_of_lt (l := l) (k := k - 1) (by omega)
      have hr := h.below hb (Nat.le_refl _)
      obtain ⟨b1, o1, rfl, hbb, hc0, hc1⟩ := hr.at_2 hx
      obtain ⟨b2, o2, e, _, hd0, hd1⟩ := hr.at_2 hy
      injection e with e
      injection e with e1 e2
      subst e1 e2
      have S := Lib.hid (soon_eq (d := d) (by omega) hx hy)
      have hxb := HB.out x (List.mem_of_getElem? hx)
      have hyb := HB.out y (List.mem_of_getElem? hy)
      have HO := Lib.hid ho
      have hsz := hb.size
      clear hx hy ho h hr
      by_cases hxd : x.2 - y.2 < d
      · have S' := Lib.hid (S.out.trans (decide_eq_true hxd))
        go_wp2
        go_quiet (fail)
        go_wp2_with (first | (at_builtin; go_must ((refine wpList_append_rec Try.elInt rfl (.tmp 36) (.tmp 38) rfl rfl ((HO.out.drewN _).alloc _) (k : Int) rfl (Box.at_ _ [.int .i64 (k : Int)] _ ?_) (intE_one _) ?_ (by decide) ?_ ?_; (focus (first | omega | (simp only [World.size_alloc]; done) | (simp only [World.size_alloc]; omega) | (simp; done) | (simp; omega))); (focus (first | omega | (simp only [World.size_alloc]; done) | (simp only [World.size_alloc]; omega) | (simp; done) | (simp; omega))); (focus (first | omega | (simp only [World.size_alloc]; done) | (simp only [World.size_alloc]; omega) | (simp; done) | (simp; omega))); intro A2 c2 w2 ho2 hg2 hb2))))
        go_roundw
        case rel =>
          refine ⟨k + 1, A2, m + 1, c2, by omega, .inl (by omega), by go_num, by go_num, ?_, ?_⟩
          · rw [pick_hit S'.out]; exact ho2
          · exact ((below_drewN hb _).alloc (by simp; omega) _).trans hb2
        case measure => simp [intOf]; omega
      · have S' := Lib.hid (S.out.trans (decide_eq_false hxd))
        go_wp2
        go_quiet (fail)
        go_wp2
        go_roundw
        case rel => exact ⟨k + 1, A', m, c', by omega, .inl (by omega), by go_num, rfl, by rw [pick_miss S'.out]; exact HO.out.drewN _, by (repeat' (first | (with_reducible exact Below.refl _ _) | (with_reducible assumption) | (with_reducible refine below_drewN ?_ _) | (with_reducible refine Below.drew ?_) | (with_reducible refine below_alloc ?_ _) | (with_reducible refine Below.alloc ?_ ?_ _) | (with_reducible refine Below.setCell ?_ ?_ _) | (with_reducible refine below_go ?_ (by with_reducible assumption)) | (with_reducible refine below_then (by with_reducible assumption) ?_ ?_) | go_size))⟩
        case measure => simp [intOf]; omega
    · have ep : pick (soon l d) k = clipR l d := by
        rw [clipR_t e0.out]
        by_cases h0 : l.length ≤ 1
        · rw [clip_short h0]
          obtain rfl : k = 1 := by omega
          rfl
        · rw [show k = l.length by omega]
      rw [ep] at ho
      obtain rfl := ho.len
      have hll := pick_len (soon l d) l.length
      rw [← clipR_t e0.out] at hll
      go_wp2
      go_ret2
      rw [e0.out]
      exact ⟨_, _, rfl, ho, by omega, hb⟩
end Go.Proofs.Ytnoipbldgondiaa
