/- The walks through shifting, choosing and clipping lists of strikes, both sides. -/
import Derived.Test.YtcpfcgcdahhnjaaW21s
import Derived.Test.YtcpfcgcdahhnjaaCints
namespace Go.Proofs.Ytcpfcgcdahhnjaa
set_option linter.unusedVariables false
set_option linter.unusedSimpArgs false
open Go.ChangeShapes Go.WideShapes Go.ChangeAt Go.RowKit Go.Deep


set_option maxRecDepth 100000 in
theorem impl_ofBell {A : Option Addr} {n c : Nat} {l : List (Int × Int)} {d : Int} {w : World} (hn : l.length = n) (h : Recs strikeE 2 w A l) (hz : n ≤ 16777216) :
    Calls Try.prog 110 #[.slice A n c, .int .i64 d] w fun e w' => ∃ A' c', e = .returned (.slice A' (ofBellR l d).length c') ∧
      Owned intE 1 3 w' w.heap.size A' (ofBellR l d).length c' (ofBellR l d) ∧ Below w.heap.size w w' := by
  subst hn
  go_in
  go_wp2
  go_loopw [5, 11] (fun v i wr => ∃ (k : Nat) (A' : Option Addr) (m c' : Nat), k ≤ l.length ∧ i = .int .i64 k ∧ v = .slice A' m c' ∧ Owned intE 1 3 wr w.heap.size A' m c' (ofBellR (l.take k) d) ∧ Below w.heap.size w wr) (fun _ i _ => l.length - (intOf i).toNat)
  case atStart => exact ⟨0, _, _, _, Nat.zero_le _, rfl, rfl, Owned.empty intE_len _ _ (Nat.le_refl _), by (repeat' (first | (with_reducible exact Below.refl _ _) | (with_reducible assumption) | (with_reducible refine below_drewN ?_ _) | (with_reducible refine Below.drew ?_) | (with_reducible refine below_alloc ?_ _) | (with_reducible refine Below.alloc ?_ ?_ _) | (with_reducible refine Below.setCell ?_ ?_ _) | (with_reducible refine below_go ?_ (by with_reducible assumption)) | (with_reducible refine below_then (by with_reducible assumption) ?_ ?_) | go_size))⟩
  case round =>
    obtain ⟨k, A', m, c', hk, rfl, rfl, ho, hb⟩ := hrel
    have hml : m ≤ k := by
      have := ofBell_len (l.take k) d
      rw [ho.len] at this
      simp at this; omega
    by_cases hlt : k < l.length
    · obtain ⟨x, hx⟩ := some_of_lt hlt
      obtain ⟨b1, o1, rfl, hbb, hc0, hc1⟩ := (h.below hb (Nat.le_refl _)).at_2 hx
      have HX := Lib.hid hx
      have HO := Lib.hid ho
      have hsz := hb.size
      clear hx ho h
      rcases hxd : (x.1 == d)
      · go_wp2
        go_roundw
        case rel => exact ⟨k + 1, A', m, c', by omega, by go_num, rfl, by rw [ofBell_miss HX.out hxd]; exact HO.out.alloc _, by (repeat' (first | (with_reducible exact Below.refl _ _) | (with_reducible assumption) | (with_reducible refine below_drewN ?_ _) | (with_reducible refine Below.drew ?_) | (with_reducible refine below_alloc ?_ _) | (with_reducible refine Below.alloc ?_ ?_ _) | (with_reducible refine Below.setCell ?_ ?_ _) | (with_reducible refine below_go ?_ (by with_reducible assumption)) | (with_reducible refine below_then (by with_reducible assumption) ?_ ?_) | go_size))⟩
        case measure => simp [intOf]; omega
      · go_wp2_with (first | (at_builtin; go_must ((refine wpList_append_rec Try.elInt rfl (.tmp 19) (.tmp 22) rfl rfl ((HO.out.alloc _).alloc _) x.2 rfl (Box.at_ _ [.int .i64 x.2] _ ?_) (intE_one _) ?_ (by decide) ?_ ?_; (focus (first | omega | (simp only [World.size_alloc]; done) | (simp only [World.size_alloc]; omega) | (simp; done) | (simp; omega))); (focus (first | omega | (simp only [World.size_alloc]; done) | (simp only [World.size_alloc]; omega) | (simp; done) | (simp; omega))); (focus (first | omega | (simp only [World.size_alloc]; done) | (simp only [World.size_alloc]; omega) | (simp; done) | (simp; omega))); intro A2 c2 w2 ho2 hg2 hb2))))
        go_roundw
        case rel =>
          refine ⟨k + 1, A2, m + 1, c2, by omega, by go_num, by go_num, ?_, ?_⟩
          · rw [ofBell_hit HX.out hxd]; exact ho2
          · exact ((hb.alloc hsz _).alloc (by simp; omega) _).trans hb2
        case measure => simp [intOf]; omega
    · obtain rfl : k = l.length := by omega
      rw [List.take_of_length_le (Nat.le_refl _)] at ho
      obtain rfl := ho.len
      go_wp2
      go_ret
      exact ⟨_, _, rfl, ho, hb⟩

set_option maxRecDepth 100000 in
theorem spec_l21Of {A : Option Addr} {n c : Nat} {l : List (Int × Int)} {d : Int} {w : World} (hn : l.length = n) (h : Recs strikeE 2 w A l) (hz : n ≤ 16777216) :
    Calls Try.prog 108 #[.slice A n c, .int .i64 d] w fun e w' => ∃ A' c', e = .returned (.slice A' (ofBellR l d).length c') ∧
      Owned intE 1 3 w' w.heap.size A' (ofBellR l d).length c' (ofBellR l d) ∧ Below w.heap.size w w' := by
  subst hn
  go_in
  go_wp2
  go_loopw [5, 10] (fun v i wr => ∃ (k : Nat) (A' : Option Addr) (m c' : Nat), k ≤ l.length ∧ i = .int .i64 k ∧ v = .slice A' m c' ∧ Owned intE 1 3 wr w.heap.size A' m c' (ofBellR (l.take k) d) ∧ Below w.heap.size w wr) (fun _ i _ => l.length - (intOf i).toNat)
  case atStart => exact ⟨0, _, _, _, Nat.zero_le _, rfl, rfl, Owned.nil intE_len _ _ _, by (repeat' (first | (with_reducible exact Below.refl _ _) | (with_reducible assumption) | (with_reducible refine below_drewN ?_ _) | (with_reducible refine Below.drew ?_) | (with_reducible refine below_alloc ?_ _) | (with_reducible refine Below.alloc ?_ ?_ _) | (with_reducible refine Below.setCell ?_ ?_ _) | (with_reducible refine below_go ?_ (by with_reducible assumption)) | (with_reducible refine below_then (by with_reducible assumption) ?_ ?_) | go_size))⟩
  case round =>
    obtain ⟨k, A', m, c', hk, rfl, rfl, ho, hb⟩ := hrel
    have hml : m ≤ k := by
      have := ofBell_len (l.take k) d
      rw [ho.len] at this
      simp at this; omega
    by_cases hlt : k < l.length
    · obtain ⟨x, hx⟩ := some_of_lt hlt
      obtain ⟨b1, o1, rfl, hbb, hc0, hc1⟩ := (h.below hb (Nat.le_refl _)).at_2 hx
      have HX := Lib.hid hx
      have HO := Lib.hid ho
      have hsz := hb.size
      clear hx ho h
      rcases hxd : (x.1 == d)
      · go_wp2
        go_roundw
        case rel => exact ⟨k + 1, A', m, c', by omega, by go_num, rfl, by rw [ofBell_miss HX.out hxd]; exact HO.out.alloc _, by (repeat' (first | (with_reducible exact Below.refl _ _) | (with_reducible assumption) | (with_reducible refine below_drewN ?_ _) | (with_reducible refine Below.drew ?_) | (with_reducible refine below_alloc ?_ _) | (with_reducible refine Below.alloc ?_ ?_ _) | (with_reducible refine Below.setCell ?_ ?_ _) | (with_reducible refine below_go ?_ (by with_reducible assumption)) | (with_reducible refine below_then (by with_reducible assumption) ?_ ?_) | go_size))⟩
        case measure => simp [intOf]; omega
      · go_wp2_with (first | (at_builtin; go_must ((refine wpList_append_rec Try.elInt rfl (.tmp 18) (.tmp 21) rfl rfl ((HO.out.alloc _).alloc _) x.2 rfl (Box.at_ _ [.int .i64 x.2] _ ?_) (intE_one _) ?_ (by decide) ?_ ?_; (focus (first | omega | (simp only [World.size_alloc]; done) | (simp only [World.size_alloc]; omega) | (simp; done) | (simp; omega))); (focus (first | omega | (simp only [World.size_alloc]; done) | (simp only [World.size_alloc]; omega) | (simp; done) | (simp; omega))); (focus (first | omega | (simp only [World.size_alloc]; done) | (simp only [World.size_alloc]; omega) | (simp; done) | (simp; omega))); intro A2 c2 w2 ho2 hg2 hb2))))
        go_roundw
        case rel =>
          refine ⟨k + 1, A2, m + 1, c2, by omega, by go_num, by go_num, ?_, ?_⟩
          · rw [ofBell_hit HX.out hxd]; exact ho2
          · exact ((hb.alloc hsz _).alloc (by simp; omega) _).trans hb2
        case measure => simp [intOf]; omega
    · obtain rfl : k = l.length := by omega
      rw [List.take_of_length_le (Nat.le_refl _)] at ho
      obtain rfl := ho.len
      go_wp2
      go_ret
      exact ⟨_, _, rfl, ho, hb⟩
end Go.Proofs.Ytcpfcgcdahhnjaa
