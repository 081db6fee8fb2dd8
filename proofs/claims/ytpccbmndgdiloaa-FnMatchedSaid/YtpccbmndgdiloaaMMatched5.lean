/- Texts 5 of 7 that the claim leans on: plain laws and the walks' contracts, in order. -/
import Derived.Test.YtpccbmndgdiloaaMMatched4
/- The walks through shifting, choosing and clipping lists of strikes, both sides. -/
namespace Go.Proofs.Ytpccbmndgdiloaa
set_option linter.unusedVariables false
set_option linter.unusedSimpArgs false
open Go.ChangeShapes Go.WideShapes Go.ChangeAt Go.RowKit Go.Deep


set_option maxRecDepth 100000 in
theorem impl_ofBell {A : Option Addr} {n c : Nat} {l : List (Int × Int)} {d : Int} {w : World} (hn : l.length = n) (h : Recs strikeE 2 w A l) (hz : n ≤ 16777216) :
    Calls Try.prog 145 #[.slice A n c, .int .i64 d] w fun e w' => ∃ A' c', e = .returned (.slice A' (ofBellR l d).length c') ∧
      Owned intE 1 3 w' w.heap.size A' (ofBellR l d).length c' (ofBellR l d) ∧ Below w.heap.size w w' := by
  subst hn
  go_in
  go_wp2
  go_loopw [5, 11] (fun v i wr => ∃ (k : Nat) (A' : Option Addr) (m c' : Nat), k ≤ l.length ∧ i = .int .i64 k ∧ v = .slice A' m c' ∧ Owned intE 1 3 wr w.heap.size A' m c' (ofBellR (l.take k) d) ∧ Below w.heap.size w wr) (fun _ i _ => l.length - (intOf i).toNat)
  case atStart => exact ⟨0, _, _, _, Nat.zero_le _, rfl, rfl, Owned.empty intE_len _ _ (Nat.le_refl _), by (repeat' (first | (with_reducible exact Below.refl _ _) | (with_reducible assumption) | (with_reducible refine below_drewN ?_ _) | (with_reducible refine Below.drew ?_) | (with_reducible refine below_alloc ?_ _) | (with_reducible refine Below.alloc ?_ ?_ _) | (with_reducible refine Below.setCell ?_ ?_ _) | (with_reducible refine below_go ?_ (by with_reducible assumption)) | (with_reducible refine below_then (by with_reducible assumption) ?_ ?_) | go_size))⟩
  case round =>
    obtain ⟨k, A', m, c', hk, rfl, rfl, ho, hb⟩ := hrel
    have hml : m ≤ k := by
      have := ofBell_len (l.take k) d
      rw [ho.len] at this
      simp at this; omega
    by_cases hlt : k < l.length
    · obtain ⟨x, hx⟩ := some_of_lt hlt
      obtain ⟨b1, o1, rfl, hbb, hc0, hc1⟩ := (h.below hb (Nat.le_refl _)).at_2 hx
      have HX := Lib.hid hx
      have HO := Lib.hid ho
      have hsz := hb.size
      clear hx ho h
      rcases hxd : (x.1 == d)
      · go_wp2
        go_roundw
        case rel => exact ⟨k + 1, A', m, c', by omega, by go_num, rfl, by rw [ofBell_miss HX.out hxd]; exact HO.out.alloc _, by (repeat' (first | (with_reducible exact Below.refl _ _) | (with_reducible assumption) | (with_reducible refine below_drewN ?_ _) | (with_reducible refine Below.drew ?_) | (with_reducible refine below_alloc ?_ _) | (with_reducible refine Below.alloc ?_ ?_ _) | (with_reducible refine Below.setCell ?_ ?_ _) | (with_reducible refine below_go ?_ (by with_reducible assumption)) | (with_reducible refine below_then (by with_reducible assumption) ?_ ?_) | go_size))⟩
        case measure => simp [intOf]; omega
      · go_wp2_with (first | (at_builtin; go_must ((refine wpList_append_rec Try.elInt rfl (.tmp 19) (.tmp 22) rfl rfl ((HO.out.alloc _).alloc _) x.2 rfl (Box.at_ _ [.int .i64 x.2] _ ?_) (intE_one _) ?_ (by decide) ?_ ?_; (focus (first | omega | (simp only [World.size_alloc]; done) | (simp only [World.size_alloc]; omega) | (simp; done) | (simp; omega))); (focus (first | omega | (simp only [World.size_alloc]; done) | (simp only [World.size_alloc]; omega) | (simp; done) | (simp; omega))); (focus (first | omega | (simp only [World.size_alloc]; done) | (simp only [World.size_alloc]; omega) | (simp; done) | (simp; omega))); intro A2 c2 w2 ho2 hg2 hb2))))
        go_roundw
        case rel =>
          refine ⟨k + 1, A2, m + 1, c2, by omega, by go_num, by go_num, ?_, ?_⟩
          · rw [ofBell_hit HX.out hxd]; exact ho2
          · exact ((hb.alloc hsz _).alloc (by simp; omega) _).trans hb2
        case measure => simp [intOf]; omega
    · obtain rfl : k = l.length := by omega
      rw [List.take_of_length_le (Nat.le_refl _)] at ho
      obtain rfl := ho.len
      go_wp2
      go_ret
      exact ⟨_, _, rfl, ho, hb⟩
set_option maxRecDepth 100000 in
theorem impl_ClippedIn {A : Option Addr} {n c : Nat} {l : List (Int × Int)} {d : Int} {w : World} (hn : l.length = n) (h : Recs strikeE 2 w A l) (hz : n ≤ 16777216) :
    Calls Try.prog 55 #[.slice A n c, .int .i64 d] w fun e w' => ∃ A' c', e = .returned (.tuple #[.slice A' (clipR l d).length c', .bool (clipOk l d)]) ∧
      Owned intE 1 3 w' w.heap.size A' (clipR l d).length c' (clipR l d) ∧ (clipR l d).length ≤ 16777216 ∧ Below w.heap.size w w' := by
  have E : Hid (clipOk l d = (goodStrikes l && inB d 0 10000)) := rfl
  rcases h1 : goodStrikes l
  · have e0 : clipOk l d = false := by rw [E.out, h1]; rfl
    rw [clipR_f e0, e0]
    go_in
    go_wp2_with (first | (go_at_call 138; refine (impl_GoodStrikes hn h hz).mono ?_; rintro e w1 ⟨rfl, hb1⟩))
    go_ret2
    exact ⟨none, 0, rfl, Owned.nil intE_len _ _ _, by decide, hb1⟩
  rcases h2 : inB d 0 10000
  · have e0 : clipOk l d = false := by rw [E.out, h1, h2]; rfl
    rw [clipR_f e0, e0]
    go_in
    go_wp2_with (first | (go_at_call 138; refine (impl_GoodStrikes hn h hz).mono ?_; rintro e w1 ⟨rfl, hb1⟩) | (go_at_call 100; refine (impl_within _ _ _ _).mono ?_; rintro e w' ⟨rfl, rfl⟩))
    go_ret2
    exact ⟨none, 0, rfl, Owned.nil intE_len _ _ _, by decide, hb1⟩
  subst hn
  have e0 := Lib.hid (show clipOk l d = true by rw [E.out, h1, h2]; rfl)
  obtain ⟨hlen, hbd⟩ := goodStrikes_t h1
  have hd := inB_t h2
  have HB := Lib.hid hbd
  clear hbd
  go_in
  go_wp2_with (first | (go_at_call 138; refine (impl_GoodStrikes rfl h hz).mono ?_; rintro e w1 ⟨rfl, hb1⟩) | (go_at_call 100; refine (impl_within _ _ _ _).mono ?_; rintro e w' ⟨rfl, rfl⟩))
  go_loopw [6, 7] (fun v i wr => ∃ (k : Nat) (A' : Option Addr) (m c' : Nat), 1 ≤ k ∧ (k ≤ l.length ∨ k = 1) ∧ i = .int .i64 k ∧ v = .slice A' m c' ∧ Owned intE 1 3 wr w.heap.size A' m c' (pick (soon l d) k) ∧ Below w.heap.size w wr) (fun _ i _ => l.length - (intOf i).toNat)
  case atStart => exact ⟨1, _, _, _, Nat.le_refl _, .inr rfl, rfl, rfl, Owned.empty intE_len _ _ hb1.size, by (repeat' (first | (with_reducible exact Below.refl _ _) | (with_reducible assumption) | (with_reducible refine below_drewN ?_ _) | (with_reducible refine Below.drew ?_) | (with_reducible refine below_alloc ?_ _) | (with_reducible refine Below.alloc ?_ ?_ _) | (with_reducible refine Below.setCell ?_ ?_ _) | (with_reducible refine below_go ?_ (by with_reducible assumption)) | (with_reducible refine below_then (by with_reducible assumption) ?_ ?_) | go_size))⟩
  case round =>
    obtain ⟨k, A', m, c', hk0, hk, rfl, rfl, ho, hb⟩ := hrel
    have hml : m ≤ k := by
      have := pick_len (soon l d) k
      rw [ho.len] at this
      omega
    by_cases hlt : k < l.length
    · obtain ⟨x, hx⟩ := some_of_lt hlt
      obtain ⟨y, hy⟩ := some_of_lt (l := l) (k := k - 1) (by omega)
      have hr := h.below hb (Nat.le_refl _)
      obtain ⟨b1, o1, rfl, hbb, hc0, hc1⟩ := hr.at_2 hx
      obtain ⟨b2, o2, e, _, hd0, hd1⟩ := hr.at_2 hy
      injection e with e
      injection e with e1 e2
      subst e1 e2
      have S := Lib.hid (soon_eq (d := d) (by omega) hx hy)
      have hxb := HB.out x (List.mem_of_getElem? hx)
      have hyb := HB.out y (List.mem_of_getElem? hy)
      have HO := Lib.hid ho
      have hsz := hb.size
      clear hx hy ho h hr
      by_cases hxd : x.2 - y.2 < d
      · have S' := Lib.hid (S.out.trans (decide_eq_true hxd))
        go_wp2
        go_quiet (fail)
        go_wp2_with (first | (at_builtin; go_must ((refine wpList_append_rec Try.elInt rfl (.tmp 37) (.tmp 39) rfl rfl ((HO.out.drewN _).alloc _) (k : Int) rfl (Box.at_ _ [.int .i64 (k : Int)] _ ?_) (intE_one _) ?_ (by decide) ?_ ?_; (focus (first | omega | (simp only [World.size_alloc]; done) | (simp only [World.size_alloc]; omega) | (simp; done) | (simp; omega))); (focus (first | omega | (simp only [World.size_alloc]; done) | (simp only [World.size_alloc]; omega) | (simp; done) | (simp; omega))); (focus (first | omega | (simp only [World.size_alloc]; done) | (simp only [World.size_alloc]; omega) | (simp; done) | (simp; omega))); intro A2 c2 w2 ho2 hg2 hb2))))
        go_roundw
        case rel =>
          refine ⟨k + 1, A2, m + 1, c2, by omega, .inl (by omega), by go_num, by go_num, ?_, ?_⟩
          · rw [pick_hit S'.out]; exact ho2
          · exact ((below_drewN hb _).alloc (by simp; omega) _).trans hb2
        case measure => simp [intOf]; omega
      · have S' := Lib.hid (S.out.trans (decide_eq_false hxd))
        go_wp2
        go_quiet (fail)
        go_wp2
        go_roundw
        case rel => exact ⟨k + 1, A', m, c', by omega, .inl (by omega), by go_num, rfl, by rw [pick_miss S'.out]; exact HO.out.drewN _, by (repeat' (first | (with_reducible exact Below.refl _ _) | (with_reducible assumption) | (with_reducible refine below_drewN ?_ _) | (with_reducible refine Below.drew ?_) | (with_reducible refine below_alloc ?_ _) | (with_reducible refine Below.alloc ?_ ?_ _) | (with_reducible refine Below.setCell ?_ ?_ _) | (with_reducible refine below_go ?_ (by with_reducible assumption)) | (with_reducible refine below_then (by with_reducible assumption) ?_ ?_) | go_size))⟩
        case measure => simp [intOf]; omega
    · have ep : pick (soon l d) k = clipR l d := by
        rw [clipR_t e0.out]
        by_cases h0 : l.length ≤ 1
        · rw [clip_short h0]
          obtain rfl : k = 1 := by omega
          rfl
        · rw [show k = l.length by omega]
      rw [ep] at ho
      obtain rfl := ho.len
      have hll := pick_len (soon l d) l.length
      rw [← clipR_t e0.out] at hll
      go_wp2
      go_ret2
      rw [e0.out]
      exact ⟨_, _, rfl, ho, by omega, hb⟩

set_option maxRecDepth 100000 in
theorem spec_l21Of {A : Option Addr} {n c : Nat} {l : List (Int × Int)} {d : Int} {w : World} (hn : l.length = n) (h : Recs strikeE 2 w A l) (hz : n ≤ 16777216) :
    Calls Try.prog 147 #[.slice A n c, .int .i64 d] w fun e w' => ∃ A' c', e = .returned (.slice A' (ofBellR l d).length c') ∧
      Owned intE 1 3 w' w.heap.size A' (ofBellR l d).length c' (ofBellR l d) ∧ Below w.heap.size w w' := by
  subst hn
  go_in
  go_wp2
  go_loopw [5, 10] (fun v i wr => ∃ (k : Nat) (A' : Option Addr) (m c' : Nat), k ≤ l.length ∧ i = .int .i64 k ∧ v = .slice A' m c' ∧ Owned intE 1 3 wr w.heap.size A' m c' (ofBellR (l.take k) d) ∧ Below w.heap.size w wr) (fun _ i _ => l.length - (intOf i).toNat)
  case atStart => exact ⟨0, _, _, _, Nat.zero_le _, rfl, rfl, Owned.nil intE_len _ _ _, by (repeat' (first | (with_reducible exact Below.refl _ _) | (with_reducible assumption) | (with_reducible refine below_drewN ?_ _) | (with_reducible refine Below.drew ?_) | (with_reducible refine below_alloc ?_ _) | (with_reducible refine Below.alloc ?_ ?_ _) | (with_reducible refine Below.setCell ?_ ?_ _) | (with_reducible refine below_go ?_ (by with_reducible assumption)) | (with_reducible refine below_then (by with_reducible assumption) ?_ ?_) | go_size))⟩
  case round =>
    obtain ⟨k, A', m, c', hk, rfl, rfl, ho, hb⟩ := hrel
    have hml : m ≤ k := by
      have := ofBell_len (l.take k) d
      rw [ho.len] at this
      simp at this; omega
    by_cases hlt : k < l.length
    · obtain ⟨x, hx⟩ := some_of_lt hlt
      obtain ⟨b1, o1, rfl, hbb, hc0, hc1⟩ := (h.below hb (Nat.le_refl _)).at_2 hx
      have HX := Lib.hid hx
      have HO := Lib.hid ho
      have hsz := hb.size
      clear hx ho h
      rcases hxd : (x.1 == d)
      · go_wp2
        go_roundw
        case rel => exact ⟨k + 1, A', m, c', by omega, by go_num, rfl, by rw [ofBell_miss HX.out hxd]; exact HO.out.alloc _, by (repeat' (first | (with_reducible exact Below.refl _ _) | (with_reducible assumption) | (with_reducible refine below_drewN ?_ _) | (with_reducible refine Below.drew ?_) | (with_reducible refine below_alloc ?_ _) | (with_reducible refine Below.alloc ?_ ?_ _) | (with_reducible refine Below.setCell ?_ ?_ _) | (with_reducible refine below_go ?_ (by with_reducible assumption)) | (with_reducible refine below_then (by with_reducible assumption) ?_ ?_) | go_size))⟩
        case measure => simp [intOf]; omega
      · go_wp2_with (first | (at_builtin; go_must ((refine wpList_append_rec Try.elInt rfl (.tmp 18) (.tmp 21) rfl rfl ((HO.out.alloc _).alloc _) x.2 rfl (Box.at_ _ [.int .i64 x.2] _ ?_) (intE_one _) ?_ (by decide) ?_ ?_; (focus (first | omega | (simp only [World.size_alloc]; done) | (simp only [World.size_alloc]; omega) | (simp; done) | (simp; omega))); (focus (first | omega | (simp only [World.size_alloc]; done) | (simp only [World.size_alloc]; omega) | (simp; done) | (simp; omega))); (focus (first | omega | (simp only [World.size_alloc]; done) | (simp only [World.size_alloc]; omega) | (simp; done) | (simp; omega))); intro A2 c2 w2 ho2 hg2 hb2))))
        go_roundw
        case rel =>
          refine ⟨k + 1, A2, m + 1, c2, by omega, by go_num, by go_num, ?_, ?_⟩
          · rw [ofBell_hit HX.out hxd]; exact ho2
          · exact ((hb.alloc hsz _).alloc (by simp; omega) _).trans hb2
        case measure => simp [intOf]; omega
    · obtain rfl : k = l.length := by omega
      rw [List.take_of_length_le (Nat.le_refl _)] at ho
      obtain rfl := ho.len
      go_wp2
      go_ret
      exact ⟨_, _, rfl, ho, hb⟩
set_option maxRecDepth 100000 in
theorem spec_ClippedIn {A : Option Addr} {n c : Nat} {l : List (Int × Int)} {d : Int} {w : World} (hn : l.length = n) (h : Recs strikeE 2 w A l) (hz : n ≤ 16777216) :
    Calls Try.prog 56 #[.slice A n c, .int .i64 d] w fun e w' => ∃ A' c', e = .returned (.tuple #[.slice A' (clipR l d).length c', .bool (clipOk l d)]) ∧
      Owned intE 1 3 w' w.heap.size A' (clipR l d).length c' (clipR l d) ∧ (clipR l d).length ≤ 16777216 ∧ Below w.heap.size w w' := by
  have E : Hid (clipOk l d = (goodStrikes l && inB d 0 10000)) := rfl
  rcases h1 : goodStrikes l
  · have e0 : clipOk l d = false := by rw [E.out, h1]; rfl
    rw [clipR_f e0, e0]
    go_in
    go_wp2_with (first | (go_at_call 139; refine (spec_l21Good hn h hz).mono ?_; rintro e w1 ⟨rfl, hb1⟩))
    go_ret2
    exact ⟨none, 0, rfl, Owned.nil intE_len _ _ _, by decide, hb1⟩
  rcases h2 : inB d 0 10000
  · have e0 : clipOk l d = false := by rw [E.out, h1, h2]; rfl
    rw [clipR_f e0, e0]
    go_in
    go_wp2_with (first | (go_at_call 139; refine (spec_l21Good hn h hz).mono ?_; rintro e w1 ⟨rfl, hb1⟩) | (go_at_call 104; refine (spec_l1In _ _ _ _).mono ?_; rintro e w' ⟨rfl, rfl⟩))
    go_ret2
    exact ⟨none, 0, rfl, Owned.nil intE_len _ _ _, by decide, hb1⟩
  subst hn
  have e0 := Lib.hid (show clipOk l d = true by rw [E.out, h1, h2]; rfl)
  obtain ⟨hlen, hbd⟩ := goodStrikes_t h1
  have hd := inB_t h2
  have HB := Lib.hid hbd
  clear hbd
  go_in
  go_wp2_with (first | (go_at_call 139; refine (spec_l21Good rfl h hz).mono ?_; rintro e w1 ⟨rfl, hb1⟩) | (go_at_call 104; refine (spec_l1In _ _ _ _).mono ?_; rintro e w' ⟨rfl, rfl⟩))
  go_loopw [6, 7] (fun v i wr => ∃ (k : Nat) (A' : Option Addr) (m c' : Nat), 1 ≤ k ∧ (k ≤ l.length ∨ k = 1) ∧ i = .int .i64 k ∧ v = .slice A' m c' ∧ Owned intE 1 3 wr w.heap.size A' m c' (pick (soon l d) k) ∧ Below w.heap.size w wr) (fun _ i _ => l.length - (intOf i).toNat)
  case atStart => exact ⟨1, _, _, _, Nat.le_refl _, .inr rfl, rfl, rfl, Owned.nil intE_len _ _ _, by (repeat' (first | (with_reducible exact Below.refl _ _) | (with_reducible assumption) | (with_reducible refine below_drewN ?_ _) | (with_reducible refine Below.drew ?_) | (with_reducible refine below_alloc ?_ _) | (with_reducible refine Below.alloc ?_ ?_ _) | (with_reducible refine Below.setCell ?_ ?_ _) | (with_reducible refine below_go ?_ (by with_reducible assumption)) | (with_reducible refine below_then (by with_reducible assumption) ?_ ?_) | go_size))⟩
  case round =>
    obtain ⟨k, A', m, c', hk0, hk, rfl, rfl, ho, hb⟩ := hrel
    have hml : m ≤ k := by
      have := pick_len (soon l d) k
      rw [ho.len] at this
      omega
    by_cases hlt : k < l.length
    · obtain ⟨x, hx⟩ := some_of_lt hlt
      obtain ⟨y, hy⟩ := some_of_lt (l := l) (k := k - 1) (by omega)
      have hr := h.below hb (Nat.le_refl _)
      obtain ⟨b1, o1, rfl, hbb, hc0, hc1⟩ := hr.at_2 hx
      obtain ⟨b2, o2, e, _, hd0, hd1⟩ := hr.at_2 hy
      injection e with e
      injection e with e1 e2
      subst e1 e2
      have S := Lib.hid (soon_eq (d := d) (by omega) hx hy)
      have hxb := HB.out x (List.mem_of_getElem? hx)
      have hyb := HB.out y (List.mem_of_getElem? hy)
      have HO := Lib.hid ho
      have hsz := hb.size
      clear hx hy ho h hr
      by_cases hxd : x.2 - y.2 < d
      · have S' := Lib.hid (S.out.trans (decide_eq_true hxd))
        go_wp2
        go_quiet (fail)
        go_wp2_with (first | (at_builtin; go_must ((refine wpList_append_rec Try.elInt rfl (.tmp 36) (.tmp 38) rfl rfl ((HO.out.drewN _).alloc _) (k : Int) rfl (Box.at_ _ [.int .i64 (k : Int)] _ ?_) (intE_one _) ?_ (by decide) ?_ ?_; (focus (first | omega | (simp only [World.size_alloc]; done) | (simp only [World.size_alloc]; omega) | (simp; done) | (simp; omega))); (focus (first | omega | (simp only [World.size_alloc]; done) | (simp only [World.size_alloc]; omega) | (simp; done) | (simp; omega))); (focus (first | omega | (simp only [World.size_alloc]; done) | (simp only [World.size_alloc]; omega) | (simp; done) | (simp; omega))); intro A2 c2 w2 ho2 hg2 hb2))))
        go_roundw
        case rel =>
          refine ⟨k + 1, A2, m + 1, c2, by omega, .inl (by omega), by go_num, by go_num, ?_, ?_⟩
          · rw [pick_hit S'.out]; exact ho2
          · exact ((below_drewN hb _).alloc (by simp; omega) _).trans hb2
        case measure => simp [intOf]; omega
      · have S' := Lib.hid (S.out.trans (decide_eq_false hxd))
        go_wp2
        go_quiet (fail)
        go_wp2
        go_roundw
        case rel => exact ⟨k + 1, A', m, c', by omega, .inl (by omega), by go_num, rfl, by rw [pick_miss S'.out]; exact HO.out.drewN _, by (repeat' (first | (with_reducible exact Below.refl _ _) | (with_reducible assumption) | (with_reducible refine below_drewN ?_ _) | (with_reducible refine Below.drew ?_) | (with_reducible refine below_alloc ?_ _) | (with_reducible refine Below.alloc ?_ ?_ _) | (with_reducible refine Below.setCell ?_ ?_ _) | (with_reducible refine below_go ?_ (by with_reducible assumption)) | (with_reducible refine below_then (by with_reducible assumption) ?_ ?_) | go_size))⟩
        case measure => simp [intOf]; omega
    · have ep : pick (soon l d) k = clipR l d := by
        rw [clipR_t e0.out]
        by_cases h0 : l.length ≤ 1
        · rw [clip_short h0]
          obtain rfl : k = 1 := by omega
          rfl
        · rw [show k = l.length by omega]
      rw [ep] at ho
      obtain rfl := ho.len
      have hll := pick_len (soon l d) l.length
      rw [← clipR_t e0.out] at hll
      go_wp2
      go_ret2
      rw [e0.out]
      exact ⟨_, _, rfl, ho, by omega, hb⟩
end Go.Proofs.Ytpccbmndgdiloaa
/- The walks through ideal strikes, both sides. -/
namespace Go.Proofs.Ytpccbmndgdiloaa
set_option linter.unusedVariables false
set_option linter.unusedSimpArgs false
open Go.ChangeShapes Go.WideShapes Go.ChangeAt Go.RowKit Go.Deep
theorem spec_l1AtI {b : ByteArray} {k : Nat} {w : World} (hk : k < b.size) (hz : b.size ≤ 16777216) (hlo : 48 ≤ PlainAid.bt b k) :
    Calls Try.prog 218 #[.string b, .int .i64 ((k : Int) + 1)] w fun e w' => e = .returned (.int .i64 (PlainAid.bt b k - 48)) ∧ w = w' := by
  have hbb := PlainAid.get_bt b
  have hn1 := PlainAid.bt_le b k
  go_in
  go_wp2
  go_ret
  exact ⟨rfl, rfl⟩
set_option maxHeartbeats 1000000 in
set_option maxRecDepth 100000 in
theorem impl_IdealStrikes {A : Option Addr} {n c : Nat} {x y z : Int} {l : List ByteArray} {w : World} (hn : l.length = n) (h : Strs w A l) (hz : n ≤ 1048576) (hs : ∀ s ∈ l, s.size ≤ 16777216) :
    Calls Try.prog 143 #[.agg #[.int .i64 x, .int .i64 y, .int .i64 z], .slice A n c] w fun e w' => ∃ A' c', e = .returned (.tuple #[.slice A' (idlR x y z l).length c', .bool (idlOk x y z l)]) ∧
      Owned strikeE 2 140 w' w.heap.size A' (idlR x y z l).length c' (idlR x y z l) ∧ (idlR x y z l).length ≤ 16777216 ∧ Below w.heap.size w w' := by
  subst hn
  have E : Hid (idlOk x y z l = (goodBeatB x y z && (goodRows l && goodStrikes (idl x y z l l.length)))) := rfl
  have b0 : Below w.heap.size w (w.alloc (.cells #[.int .i64 x, .int .i64 y, .int .i64 z] 80)) := by (repeat' (first | (with_reducible exact Below.refl _ _) | (with_reducible assumption) | (with_reducible refine below_drewN ?_ _) | (with_reducible refine Below.drew ?_) | (with_reducible refine below_alloc ?_ _) | (with_reducible refine Below.alloc ?_ ?_ _) | (with_reducible refine Below.setCell ?_ ?_ _) | (with_reducible refine below_go ?_ (by with_reducible assumption)) | (with_reducible refine below_then (by with_reducible assumption) ?_ ?_) | go_size))
  have K0 := Blk.at_ w 80 [.int .i64 x, .int .i64 y, .int .i64 z] (b := w.heap.size) rfl
  rcases h1 : goodBeatB x y z
  · have e0 : idlOk x y z l = false := by rw [E.out, h1]; rfl
    rw [idlR_f e0, e0]
    clear e0
    go_in
    go_wp2_with (first | (go_at_call 199; refine (impl_GoodBeat _ _ _ _).mono ?_; rintro e w1 ⟨rfl, hb1⟩; rw [h1]))
    go_ret2
    exact ⟨none, 0, rfl, Owned.nil strikeE_len _ _ _, by decide, below_go b0 hb1⟩
  rcases h2 : goodRows l
  · have e0 : idlOk x y z l = false := by rw [E.out, h1, h2]; rfl
    rw [idlR_f e0, e0]
    clear e0
    go_in
    go_wp2_with (first | (go_at_call 199; refine (impl_GoodBeat _ _ _ _).mono ?_; rintro e w1 ⟨rfl, hb1⟩; rw [h1]) | (go_at_call 89; refine (impl_GoodRows rfl ((h.up b0).up hb1) (by omega) hs).mono ?_; rintro e w' ⟨rfl, rfl⟩; rw [h2]))
    go_ret2
    exact ⟨none, 0, rfl, Owned.nil strikeE_len _ _ _, by decide, below_go b0 hb1⟩
  obtain ⟨hx, hy, hzz⟩ := goodBeat_t h1
  have hl8 := goodRows_len h2
  have HGR := Lib.hid (goodRows_mem h2)
  have HIL := Lib.hid (fun k hk => idl_len (x := x) (y := y) (z := z) (fun s hs' => (goodRow_n (goodRows_mem h2 s hs')).2) k hk)
  go_in
  go_wp2_with (first | (go_at_call 199; refine (impl_GoodBeat _ _ _ _).mono ?_; rintro e w2 ⟨rfl, hb1⟩; rw [h1]) | (go_at_call 89; refine (impl_GoodRows rfl ((h.up b0).up hb1) (by omega) hs).mono ?_; rintro e w' ⟨rfl, rfl⟩; rw [h2]))
  have hbA : Below w.heap.size w w2 := below_go b0 hb1
  have hsA : w.heap.size < w2.heap.size := by have := hb1.size; simp at this; omega
  have HK := Lib.hid (K0.up hb1)
  clear K0 b0 hb1 hs
  go_loopw [6, 21] (fun v i wr => ∃ (k : Nat) (A' : Option Addr) (N c' : Nat), k ≤ l.length ∧ i = .int .i64 k ∧ v = .slice A' N c' ∧ Owned strikeE 2 140 wr w2.heap.size A' N c' (idl x y z l k) ∧ Below w2.heap.size w2 wr) (fun _ i _ => l.length - (intOf i).toNat)
  case atStart => exact ⟨0, _, _, _, Nat.zero_le _, rfl, rfl, Owned.empty strikeE_len _ _ (Nat.le_refl _), by (repeat' (first | (with_reducible exact Below.refl _ _) | (with_reducible assumption) | (with_reducible refine below_drewN ?_ _) | (with_reducible refine Below.drew ?_) | (with_reducible refine below_alloc ?_ _) | (with_reducible refine Below.alloc ?_ ?_ _) | (with_reducible refine Below.setCell ?_ ?_ _) | (with_reducible refine below_go ?_ (by with_reducible assumption)) | (with_reducible refine below_then (by with_reducible assumption) ?_ ?_) | go_size))⟩
  case round =>
    obtain ⟨k, A', N, c', hk, rfl, rfl, ho, hb⟩ := hrel
    rename World => wo
    have hbw := hbA.trans (hb.mono (by omega))
    have hIL := HIL.out k hk
    have hoN := ho.len
    rw [hoN] at hIL
    by_cases hlt : k < l.length
    · obtain ⟨b1, o1, r, rfl, hbb1, hr, hcr⟩ := (h.below hbw (Nat.le_refl _)).at_str hlt
      have hgr := HGR.out r (List.mem_of_getElem? hr)
      have hr8 := goodRow_n hgr
      have IS := Lib.hid (idl_succ (x := x) (y := y) (z := z) hr)
      have HO := Lib.hid ho
      have hrz := hr8.2
      have hbt := PlainAid.get_bt r
      clear hr ho
      go_wp2
      go_loopw [6, 28] (fun v i wr => ∃ (q : Nat) (A' : Option Addr) (N' c' : Nat), q ≤ r.size ∧ i = .int .i64 (q : Int) ∧ v = .slice A' N' c' ∧ N' ≤ N + q ∧ Owned strikeE 2 140 wr w2.heap.size A' N' c' (idl x y z l k ++ rowStr x y z r k q) ∧ Below w2.heap.size w2 wr) (fun _ i _ => r.size - (intOf i).toNat)
      case atStart => exact ⟨0, A', N, c', Nat.zero_le _, rfl, rfl, Nat.le_refl _, by simpa [rowStr] using HO.out, hb⟩
      case round =>
        obtain ⟨q, A2, N2, c2, hq, rfl, rfl, hN2, ho2, hb2⟩ := hrel
        rename World => wi
        by_cases hqt : q < r.size
        · have hdq := goodRow_dig hgr hqt
          have hbq : PlainAid.bt r q = dg r q + 48 := by simp [dg]
          have RS := Lib.hid (rowStr_succ x y z r k q)
          have HO2 := Lib.hid ho2
          have hsz2 := hb2.size
          have KB := HK.out.below hb2 hsA
          have k0 := KB.cell 0; have k1 := KB.cell 1; have k2 := KB.cell 2
          simp only [List.getElem?_cons_zero, List.getElem?_cons_succ] at k0 k1 k2
          have bb := blowAtZ_bd (r := (k : Int)) (p := (q : Int) + 1) hx hy hzz (n := (r.size : Int)) (by omega) (by omega) (by omega)
          obtain ⟨bz, hbz⟩ : ∃ u, u = blowAtZ x y z r.size k ((q : Int) + 1) := ⟨_, rfl⟩
          have HBZ := Lib.hid hbz
          rw [← hbz] at bb
          clear hbz ho2 KB
          have carry : Hid (∀ u : World, Below wi.heap.size wi u → u.cell? ⟨w.heap.size, 0, none⟩ = some (.int .i64 x) ∧ u.cell? ⟨w.heap.size, 1, none⟩ = some (.int .i64 y) ∧ u.cell? ⟨w.heap.size, 2, none⟩ = some (.int .i64 z)) := Lib.hid (fun u hu =>
            have q : ∀ o : Nat, u.cell? ⟨w.heap.size, o, none⟩ = wi.cell? ⟨w.heap.size, o, none⟩ := fun o => hu.cell (p := ⟨w.heap.size, o, none⟩) (by show w.heap.size < wi.heap.size; omega)
            ⟨(q 0).trans k0, (q 1).trans k1, (q 2).trans k2⟩)
          have far : Hid (∀ v u : World, Below wi.heap.size wi v → v.grownBy u (Value.slice A2 N2 c2).ownBlock → u.cell? ⟨w.heap.size, 0, none⟩ = some (.int .i64 x) ∧ u.cell? ⟨w.heap.size, 1, none⟩ = some (.int .i64 y) ∧ u.cell? ⟨w.heap.size, 2, none⟩ = some (.int .i64 z)) := Lib.hid (fun v u hv hg => by
            have hvs := hv.size
            have f1 : ∀ o : Nat, u.cell? ⟨w.heap.size, o, none⟩ = v.cell? ⟨w.heap.size, o, none⟩ := fun o => hg.cell_far _ (by show w.heap.size < v.heap.size; omega) (fun e => by have := HO2.out.blk e.symm; dsimp only at this; omega)
            rw [f1, f1, f1]
            exact carry.out v hv)
          go_wp2
          have hqI : (q : Int) < (r.size : Int) := by omega
          have hw1 := wrap_bt r q
          have gu : IntKind.u8.wrap (dg r q) = dg r q := IntWalk.u8_in _ (by omega)
          have gi : IntKind.i64.wrap (dg r q) = dg r q := wrap_id (by omega)
          have gq : IntKind.i64.wrap ((q : Int) + 1) = (q : Int) + 1 := wrap_id (by omega)
          have gs : dg r q + 48 - 48 = dg r q := by omega
          go_region_held3 (fun u => u.cell? ⟨w.heap.size, 0, none⟩ = some (.int .i64 x) ∧ u.cell? ⟨w.heap.size, 1, none⟩ = some (.int .i64 y) ∧ u.cell? ⟨w.heap.size, 2, none⟩ = some (.int .i64 z)) (first | exact far.out _ _ (hB2.alloc hB2.size _) hg3 | exact carry.out _ (hB2.alloc hB2.size _) | exact carry.out _ hB2 | exact carry.out _ (by (repeat' (first | (with_reducible exact Below.refl _ _) | (with_reducible assumption) | (with_reducible refine below_drewN ?_ _) | (with_reducible refine Below.drew ?_) | (with_reducible refine below_alloc ?_ _) | (with_reducible refine Below.alloc ?_ ?_ _) | (with_reducible refine Below.setCell ?_ ?_ _) | (with_reducible refine below_go ?_ (by with_reducible assumption)) | (with_reducible refine below_then (by with_reducible assumption) ?_ ?_) | go_size)))) (first | (go_at_call 200; refine (impl_blowAt _ _ _ _ _ _ _ hx hy hzz (by omega) (by omega) (by omega)).mono ?_; rintro e w3 ⟨rfl, hbd⟩; rw [← HBZ.out]; have hB2 := below_of_drew hbd) | ((refine step_append_rec Try.elStrike (by rfl) _ _ (by rfl) (by rfl) ((HO2.out.up hB2).alloc _) (dg r q, bz) (by rfl) (Box.at_ _ [.int .i64 (dg r q), .int .i64 bz] _ (by rfl)) (strikeE_one _) (by omega) (by decide) (by have := hB2.size; simp; omega) ?_; intro A3 c3 w4 ho3 hg3 hb3)))
          all_goals
            have hfin := (hb2.trans ((hB2.alloc hB2.size _).mono (by omega))).trans hb3
            clear far carry k0 k1 k2
            go_wp2
            go_roundw
            case rel =>
              refine ⟨q + 1, A3, N2 + 1, c3, by omega, by go_num, by go_num, by omega, ?_, hfin⟩
              rw [RS.out, ← List.append_assoc, ← HBZ.out]; exact ho3
            case measure => simp [intOf]; omega
        · obtain rfl : q = r.size := by omega
          go_wp2
          go_roundw
          case rel => exact ⟨k + 1, A2, N2, c2, by omega, by go_num, rfl, by rw [IS.out]; exact ho2, hb2⟩
          case measure => simp [intOf]; omega
    · obtain rfl : k = l.length := by omega
      rcases h3 : goodStrikes (idl x y z l l.length)
      · have e0 := Lib.hid (show idlOk x y z l = false by rw [E.out, h1, h2, h3]; rfl)
        go_wp2_with (first | (go_at_call 138; refine (impl_GoodStrikes hoN ho.recs (by omega)).mono ?_; rintro e w3 ⟨rfl, hb3⟩; rw [h3]))
        go_ret2
        rw [idlR_f e0.out, e0.out]
        exact ⟨none, 0, rfl, Owned.nil strikeE_len _ _ _, by decide, below_go hbw hb3⟩
      · have e0 := Lib.hid (show idlOk x y z l = true by rw [E.out, h1, h2, h3]; rfl)
        go_wp2_with (first | (go_at_call 138; refine (impl_GoodStrikes hoN ho.recs (by omega)).mono ?_; rintro e w3 ⟨rfl, hb3⟩; rw [h3]))
        go_ret2
        rw [idlR_t e0.out, e0.out, hoN]
        exact ⟨_, _, rfl, (ho.up hb3).base_le (by omega), by omega, below_go hbw hb3⟩
set_option maxHeartbeats 1000000 in
set_option maxRecDepth 100000 in
theorem spec_l21Ideal {A : Option Addr} {n c : Nat} {x y z : Int} {l : List ByteArray} {w : World} (hn : l.length = n) (h : Strs w A l) (h1 : goodBeatB x y z = true) (h2 : goodRows l = true) :
    Calls Try.prog 197 #[.agg #[.int .i64 x, .int .i64 y, .int .i64 z], .slice A n c] w fun e w' => ∃ A' c', e = .returned (.slice A' (idl x y z l l.length).length c') ∧
      Owned strikeE 2 140 w' w.heap.size A' (idl x y z l l.length).length c' (idl x y z l l.length) ∧ (idl x y z l l.length).length ≤ 6400 ∧ Below w.heap.size w w' := by
  subst hn
  obtain ⟨hx, hy, hzz⟩ := goodBeat_t h1
  have hl8 := goodRows_len h2
  have HGR := Lib.hid (goodRows_mem h2)
  have HIL := Lib.hid (fun k hk => idl_len (x := x) (y := y) (z := z) (fun s hs' => (goodRow_n (goodRows_mem h2 s hs')).2) k hk)
  have hbA : Below w.heap.size w (w.alloc (.cells #[.int .i64 x, .int .i64 y, .int .i64 z] 80)) := by (repeat' (first | (with_reducible exact Below.refl _ _) | (with_reducible assumption) | (with_reducible refine below_drewN ?_ _) | (with_reducible refine Below.drew ?_) | (with_reducible refine below_alloc ?_ _) | (with_reducible refine Below.alloc ?_ ?_ _) | (with_reducible refine Below.setCell ?_ ?_ _) | (with_reducible refine below_go ?_ (by with_reducible assumption)) | (with_reducible refine below_then (by with_reducible assumption) ?_ ?_) | go_size))
  have HK := Lib.hid (Blk.at_ w 80 [.int .i64 x, .int .i64 y, .int .i64 z] (b := w.heap.size) rfl)
  have hsA : w.heap.size < (w.alloc (.cells #[.int .i64 x, .int .i64 y, .int .i64 z] 80)).heap.size := by simp
  go_in
  go_wp2
  obtain ⟨w2, hw2⟩ : ∃ u, u = w.alloc (.cells #[.int .i64 x, .int .i64 y, .int .i64 z] 80) := ⟨_, rfl⟩
  rw [← hw2] at hbA HK hsA ⊢
  clear hw2
  go_loopw [5, 11] (fun v i wr => ∃ (k : Nat) (A' : Option Addr) (N c' : Nat), k ≤ l.length ∧ i = .int .i64 k ∧ v = .slice A' N c' ∧ Owned strikeE 2 140 wr w2.heap.size A' N c' (idl x y z l k) ∧ Below w2.heap.size w2 wr) (fun _ i _ => l.length - (intOf i).toNat)
  case atStart => exact ⟨0, _, _, _, Nat.zero_le _, rfl, rfl, Owned.nil strikeE_len _ _ _, by (repeat' (first | (with_reducible exact Below.refl _ _) | (with_reducible assumption) | (with_reducible refine below_drewN ?_ _) | (with_reducible refine Below.drew ?_) | (with_reducible refine below_alloc ?_ _) | (with_reducible refine Below.alloc ?_ ?_ _) | (with_reducible refine Below.setCell ?_ ?_ _) | (with_reducible refine below_go ?_ (by with_reducible assumption)) | (with_reducible refine below_then (by with_reducible assumption) ?_ ?_) | go_size))⟩
  case round =>
    obtain ⟨k, A', N, c', hk, rfl, rfl, ho, hb⟩ := hrel
    rename World => wo
    have hbw := hbA.trans (hb.mono (by omega))
    have hIL := HIL.out k hk
    have hoN := ho.len
    rw [hoN] at hIL
    by_cases hlt : k < l.length
    · obtain ⟨b1, o1, r, rfl, hbb1, hr, hcr⟩ := (h.below hbw (Nat.le_refl _)).at_str hlt
      have hgr := HGR.out r (List.mem_of_getElem? hr)
      have hr8 := goodRow_n hgr
      have IS := Lib.hid (idl_succ (x := x) (y := y) (z := z) hr)
      have HO := Lib.hid ho
      have hrz := hr8.2
      have hbt := PlainAid.get_bt r
      clear hr ho
      go_wp2
      go_loopw [5, 8] (fun v i wr => ∃ (q : Nat) (A' : Option Addr) (N' c' : Nat), q ≤ r.size ∧ i = .int .i64 ((q : Int) + 1) ∧ v = .slice A' N' c' ∧ N' ≤ N + q ∧ Owned strikeE 2 140 wr w2.heap.size A' N' c' (idl x y z l k ++ rowStr x y z r k q) ∧ Below w2.heap.size w2 wr) (fun _ i _ => (r.size + 1) - (intOf i).toNat)
      case atStart => exact ⟨0, A', N, c', Nat.zero_le _, by go_num, rfl, Nat.le_refl _, by simpa [rowStr] using HO.out, hb⟩
      case round =>
        obtain ⟨q, A2, N2, c2, hq, rfl, rfl, hN2, ho2, hb2⟩ := hrel
        rename World => wi
        by_cases hqt : q < r.size
        · have hdq := goodRow_dig hgr hqt
          have hbq : PlainAid.bt r q = dg r q + 48 := by simp [dg]
          have RS := Lib.hid (rowStr_succ x y z r k q)
          have HO2 := Lib.hid ho2
          have hsz2 := hb2.size
          have KB := HK.out.below hb2 hsA
          have k0 := KB.cell 0; have k1 := KB.cell 1; have k2 := KB.cell 2
          simp only [List.getElem?_cons_zero, List.getElem?_cons_succ] at k0 k1 k2
          have bb := blowAtZ_bd (r := (k : Int)) (p := (q : Int) + 1) hx hy hzz (n := (r.size : Int)) (by omega) (by omega) (by omega)
          obtain ⟨bz, hbz⟩ : ∃ u, u = blowAtZ x y z r.size k ((q : Int) + 1) := ⟨_, rfl⟩
          have HBZ := Lib.hid hbz
          rw [← hbz] at bb
          clear hbz ho2 KB
          have carry : Hid (∀ u : World, Below wi.heap.size wi u → u.cell? ⟨w.heap.size, 0, none⟩ = some (.int .i64 x) ∧ u.cell? ⟨w.heap.size, 1, none⟩ = some (.int .i64 y) ∧ u.cell? ⟨w.heap.size, 2, none⟩ = some (.int .i64 z)) := Lib.hid (fun u hu =>
            have q : ∀ o : Nat, u.cell? ⟨w.heap.size, o, none⟩ = wi.cell? ⟨w.heap.size, o, none⟩ := fun o => hu.cell (p := ⟨w.heap.size, o, none⟩) (by show w.heap.size < wi.heap.size; omega)
            ⟨(q 0).trans k0, (q 1).trans k1, (q 2).trans k2⟩)
          have far : Hid (∀ v u : World, Below wi.heap.size wi v → v.grownBy u (Value.slice A2 N2 c2).ownBlock → u.cell? ⟨w.heap.size, 0, none⟩ = some (.int .i64 x) ∧ u.cell? ⟨w.heap.size, 1, none⟩ = some (.int .i64 y) ∧ u.cell? ⟨w.heap.size, 2, none⟩ = some (.int .i64 z)) := Lib.hid (fun v u hv hg => by
            have hvs := hv.size
            have f1 : ∀ o : Nat, u.cell? ⟨w.heap.size, o, none⟩ = v.cell? ⟨w.heap.size, o, none⟩ := fun o => hg.cell_far _ (by show w.heap.size < v.heap.size; omega) (fun e => by have := HO2.out.blk e.symm; dsimp only at this; omega)
            rw [f1, f1, f1]
            exact carry.out v hv)
          go_wp2
          have hqI : (q : Int) < (r.size : Int) := by omega
          have hw1 := wrap_bt r q
          have gu : IntKind.u8.wrap (dg r q) = dg r q := IntWalk.u8_in _ (by omega)
          have gi : IntKind.i64.wrap (dg r q) = dg r q := wrap_id (by omega)
          have gq : IntKind.i64.wrap ((q : Int) + 1) = (q : Int) + 1 := wrap_id (by omega)
          have gs : dg r q + 48 - 48 = dg r q := by omega
          go_region_held3 (fun u => u.cell? ⟨w.heap.size, 0, none⟩ = some (.int .i64 x) ∧ u.cell? ⟨w.heap.size, 1, none⟩ = some (.int .i64 y) ∧ u.cell? ⟨w.heap.size, 2, none⟩ = some (.int .i64 z)) (first | exact far.out _ _ (hB2.alloc hB2.size _) hg3 | exact carry.out _ (hB2.alloc hB2.size _) | exact carry.out _ hB2 | exact carry.out _ (by (repeat' (first | (with_reducible exact Below.refl _ _) | (with_reducible assumption) | (with_reducible refine below_drewN ?_ _) | (with_reducible refine Below.drew ?_) | (with_reducible refine below_alloc ?_ _) | (with_reducible refine Below.alloc ?_ ?_ _) | (with_reducible refine Below.setCell ?_ ?_ _) | (with_reducible refine below_go ?_ (by with_reducible assumption)) | (with_reducible refine below_then (by with_reducible assumption) ?_ ?_) | go_size)))) (first | (go_at_call 218; refine (spec_l1AtI hqt (by omega) (by omega)).mono ?_; rw [hbq, gs]; rintro e w' ⟨rfl, rfl⟩) | (go_at_call 227; refine (spec_l21Blow _ _ _ _ _ _ _ hx hy hzz (by omega) (by omega) (by omega)).mono ?_; rintro e w3 ⟨rfl, hbd⟩; rw [← HBZ.out]; have hB2 := below_of_drew hbd) | ((refine step_append_rec Try.elStrike (by rfl) _ _ (by rfl) (by rfl) ((HO2.out.up hB2).alloc _) (dg r q, bz) (by rfl) (Box.at_ _ [.int .i64 (dg r q), .int .i64 bz] _ (by rfl)) (strikeE_one _) (by omega) (by decide) (by have := hB2.size; simp; omega) ?_; intro A3 c3 w4 ho3 hg3 hb3)))
          all_goals
            have hfin := (hb2.trans ((hB2.alloc hB2.size _).mono (by omega))).trans hb3
            clear far carry k0 k1 k2
            go_wp2
            go_roundw
            case rel =>
              refine ⟨q + 1, A3, N2 + 1, c3, by omega, by go_num, by go_num, by omega, ?_, hfin⟩
              rw [RS.out, ← List.append_assoc, ← HBZ.out]; exact ho3
            case measure => simp [intOf]; omega
        · obtain rfl : q = r.size := by omega
          go_wp2
          go_roundw
          case rel => exact ⟨k + 1, A2, N2, c2, by omega, by go_num, rfl, by rw [IS.out]; exact ho2, hb2⟩
          case measure => simp [intOf]; omega
    · obtain rfl : k = l.length := by omega
      obtain rfl := hoN
      go_wp2
      go_ret
      exact ⟨_, _, rfl, ho.base_le (by omega), by omega, hbw⟩
theorem spec_IdealStrikes {A : Option Addr} {n c : Nat} {x y z : Int} {l : List ByteArray} {w : World} (hn : l.length = n) (h : Strs w A l) (hz : n ≤ 1048576) (hs : ∀ s ∈ l, s.size ≤ 16777216) :
    Calls Try.prog 146 #[.agg #[.int .i64 x, .int .i64 y, .int .i64 z], .slice A n c] w fun e w' => ∃ A' c', e = .returned (.tuple #[.slice A' (idlR x y z l).length c', .bool (idlOk x y z l)]) ∧
      Owned strikeE 2 140 w' w.heap.size A' (idlR x y z l).length c' (idlR x y z l) ∧ (idlR x y z l).length ≤ 16777216 ∧ Below w.heap.size w w' := by
  subst hn
  have E : Hid (idlOk x y z l = (goodBeatB x y z && (goodRows l && goodStrikes (idl x y z l l.length)))) := rfl
  have b0 : Below w.heap.size w (w.alloc (.cells #[.int .i64 x, .int .i64 y, .int .i64 z] 80)) := by (repeat' (first | (with_reducible exact Below.refl _ _) | (with_reducible assumption) | (with_reducible refine below_drewN ?_ _) | (with_reducible refine Below.drew ?_) | (with_reducible refine below_alloc ?_ _) | (with_reducible refine Below.alloc ?_ ?_ _) | (with_reducible refine Below.setCell ?_ ?_ _) | (with_reducible refine below_go ?_ (by with_reducible assumption)) | (with_reducible refine below_then (by with_reducible assumption) ?_ ?_) | go_size))
  have K0 := Blk.at_ w 80 [.int .i64 x, .int .i64 y, .int .i64 z] (b := w.heap.size) rfl
  rcases h1 : goodBeatB x y z
  · have e0 : idlOk x y z l = false := by rw [E.out, h1]; rfl
    rw [idlR_f e0, e0]
    clear e0
    go_in
    go_wp2_with (first | (go_at_call 201; refine (spec_l21Beat _ _ _ _).mono ?_; rintro e w1 ⟨rfl, hb1⟩; rw [h1]))
    go_ret2
    exact ⟨none, 0, rfl, Owned.nil strikeE_len _ _ _, by decide, below_go b0 hb1⟩
  rcases h2 : goodRows l
  · have e0 : idlOk x y z l = false := by rw [E.out, h1, h2]; rfl
    rw [idlR_f e0, e0]
    clear e0
    go_in
    go_wp2_with (first | (go_at_call 201; refine (spec_l21Beat _ _ _ _).mono ?_; rintro e w1 ⟨rfl, hb1⟩; rw [h1]) | (go_at_call 95; refine (spec_l6Rows rfl ((h.up b0).up hb1) (by omega) hs).mono ?_; rintro e w2 ⟨rfl, hb2⟩; rw [h2]))
    go_ret2
    exact ⟨none, 0, rfl, Owned.nil strikeE_len _ _ _, by decide, below_go (below_go b0 hb1) hb2⟩
  have ARMS : True := trivial
  rcases h3 : goodStrikes (idl x y z l l.length)
  · have e0 : idlOk x y z l = false := by rw [E.out, h1, h2, h3]; rfl
    rw [idlR_f e0, e0]
    clear e0
    go_in
    go_wp2_with (first | (go_at_call 201; refine (spec_l21Beat _ _ _ _).mono ?_; rintro e w1 ⟨rfl, hb1⟩; rw [h1]) | (go_at_call 95; refine (spec_l6Rows rfl ((h.up b0).up hb1) (by omega) hs).mono ?_; rintro e w2 ⟨rfl, hb2⟩; rw [h2]; have KB := (K0.up hb1).up hb2; have c0 := KB.cell 0; have c1 := KB.cell 1; have c2 := KB.cell 2; simp only [List.getElem?_cons_zero, List.getElem?_cons_succ] at c0 c1 c2; clear KB) | (go_at_call 197; refine (spec_l21Ideal rfl (((h.up b0).up hb1).up hb2) h1 h2).mono ?_; rintro e w3 ⟨A3, c3, rfl, ho3, hl3, hb3⟩) | (go_at_call 139; refine (spec_l21Good rfl ho3.recs (by omega)).mono ?_; rintro e w4 ⟨rfl, hb4⟩; rw [h3]))
    go_ret2
    exact ⟨none, 0, rfl, Owned.nil strikeE_len _ _ _, by decide, below_go (below_go (below_go (below_go b0 hb1) hb2) hb3) hb4⟩
  · have e0 : idlOk x y z l = true := by rw [E.out, h1, h2, h3]; rfl
    rw [idlR_t e0, e0]
    clear e0
    go_in
    go_wp2_with fail
    refine (spec_l21Beat _ _ _ _).mono ?_; rintro e w1 ⟨rfl, hb1⟩; rw [h1]
    go_wp2_with fail
    refine (spec_l6Rows rfl ((h.up b0).up hb1) (by omega) hs).mono ?_; rintro e w2 ⟨rfl, hb2⟩; rw [h2]
    have KB := (K0.up hb1).up hb2
    have c0 := KB.cell 0; have c1 := KB.cell 1; have c2 := KB.cell 2
    simp only [List.getElem?_cons_zero, List.getElem?_cons_succ] at c0 c1 c2
    go_wp2_with fail
    refine (spec_l21Ideal rfl (((h.up b0).up hb1).up hb2) h1 h2).mono ?_; rintro e w3 ⟨A3, c3, rfl, ho3, hl3, hb3⟩
    clear c0 c1 c2
    go_wp2_with fail
    refine (spec_l21Good rfl ho3.recs (by omega)).mono ?_; rintro e w4 ⟨rfl, hb4⟩; rw [h3]
    have KC := (KB.up hb3).up hb4
    have c0 := KC.cell 0; have c1 := KC.cell 1; have c2 := KC.cell 2
    simp only [List.getElem?_cons_zero, List.getElem?_cons_succ] at c0 c1 c2
    have hbX := below_go (below_go (below_go (below_go b0 hb1) hb2) hb3) hb4
    go_wp2_with fail
    refine (spec_l21Ideal rfl (h.below hbX (Nat.le_refl _)) h1 h2).mono ?_; rintro e w5 ⟨A5, c5, rfl, ho5, hl5, hb5⟩
    go_wp2
    go_ret2
    exact ⟨A5, c5, rfl, ho5.base_le hbX.size, by omega, below_go hbX hb5⟩
end Go.Proofs.Ytpccbmndgdiloaa
/- l21Blow and l21Ideal of the reference for the beats and rows that draws make. -/
namespace Go.Proofs.Ytpccbmndgdiloaa
set_option linter.unusedVariables false
set_option linter.unusedSimpArgs false
open Go.ChangeShapes Go.WideShapes Go.ChangeAt Go.RowKit Go.Deep
theorem blowAtZ_bdL {x y z n r p : Int} (hx : -1 ≤ x ∧ x ≤ 1000001) (hy : 0 ≤ y ∧ y ≤ 2001) (hz : 0 ≤ z ∧ z ≤ 2000) (hn : 1 ≤ n ∧ n ≤ 8) (hr : 0 ≤ r ∧ r ≤ 800) (hp : 1 ≤ p ∧ p ≤ 8) : -1 ≤ blowAtZ x y z n r p ∧ blowAtZ x y z n r p ≤ 100000000 := by
  obtain ⟨nr, hnr⟩ : ∃ t, t = n * r := ⟨_, rfl⟩
  have hnr0 : 0 ≤ nr := by rw [hnr]; exact Int.mul_nonneg (by omega) hr.1
  have hnr1 : nr ≤ 6400 := by rw [hnr]; exact Int.le_trans (Int.mul_le_mul hn.2 hr.2 hr.1 (by omega)) (by decide)
  have hq0 : 0 ≤ y * (nr + p - 1) := Int.mul_nonneg (by omega) (by omega)
  have hq1 : y * (nr + p - 1) ≤ 41000000 := Int.le_trans (Int.mul_le_mul hy.2 (show nr + p - 1 ≤ 20000 by omega) (by omega) (by omega)) (by decide)
  have hs0 : 0 ≤ z * (r / 2) := Int.mul_nonneg (by omega) (by omega)
  have hs1 : z * (r / 2) ≤ 2000000 := Int.le_trans (Int.mul_le_mul hz.2 (show r / 2 ≤ 1000 by omega) (by omega) (by omega)) (by decide)
  rw [blowAtZ, ← hnr]
  omega
theorem idl_bdL {x y z : Int} {l : List ByteArray} (hx : -1 ≤ x ∧ x ≤ 1000001) (hy : 0 ≤ y ∧ y ≤ 2001) (hz : 0 ≤ z ∧ z ≤ 2000) (hl8 : l.length ≤ 800) (hdg : ∀ s ∈ l, digS s) : ∀ k, k ≤ l.length → ∀ s ∈ idl x y z l k, (0 ≤ s.1 ∧ s.1 ≤ 9) ∧ -1 ≤ s.2 ∧ s.2 ≤ 100000000
  | 0, _, s, hs => by rw [idl_zero] at hs; cases hs
  | k + 1, hk, s, hs => by
    obtain ⟨r, hr⟩ := some_of_lt (l := l) (k := k) (by omega)
    rw [idl_succ hr] at hs
    rcases List.mem_append.1 hs with hs | hs
    · exact idl_bdL hx hy hz hl8 hdg k (by omega) s hs
    · have hd := hdg r (List.mem_of_getElem? hr)
      obtain ⟨q, hq, rfl⟩ := List.mem_map.1 hs
      have hq := List.mem_range.1 hq
      have h1 := hd.2 q hq
      have h0 := hd.1
      have h2 := blowAtZ_bdL (n := (r.size : Int)) (r := (k : Int)) (p := (q : Int) + 1) hx hy hz (by omega) (by omega) (by omega)
      exact ⟨by simp only [dg]; omega, h2⟩
theorem spec_l21BlowL (x y z n r p : Int) (w : World) (hx : -1 ≤ x ∧ x ≤ 1000001) (hy : 0 ≤ y ∧ y ≤ 2001) (hz : 0 ≤ z ∧ z ≤ 2000) (hn : 1 ≤ n ∧ n ≤ 8) (hr : 0 ≤ r ∧ r ≤ 2000) (hp : 1 ≤ p ∧ p ≤ 8) :
    Calls Try.prog 227 #[.agg #[.int .i64 x, .int .i64 y, .int .i64 z], .int .i64 n, .int .i64 r, .int .i64 p] w fun e w' => e = .returned (.int .i64 (blowAtZ x y z n r p)) ∧ Below w.heap.size w w' := by
  obtain ⟨nr, hnr⟩ : ∃ t, t = n * r := ⟨_, rfl⟩
  have hnr0 : 0 ≤ nr := by rw [hnr]; exact Int.mul_nonneg (by omega) hr.1
  have hnr1 : nr ≤ 16000 := by rw [hnr]; exact Int.le_trans (Int.mul_le_mul hn.2 hr.2 hr.1 (by omega)) (by decide)
  obtain ⟨q, hq⟩ : ∃ t, t = y * (nr + p - 1) := ⟨_, rfl⟩
  have hq0 : 0 ≤ q := by rw [hq]; exact Int.mul_nonneg (by omega) (by omega)
  have hq1 : q ≤ 41000000 := by rw [hq]; exact Int.le_trans (Int.mul_le_mul hy.2 (show nr + p - 1 ≤ 20000 by omega) (by omega) (by omega)) (by decide)
  obtain ⟨s, hs⟩ : ∃ t, t = z * (r / 2) := ⟨_, rfl⟩
  have hs0 : 0 ≤ s := by rw [hs]; exact Int.mul_nonneg (by omega) (by omega)
  have hs1 : s ≤ 2000000 := by rw [hs]; exact Int.le_trans (Int.mul_le_mul hz.2 (show r / 2 ≤ 1000 by omega) (by omega) (by omega)) (by decide)
  have b1 : 0 ≤ n * r ∧ n * r ≤ 16000 := by rw [← hnr]; omega
  have b2 : 0 ≤ y * (n * r + p - 1) ∧ y * (n * r + p - 1) ≤ 41000000 := by rw [← hnr, ← hq]; omega
  have b3 : 0 ≤ z * (r / 2) ∧ z * (r / 2) ≤ 2000000 := by rw [← hs]; omega
  clear hq0 hq1 hq hs0 hs1 hs hnr0 hnr1 hnr q s nr
  go_in
  go_wp2
  go_ret
  exact ⟨rfl, by (repeat' (first | (with_reducible exact Below.refl _ _) | (with_reducible assumption) | (with_reducible refine below_drewN ?_ _) | (with_reducible refine Below.drew ?_) | (with_reducible refine below_alloc ?_ _) | (with_reducible refine Below.alloc ?_ ?_ _) | (with_reducible refine Below.setCell ?_ ?_ _) | (with_reducible refine below_go ?_ (by with_reducible assumption)) | (with_reducible refine below_then (by with_reducible assumption) ?_ ?_) | go_size))⟩
set_option maxHeartbeats 1000000 in
set_option maxRecDepth 100000 in
theorem spec_l21IdealL {A : Option Addr} {n c : Nat} {x y z : Int} {l : List ByteArray} {w : World} (hn : l.length = n) (h : Strs w A l) (hx : -1 ≤ x ∧ x ≤ 1000001) (hy : 0 ≤ y ∧ y ≤ 2001) (hzz : 0 ≤ z ∧ z ≤ 2000) (hl8 : l.length ≤ 800) (hdg : ∀ s ∈ l, digS s) :
    Calls Try.prog 197 #[.agg #[.int .i64 x, .int .i64 y, .int .i64 z], .slice A n c] w fun e w' => ∃ A' c', e = .returned (.slice A' (idl x y z l l.length).length c') ∧
      Owned strikeE 2 140 w' w.heap.size A' (idl x y z l l.length).length c' (idl x y z l l.length) ∧ (idl x y z l l.length).length ≤ 6400 ∧ Below w.heap.size w w' := by
  subst hn
  have HGR := Lib.hid hdg
  have HIL := Lib.hid (fun k hk => idl_len (x := x) (y := y) (z := z) (fun s hs' => (hdg s hs').1) k hk)
  clear hdg
  have hbA : Below w.heap.size w (w.alloc (.cells #[.int .i64 x, .int .i64 y, .int .i64 z] 80)) := by (repeat' (first | (with_reducible exact Below.refl _ _) | (with_reducible assumption) | (with_reducible refine below_drewN ?_ _) | (with_reducible refine Below.drew ?_) | (with_reducible refine below_alloc ?_ _) | (with_reducible refine Below.alloc ?_ ?_ _) | (with_reducible refine Below.setCell ?_ ?_ _) | (with_reducible refine below_go ?_ (by with_reducible assumption)) | (with_reducible refine below_then (by with_reducible assumption) ?_ ?_) | go_size))
  have HK := Lib.hid (Blk.at_ w 80 [.int .i64 x, .int .i64 y, .int .i64 z] (b := w.heap.size) rfl)
  have hsA : w.heap.size < (w.alloc (.cells #[.int .i64 x, .int .i64 y, .int .i64 z] 80)).heap.size := by simp
  go_in
  go_wp2
  obtain ⟨w2, hw2⟩ : ∃ u, u = w.alloc (.cells #[.int .i64 x, .int .i64 y, .int .i64 z] 80) := ⟨_, rfl⟩
  rw [← hw2] at hbA HK hsA ⊢
  clear hw2
  go_loopw [5, 11] (fun v i wr => ∃ (k : Nat) (A' : Option Addr) (N c' : Nat), k ≤ l.length ∧ i = .int .i64 k ∧ v = .slice A' N c' ∧ Owned strikeE 2 140 wr w2.heap.size A' N c' (idl x y z l k) ∧ Below w2.heap.size w2 wr) (fun _ i _ => l.length - (intOf i).toNat)
  case atStart => exact ⟨0, _, _, _, Nat.zero_le _, rfl, rfl, Owned.nil strikeE_len _ _ _, by (repeat' (first | (with_reducible exact Below.refl _ _) | (with_reducible assumption) | (with_reducible refine below_drewN ?_ _) | (with_reducible refine Below.drew ?_) | (with_reducible refine below_alloc ?_ _) | (with_reducible refine Below.alloc ?_ ?_ _) | (with_reducible refine Below.setCell ?_ ?_ _) | (with_reducible refine below_go ?_ (by with_reducible assumption)) | (with_reducible refine below_then (by with_reducible assumption) ?_ ?_) | go_size))⟩
  case round =>
    obtain ⟨k, A', N, c', hk, rfl, rfl, ho, hb⟩ := hrel
    rename World => wo
    have hbw := hbA.trans (hb.mono (by omega))
    have hIL := HIL.out k hk
    have hoN := ho.len
    rw [hoN] at hIL
    by_cases hlt : k < l.length
    · obtain ⟨b1, o1, r, rfl, hbb1, hr, hcr⟩ := (h.below hbw (Nat.le_refl _)).at_str hlt
      have hgr := HGR.out r (List.mem_of_getElem? hr)
      have hr8 := hgr.1
      have IS := Lib.hid (idl_succ (x := x) (y := y) (z := z) hr)
      have HO := Lib.hid ho
      have hrz := hr8
      have hbt := PlainAid.get_bt r
      clear hr ho
      go_wp2
      go_loopw [5, 8] (fun v i wr => ∃ (q : Nat) (A' : Option Addr) (N' c' : Nat), q ≤ r.size ∧ i = .int .i64 ((q : Int) + 1) ∧ v = .slice A' N' c' ∧ N' ≤ N + q ∧ Owned strikeE 2 140 wr w2.heap.size A' N' c' (idl x y z l k ++ rowStr x y z r k q) ∧ Below w2.heap.size w2 wr) (fun _ i _ => (r.size + 1) - (intOf i).toNat)
      case atStart => exact ⟨0, A', N, c', Nat.zero_le _, by go_num, rfl, Nat.le_refl _, by simpa [rowStr] using HO.out, hb⟩
      case round =>
        obtain ⟨q, A2, N2, c2, hq, rfl, rfl, hN2, ho2, hb2⟩ := hrel
        rename World => wi
        by_cases hqt : q < r.size
        · have hdq : 0 ≤ dg r q ∧ dg r q ≤ 9 := by have := hgr.2 q hqt; simp only [dg]; omega
          have hbq : PlainAid.bt r q = dg r q + 48 := by simp [dg]
          have RS := Lib.hid (rowStr_succ x y z r k q)
          have HO2 := Lib.hid ho2
          have hsz2 := hb2.size
          have KB := HK.out.below hb2 hsA
          have k0 := KB.cell 0; have k1 := KB.cell 1; have k2 := KB.cell 2
          simp only [List.getElem?_cons_zero, List.getElem?_cons_succ] at k0 k1 k2
          have bb := blowAtZ_bdL (r := (k : Int)) (p := (q : Int) + 1) hx hy hzz (n := (r.size : Int)) (by omega) (by omega) (by omega)
          obtain ⟨bz, hbz⟩ : ∃ u, u = blowAtZ x y z r.size k ((q : Int) + 1) := ⟨_, rfl⟩
          have HBZ := Lib.hid hbz
          rw [← hbz] at bb
          clear hbz ho2 KB
          have carry : Hid (∀ u : World, Below wi.heap.size wi u → u.cell? ⟨w.heap.size, 0, none⟩ = some (.int .i64 x) ∧ u.cell? ⟨w.heap.size, 1, none⟩ = some (.int .i64 y) ∧ u.cell? ⟨w.heap.size, 2, none⟩ = some (.int .i64 z)) := Lib.hid (fun u hu =>
            have q : ∀ o : Nat, u.cell? ⟨w.heap.size, o, none⟩ = wi.cell? ⟨w.heap.size, o, none⟩ := fun o => hu.cell (p := ⟨w.heap.size, o, none⟩) (by show w.heap.size < wi.heap.size; omega)
            ⟨(q 0).trans k0, (q 1).trans k1, (q 2).trans k2⟩)
          have far : Hid (∀ v u : World, Below wi.heap.size wi v → v.grownBy u (Value.slice A2 N2 c2).ownBlock → u.cell? ⟨w.heap.size, 0, none⟩ = some (.int .i64 x) ∧ u.cell? ⟨w.heap.size, 1, none⟩ = some (.int .i64 y) ∧ u.cell? ⟨w.heap.size, 2, none⟩ = some (.int .i64 z)) := Lib.hid (fun v u hv hg => by
            have hvs := hv.size
            have f1 : ∀ o : Nat, u.cell? ⟨w.heap.size, o, none⟩ = v.cell? ⟨w.heap.size, o, none⟩ := fun o => hg.cell_far _ (by show w.heap.size < v.heap.size; omega) (fun e => by have := HO2.out.blk e.symm; dsimp only at this; omega)
            rw [f1, f1, f1]
            exact carry.out v hv)
          go_wp2
          have hqI : (q : Int) < (r.size : Int) := by omega
          have hw1 := wrap_bt r q
          have gu : IntKind.u8.wrap (dg r q) = dg r q := IntWalk.u8_in _ (by omega)
          have gi : IntKind.i64.wrap (dg r q) = dg r q := wrap_id (by omega)
          have gq : IntKind.i64.wrap ((q : Int) + 1) = (q : Int) + 1 := wrap_id (by omega)
          have gs : dg r q + 48 - 48 = dg r q := by omega
          go_region_held3 (fun u => u.cell? ⟨w.heap.size, 0, none⟩ = some (.int .i64 x) ∧ u.cell? ⟨w.heap.size, 1, none⟩ = some (.int .i64 y) ∧ u.cell? ⟨w.heap.size, 2, none⟩ = some (.int .i64 z)) (first | exact far.out _ _ (hB2.alloc hB2.size _) hg3 | exact carry.out _ (hB2.alloc hB2.size _) | exact carry.out _ hB2 | exact carry.out _ (by (repeat' (first | (with_reducible exact Below.refl _ _) | (with_reducible assumption) | (with_reducible refine below_drewN ?_ _) | (with_reducible refine Below.drew ?_) | (with_reducible refine below_alloc ?_ _) | (with_reducible refine Below.alloc ?_ ?_ _) | (with_reducible refine Below.setCell ?_ ?_ _) | (with_reducible refine below_go ?_ (by with_reducible assumption)) | (with_reducible refine below_then (by with_reducible assumption) ?_ ?_) | go_size)))) (first | (go_at_call 218; refine (spec_l1AtI hqt (by omega) (by omega)).mono ?_; rw [hbq, gs]; rintro e w' ⟨rfl, rfl⟩) | (go_at_call 227; refine (spec_l21BlowL _ _ _ _ _ _ _ hx hy hzz (by omega) (by omega) (by omega)).mono ?_; rintro e w3 ⟨rfl, hbd⟩; rw [← HBZ.out]; have hB2 := below_of_drew hbd) | ((refine step_append_rec Try.elStrike (by rfl) _ _ (by rfl) (by rfl) ((HO2.out.up hB2).alloc _) (dg r q, bz) (by rfl) (Box.at_ _ [.int .i64 (dg r q), .int .i64 bz] _ (by rfl)) (strikeE_one _) (by omega) (by decide) (by have := hB2.size; simp; omega) ?_; intro A3 c3 w4 ho3 hg3 hb3)))
          all_goals
            have hfin := (hb2.trans ((hB2.alloc hB2.size _).mono (by omega))).trans hb3
            clear far carry k0 k1 k2
            go_wp2
            go_roundw
            case rel =>
              refine ⟨q + 1, A3, N2 + 1, c3, by omega, by go_num, by go_num, by omega, ?_, hfin⟩
              rw [RS.out, ← List.append_assoc, ← HBZ.out]; exact ho3
            case measure => simp [intOf]; omega
        · obtain rfl : q = r.size := by omega
          go_wp2
          go_roundw
          case rel => exact ⟨k + 1, A2, N2, c2, by omega, by go_num, rfl, by rw [IS.out]; exact ho2, hb2⟩
          case measure => simp [intOf]; omega
    · obtain rfl : k = l.length := by omega
      obtain rfl := hoN
      go_wp2
      go_ret
      exact ⟨_, _, rfl, ho.base_le (by omega), by omega, hbw⟩
end Go.Proofs.Ytpccbmndgdiloaa
/- The walk through the reference's merging of two lists of strikes. -/
namespace Go.Proofs.Ytpccbmndgdiloaa
set_option linter.unusedVariables false
set_option linter.unusedSimpArgs false
open Go.ChangeShapes Go.WideShapes Go.ChangeAt Go.RowKit Go.Deep
theorem Try.tailStrikes (b o n c : Nat) (h1 : 1 ≤ n) (u : World) : (Instr.slice 75 (.slice (some ⟨b, o, none⟩) n c) (some (.int .i64 1)) none none).run Try.prog u = .ok (.slice (some ⟨b, tailOff o 2 c, none⟩) (n - 1) (c - 1)) u := by
  have e1 : Try.prog.underlying 75 = some (.slice (Try.prog.elem 75)) := by kernel_rfl
  have e2 : (sizeOf (Try.prog.elem 75)).run Try.prog u = .ok 2 u := by kernel_rfl
  rw [run_slice_l (P := Try.prog) (w := u) 75 (some ⟨b, o, none⟩) n c e1 .i64 1 (by omega) (by omega), e2]
  simp only [Result.andThen_ok, sliced, tailOff]
  by_cases hc : c = 1
  · rw [if_pos hc, if_pos (by omega)]; rfl
  · rw [if_neg hc, if_neg (by omega)]; rfl
/-- Not later. -/
def leT (x y : Int × Int) : Bool := !decide (y.2 < x.2)
theorem mgT_left {x y : Int × Int} {a b : List (Int × Int)} (h : ¬ y.2 < x.2) : List.merge (x :: a) (y :: b) leT = x :: List.merge a (y :: b) leT := by
  rw [List.cons_merge_cons_pos leT a b (by simp [leT]; omega)]
theorem mgT_right {x y : Int × Int} {a b : List (Int × Int)} (h : y.2 < x.2) : List.merge (x :: a) (y :: b) leT = y :: List.merge (x :: a) b leT := by
  rw [List.cons_merge_cons_neg leT a b (by simp [leT]; omega)]
theorem head_2 {w : World} {A : Option Addr} {x : Int × Int} {l : List (Int × Int)} (h : Recs strikeE 2 w A (x :: l)) : ∃ b o, A = some ⟨b, o, none⟩ ∧ b < w.heap.size ∧ w.cell? ⟨b, o, none⟩ = some (.int .i64 x.1) ∧ w.cell? ⟨b, o + 1, none⟩ = some (.int .i64 x.2) := by
  obtain ⟨b, o, h1, h2, h3, h4⟩ := Recs.at_2 (f := fun s : Int × Int => Value.int .i64 s.1) (g := fun s : Int × Int => Value.int .i64 s.2) (k := 0) (x := x) h rfl
  refine ⟨b, o, h1, h2, ?_, ?_⟩
  · simpa using h3
  · simpa using h4
set_option maxHeartbeats 2000000 in
set_option maxRecDepth 100000 in
theorem spec_l21Merge {A B : Option Addr} {n m c d : Nat} {l1 l2 : List (Int × Int)} {w : World} (hn : l1.length = n) (h : Recs strikeE 2 w A l1) (hm : l2.length = m) (g : Recs strikeE 2 w B l2) (hz : n + m ≤ 16000000) (hnc : n ≤ c) (hmd : m ≤ d) (hc : c ≤ 9223372036854775807) (hd : d ≤ 9223372036854775807) :
    Calls Try.prog 148 #[.slice A n c, .slice B m d] w fun e w' => ∃ A' c', e = .returned (.slice A' (n + m) c') ∧ Owned strikeE 2 140 w' w.heap.size A' (n + m) c' (List.merge l1 l2 leT) ∧ Below w.heap.size w w' := by
  have HN := Lib.hid hn
  have HM := Lib.hid hm
  have HX := Lib.hid h
  have HY := Lib.hid g
  clear hn hm h g
  go_in
  go_wp2
  go_loopw [0, 1, 5] (fun va vb vc wr => ∃ (Aa : Option Addr) (na ca : Nat) (la : List (Int × Int)) (Ab : Option Addr) (nb cb : Nat) (lb : List (Int × Int)) (A' : Option Addr) (m' c' : Nat) (M : List (Int × Int)), va = .slice Aa na ca ∧ vb = .slice Ab nb cb ∧ vc = .slice A' m' c' ∧ na ≤ ca ∧ nb ≤ cb ∧ ca ≤ 9223372036854775807 ∧ cb ≤ 9223372036854775807 ∧ m' + na + nb = n + m ∧ Hid (la.length = na) ∧ Hid (lb.length = nb) ∧ Hid (Recs strikeE 2 w Aa la) ∧ Hid (Recs strikeE 2 w Ab lb) ∧ Hid (Owned strikeE 2 140 wr w.heap.size A' m' c' M) ∧ Hid (M ++ List.merge la lb leT = List.merge l1 l2 leT) ∧ Below w.heap.size w wr) (fun va vb _ _ => slLen va + slLen vb)
  case atStart => exact ⟨A, n, c, l1, B, m, d, l2, none, 0, 0, [], rfl, rfl, rfl, hnc, hmd, hc, hd, by omega, HN, HM, HX, HY, Lib.hid (Owned.nil strikeE_len _ _ _), Lib.hid (by simp), Below.refl _ _⟩
  case round =>
    obtain ⟨Aa, na, ca, la, Ab, nb, cb, lb, A', m', c', M, rfl, rfl, rfl, hna, hnb, hca, hcb, hsum, HLa, HLb, HA, HB, HO, HQ, hb⟩ := hrel
    rename World => wr
    have hsz := hb.size
    by_cases ha0 : na = 0
    · have HF := Lib.hid (show M ++ la ++ lb = List.merge l1 l2 leT by
        have : la = [] := List.eq_nil_of_length_eq_zero (by rw [HLa.out]; exact ha0)
        rw [← HQ.out, this, List.append_nil]; simp)
      have HS2 := Lib.hid hsum
      have hbd : m' + na + nb ≤ 16000000 := by omega
      have hI : ¬ (0 : Int) < (na : Int) := by omega
      clear ha0 hsum
      go_wp2_with (first | (at_builtin; ((refine wpList_append_recs Try.elStrike strikeE_one rfl (.tmp 39) (.tmp 40) rfl rfl HO.out rfl (HA.out.below hb (Nat.le_refl _)) HLa.out ?_ (by decide) ?_ ?_; (focus (first | omega | (simp only [World.size_alloc]; done) | (simp only [World.size_alloc]; omega) | (simp; done) | (simp; omega))); (focus (first | omega | (simp only [World.size_alloc]; done) | (simp only [World.size_alloc]; omega) | (simp; done) | (simp; omega))); intro A4 c4 w4 ho4 hg4 hl4; have hb4 := hb.trans (grown_base hg4 hsz (fun k hk => (HO.out.blk hk).1)); have hsz4 := hb4.size))) | (at_builtin; go_must ((refine wpList_append_recs Try.elStrike strikeE_one rfl (.tmp 41) (.tmp 42) rfl rfl ho4 rfl (HB.out.below hb4 (Nat.le_refl _)) HLb.out ?_ (by decide) ?_ ?_; (focus (first | omega | (simp only [World.size_alloc]; done) | (simp only [World.size_alloc]; omega) | (simp; done) | (simp; omega))); (focus (first | omega | (simp only [World.size_alloc]; done) | (simp only [World.size_alloc]; omega) | (simp; done) | (simp; omega))); intro A5 c5 w5 ho5 hg5 hl5))))
      have hb5 := hb4.trans (grown_base hg5 hsz4 (fun k hk => (ho4.blk hk).1))
      go_ret
      rw [HF.out, HS2.out] at ho5
      rw [HS2.out]
      exact ⟨_, _, rfl, ho5, hb5⟩
    · by_cases hb0 : nb = 0
      · have HF := Lib.hid (show M ++ la ++ lb = List.merge l1 l2 leT by
          have : lb = [] := List.eq_nil_of_length_eq_zero (by rw [HLb.out]; exact hb0)
          rw [← HQ.out, this, List.append_nil]; simp)
        have HS2 := Lib.hid hsum
        have hbd : m' + na + nb ≤ 16000000 := by omega
        have hI : (0 : Int) < (na : Int) := by omega
        have hJ : ¬ (0 : Int) < (nb : Int) := by omega
        clear ha0 hb0 hsum
        go_wp2_with (first | (at_builtin; ((refine wpList_append_recs Try.elStrike strikeE_one rfl (.tmp 39) (.tmp 40) rfl rfl HO.out rfl (HA.out.below hb (Nat.le_refl _)) HLa.out ?_ (by decide) ?_ ?_; (focus (first | omega | (simp only [World.size_alloc]; done) | (simp only [World.size_alloc]; omega) | (simp; done) | (simp; omega))); (focus (first | omega | (simp only [World.size_alloc]; done) | (simp only [World.size_alloc]; omega) | (simp; done) | (simp; omega))); intro A4 c4 w4 ho4 hg4 hl4; have hb4 := hb.trans (grown_base hg4 hsz (fun k hk => (HO.out.blk hk).1)); have hsz4 := hb4.size))) | (at_builtin; go_must ((refine wpList_append_recs Try.elStrike strikeE_one rfl (.tmp 41) (.tmp 42) rfl rfl ho4 rfl (HB.out.below hb4 (Nat.le_refl _)) HLb.out ?_ (by decide) ?_ ?_; (focus (first | omega | (simp only [World.size_alloc]; done) | (simp only [World.size_alloc]; omega) | (simp; done) | (simp; omega))); (focus (first | omega | (simp only [World.size_alloc]; done) | (simp only [World.size_alloc]; omega) | (simp; done) | (simp; omega))); intro A5 c5 w5 ho5 hg5 hl5))))
        have hb5 := hb4.trans (grown_base hg5 hsz4 (fun k hk => (ho4.blk hk).1))
        go_ret
        rw [HF.out, HS2.out] at ho5
        rw [HS2.out]
        exact ⟨_, _, rfl, ho5, hb5⟩
      · obtain ⟨x, la', hla⟩ : ∃ x la', la = x :: la' := by
          rcases la with _ | ⟨x, la'⟩
          · exact absurd HLa.out.symm ha0
          · exact ⟨x, la', rfl⟩
        obtain ⟨y, lb', hlb⟩ : ∃ y lb', lb = y :: lb' := by
          rcases lb with _ | ⟨y, lb'⟩
          · exact absurd HLb.out.symm hb0
          · exact ⟨y, lb', rfl⟩
        subst hla hlb
        obtain ⟨x1, x2⟩ := x
        obtain ⟨y1, y2⟩ := y
        obtain ⟨b1, o1, rfl, bb1, hx1, hx2⟩ := head_2 (HA.out.below hb (Nat.le_refl _))
        obtain ⟨b2, o2, rfl, bb2, hy1, hy2⟩ := head_2 (HB.out.below hb (Nat.le_refl _))
        simp only at hx1 hx2 hy1 hy2
        have t1 := Try.tailStrikes b1 o1 na ca (by omega)
        have t2 := Try.tailStrikes b2 o2 nb cb (by omega)
        by_cases hl : y2 < x2
        · have hq1 := Lib.hid (mgT_right (x := (x1, x2)) (y := (y1, y2)) (a := la') (b := lb') hl)
          clear t1
          go_wp2
          go_quiet (fail)
          go_wp2_with (first | (at_builtin; go_must ((refine wpList_append_rec Try.elStrike rfl (.tmp 23) (.tmp 27) rfl rfl ((HO.out.drewN _).alloc _) (y1, y2) rfl (Box.at_ _ [.int .i64 y1, .int .i64 y2] _ ?_) (strikeE_one _) ?_ (by decide) ?_ ?_; (focus (first | omega | (simp only [World.size_alloc]; done) | (simp only [World.size_alloc]; omega) | (simp; done) | (simp; omega))); (focus (first | omega | (simp only [World.size_alloc]; done) | (simp only [World.size_alloc]; omega) | (simp; done) | (simp; omega))); (focus (first | omega | (simp only [World.size_alloc]; done) | (simp only [World.size_alloc]; omega) | (simp; done) | (simp; omega))); intro A4 c4 w4 ho4 hg4 hb4))))
          go_roundw
          case rel => exact ⟨some ⟨b1, o1, none⟩, na, ca, (x1, x2) :: la', some ⟨b2, tailOff o2 2 cb, none⟩, nb - 1, cb - 1, lb', A4, m' + 1, c4, M ++ [(y1, y2)], rfl, rfl, rfl, by omega, by omega, by omega, by omega, by omega, HLa, Lib.hid (by have := HLb.out; simp at this; omega), HA, Lib.hid (HB.out.tail (by have := HLb.out; simpa using this) hnb), Lib.hid ho4, Lib.hid (by rw [← HQ.out, hq1.out, List.append_assoc]; rfl), ((below_drewN hb _).alloc (by simp; omega) _).trans hb4⟩
          case measure => simp [slLen]; omega
        · have hq1 := Lib.hid (mgT_left (x := (x1, x2)) (y := (y1, y2)) (a := la') (b := lb') hl)
          clear t2
          go_wp2
          go_quiet (fail)
          go_wp2_with (first | (at_builtin; go_must ((refine wpList_append_rec Try.elStrike rfl (.tmp 31) (.tmp 35) rfl rfl ((HO.out.drewN _).alloc _) (x1, x2) rfl (Box.at_ _ [.int .i64 x1, .int .i64 x2] _ ?_) (strikeE_one _) ?_ (by decide) ?_ ?_; (focus (first | omega | (simp only [World.size_alloc]; done) | (simp only [World.size_alloc]; omega) | (simp; done) | (simp; omega))); (focus (first | omega | (simp only [World.size_alloc]; done) | (simp only [World.size_alloc]; omega) | (simp; done) | (simp; omega))); (focus (first | omega | (simp only [World.size_alloc]; done) | (simp only [World.size_alloc]; omega) | (simp; done) | (simp; omega))); intro A4 c4 w4 ho4 hg4 hb4))))
          go_roundw
          case rel => exact ⟨some ⟨b1, tailOff o1 2 ca, none⟩, na - 1, ca - 1, la', some ⟨b2, o2, none⟩, nb, cb, (y1, y2) :: lb', A4, m' + 1, c4, M ++ [(x1, x2)], rfl, rfl, rfl, by omega, by omega, by omega, by omega, by omega, Lib.hid (by have := HLa.out; simp at this; omega), HLb, Lib.hid (HA.out.tail (by have := HLa.out; simpa using this) hna), HB, Lib.hid ho4, Lib.hid (by rw [← HQ.out, hq1.out, List.append_assoc]; rfl), ((below_drewN hb _).alloc (by simp; omega) _).trans hb4⟩
          case measure => simp [slLen]; omega
end Go.Proofs.Ytpccbmndgdiloaa
/- The walks through the generators of touches and calls. -/
namespace Go.Proofs.Ytpccbmndgdiloaa
set_option linter.unusedVariables false
set_option linter.unusedSimpArgs false
open Go.ChangeShapes Go.WideShapes Go.ChangeAt Go.RowKit Go.Deep
theorem sets3_grown (u : World) (r : Nat) (a b c : Value) : u.grownBy (((u.setCell ⟨r, 0, none⟩ a).setCell ⟨r, 1, none⟩ b).setCell ⟨r, 2, none⟩ c) (some r) :=
  grownBy_trans (grownBy_trans (only_set _ (p := ⟨r, 0, none⟩) _) (only_set _ (p := ⟨r, 1, none⟩) _)) (only_set _ (p := ⟨r, 2, none⟩) _)
theorem sets2_grown (u : World) (r : Nat) (a b : Value) : u.grownBy ((u.setCell ⟨r, 0, none⟩ a).setCell ⟨r, 1, none⟩ b) (some r) :=
  grownBy_trans (only_set _ (p := ⟨r, 0, none⟩) _) (only_set _ (p := ⟨r, 1, none⟩) _)
set_option maxHeartbeats 4000000 in
set_option maxRecDepth 100000 in
theorem cur_called {A : Option Addr} {n c a p : Nat} {w0 w : World} (hS : Src w0 A n) (hb : Below w0.heap.size w0 w) (hp : w0.heap.size ≤ p) (hc : Cur w p A n c a) (ha : a ≤ 100000) :
    Calls Try.prog 154 #[.pointer (some ⟨p, 0, none⟩)] w fun e w' => ∃ (nm : ByteArray) (st : Nat) (A' : Option Addr) (m c' : Nat) (L : List ByteArray) (kb ks : ByteArray), e = .returned (.tuple #[.agg #[.string nm, .int .i64 st, .slice A' m c'], .agg #[.string kb, .string ks]]) ∧ goodM nm st L = true ∧ 3 ≤ st ∧ st ≤ 6 ∧ kb.size ≤ 8 ∧ ks.size ≤ 8 ∧ m ≤ 12 ∧ Owned strE 1 9 w' w.heap.size A' m c' L ∧ Cur w' p A n c (a + 102) ∧ w.grownBy w' (some p) := by
  have hpw := hc.lt
  have R0 := (Blk.at_ w 26 [.string ⟨#[]⟩, .int .i64 0, .slice none 0 0] (b := w.heap.size) rfl).alloc (.cells #[.string ⟨#[]⟩, .string ⟨#[]⟩] 28)
  have Q0 := Blk.at_ (w.alloc (.cells #[.string ⟨#[]⟩, .int .i64 0, .slice none 0 0] 26)) 28 [.string ⟨#[]⟩, .string ⟨#[]⟩] (b := w.heap.size + 1) (by simp)
  have b0 : Below w.heap.size w ((w.alloc (.cells #[.string ⟨#[]⟩, .int .i64 0, .slice none 0 0] 26)).alloc (.cells #[.string ⟨#[]⟩, .string ⟨#[]⟩] 28)) := by (repeat' (first | (with_reducible exact Below.refl _ _) | (with_reducible assumption) | (with_reducible refine below_drewN ?_ _) | (with_reducible refine Below.drew ?_) | (with_reducible refine below_alloc ?_ _) | (with_reducible refine Below.alloc ?_ ?_ _) | (with_reducible refine Below.setCell ?_ ?_ _) | (with_reducible refine below_go ?_ (by with_reducible assumption)) | (with_reducible refine below_then (by with_reducible assumption) ?_ ?_) | go_size))
  have G : Hid (∀ u : World, w.grownBy u (some p) → Below w0.heap.size w0 u) := Lib.hid (fun u hg => grown_below hb hp hg)
  have HS := Lib.hid hS
  clear hS hb
  go_in
  go_wp2_with fail
  obtain ⟨w1, hw1⟩ : ∃ u, u = (w.alloc (.cells #[.string ⟨#[]⟩, .int .i64 0, .slice none 0 0] 26)).alloc (.cells #[.string ⟨#[]⟩, .string ⟨#[]⟩] 28) := ⟨_, rfl⟩
  have z1 : w1.heap.size = w.heap.size + 2 := by rw [hw1]; simp
  rw [← hw1] at b0 R0 Q0 ⊢
  clear hw1
  refine (cur_method HS.out (G.out _ (grown_any b0 _)) hp (hc.up b0) (by omega)).mono ?_; rintro e w2 ⟨nm, st, A2, m, c2, L, rfl, hgm, h3, h6, hm, ho2, hc2, hg2⟩
  have g2 : w.grownBy w2 (some p) := grownBy_trans (grown_any b0 _) hg2
  have s2 := hg2.size
  have R2 := R0.grown hg2 (fun e => by injection e with e; omega)
  have Q2 := Q0.grown hg2 (fun e => by injection e with e; omega)
  have K2 := Blk.at_ w2 26 [.string nm, .int .i64 (st : Int), .slice A2 m c2] (b := w2.heap.size) rfl
  have a2 : Below w2.heap.size w2 (w2.alloc (.cells #[.string nm, .int .i64 (st : Int), .slice A2 m c2] 26)) := by (repeat' (first | (with_reducible exact Below.refl _ _) | (with_reducible assumption) | (with_reducible refine below_drewN ?_ _) | (with_reducible refine Below.drew ?_) | (with_reducible refine below_alloc ?_ _) | (with_reducible refine Below.alloc ?_ ?_ _) | (with_reducible refine Below.setCell ?_ ?_ _) | (with_reducible refine below_go ?_ (by with_reducible assumption)) | (with_reducible refine below_then (by with_reducible assumption) ?_ ?_) | go_size))
  have HO := Lib.hid (ho2.up a2)
  have HC := Lib.hid (hc2.up a2)
  have HG := Lib.hid (grownBy_trans g2 (grown_any a2 _))
  have R3 := R2.up a2; have Q3 := Q2.up a2
  have HGM := Lib.hid hgm
  clear R0 Q0 R2 Q2 hc ho2 hc2 hg2 g2 hgm
  go_upto_region 2 with fail
  obtain ⟨w3, hw3⟩ : ∃ u, u = w2.alloc (.cells #[.string nm, .int .i64 (st : Int), .slice A2 m c2] 26) := ⟨_, rfl⟩
  rw [← hw3] at K2 a2 HO HC HG R3 Q3 ⊢
  have s3 : w3.heap.size = w2.heap.size + 1 := by rw [hw3]; simp
  clear hw3
  have carry : Hid (∀ u : World, w3.grownBy u (some p) → u.cell? ⟨w2.heap.size, 0, none⟩ = some (.string nm) ∧ u.cell? ⟨w2.heap.size, 1, none⟩ = some (.int .i64 (st : Int)) ∧ u.cell? ⟨w2.heap.size, 2, none⟩ = some (.slice A2 m c2)) := Lib.hid (fun u hu => by
    have J := K2.grown hu (fun e => by injection e with e; omega)
    exact ⟨by simpa using J.cell 0, by simpa using J.cell 1, by simpa using J.cell 2⟩)
  have carB : Hid (∀ u : World, w3.grownBy u (some p) → (u.cell? ⟨w.heap.size, 0, none⟩ = some (.string ⟨#[]⟩) ∧ u.cell? ⟨w.heap.size, 1, none⟩ = some (.int .i64 0) ∧ u.cell? ⟨w.heap.size, 2, none⟩ = some (.slice none 0 0)) ∧ (u.frozen? ⟨w.heap.size, 0, none⟩ = false ∧ u.frozen? ⟨w.heap.size, 1, none⟩ = false ∧ u.frozen? ⟨w.heap.size, 2, none⟩ = false) ∧ (u.cell? ⟨w.heap.size + 1, 0, none⟩ = some (.string ⟨#[]⟩) ∧ u.cell? ⟨w.heap.size + 1, 1, none⟩ = some (.string ⟨#[]⟩)) ∧ u.frozen? ⟨w.heap.size + 1, 0, none⟩ = false ∧ u.frozen? ⟨w.heap.size + 1, 1, none⟩ = false) := Lib.hid (fun u hu => by
    have J := R3.grown hu (fun e => by injection e with e; omega)
    have J2 := Q3.grown hu (fun e => by injection e with e; omega)
    exact ⟨⟨by simpa using J.cell 0, by simpa using J.cell 1, by simpa using J.cell 2⟩, ⟨J.frozen 0, J.frozen 1, J.frozen 2⟩, ⟨by simpa using J2.cell 0, by simpa using J2.cell 1⟩, J2.frozen 0, J2.frozen 1⟩)
  have far3 : Hid (∀ (u : World) (x y z : Value), (u.cell? ⟨w2.heap.size, 0, none⟩ = some (.string nm) ∧ u.cell? ⟨w2.heap.size, 1, none⟩ = some (.int .i64 (st : Int)) ∧ u.cell? ⟨w2.heap.size, 2, none⟩ = some (.slice A2 m c2)) → w2.heap.size < u.heap.size → ((((u.setCell ⟨w.heap.size, 0, none⟩ x).setCell ⟨w.heap.size, 1, none⟩ y).setCell ⟨w.heap.size, 2, none⟩ z).cell? ⟨w2.heap.size, 0, none⟩ = some (.string nm) ∧ (((u.setCell ⟨w.heap.size, 0, none⟩ x).setCell ⟨w.heap.size, 1, none⟩ y).setCell ⟨w.heap.size, 2, none⟩ z).cell? ⟨w2.heap.size, 1, none⟩ = some (.int .i64 (st : Int)) ∧ (((u.setCell ⟨w.heap.size, 0, none⟩ x).setCell ⟨w.heap.size, 1, none⟩ y).setCell ⟨w.heap.size, 2, none⟩ z).cell? ⟨w2.heap.size, 2, none⟩ = some (.slice A2 m c2))) := Lib.hid (fun u x y z h hu => by
    have q : ∀ o : Nat, (((u.setCell ⟨w.heap.size, 0, none⟩ x).setCell ⟨w.heap.size, 1, none⟩ y).setCell ⟨w.heap.size, 2, none⟩ z).cell? ⟨w2.heap.size, o, none⟩ = u.cell? ⟨w2.heap.size, o, none⟩ := fun o => (sets3_grown u w.heap.size x y z).cell_far ⟨w2.heap.size, o, none⟩ hu (fun e => by injection e with e; dsimp only at e; omega)
    rw [q, q, q]; exact h)
  have far2 : Hid (∀ (u : World) (x y : Value), (u.cell? ⟨w2.heap.size, 0, none⟩ = some (.string nm) ∧ u.cell? ⟨w2.heap.size, 1, none⟩ = some (.int .i64 (st : Int)) ∧ u.cell? ⟨w2.heap.size, 2, none⟩ = some (.slice A2 m c2)) → w2.heap.size < u.heap.size → (((u.setCell ⟨w.heap.size + 1, 0, none⟩ x).setCell ⟨w.heap.size + 1, 1, none⟩ y).cell? ⟨w2.heap.size, 0, none⟩ = some (.string nm) ∧ ((u.setCell ⟨w.heap.size + 1, 0, none⟩ x).setCell ⟨w.heap.size + 1, 1, none⟩ y).cell? ⟨w2.heap.size, 1, none⟩ = some (.int .i64 (st : Int)) ∧ ((u.setCell ⟨w.heap.size + 1, 0, none⟩ x).setCell ⟨w.heap.size + 1, 1, none⟩ y).cell? ⟨w2.heap.size, 2, none⟩ = some (.slice A2 m c2))) := Lib.hid (fun u x y h hu => by
    have q : ∀ o : Nat, ((u.setCell ⟨w.heap.size + 1, 0, none⟩ x).setCell ⟨w.heap.size + 1, 1, none⟩ y).cell? ⟨w2.heap.size, o, none⟩ = u.cell? ⟨w2.heap.size, o, none⟩ := fun o => (sets2_grown u (w.heap.size + 1) x y).cell_far ⟨w2.heap.size, o, none⟩ hu (fun e => by injection e with e; dsimp only at e; omega)
    rw [q, q, q]; exact h)
  have BR : Hid (∀ u : World, w3.grownBy u (some p) → Blk u w.heap.size 26 [.string ⟨#[]⟩, .int .i64 0, .slice none 0 0] ∧ Blk u (w.heap.size + 1) 28 [.string ⟨#[]⟩, .string ⟨#[]⟩]) := Lib.hid (fun u hu => ⟨R3.grown hu (fun e => by injection e with e; omega), Q3.grown hu (fun e => by injection e with e; omega)⟩)
  have fin : Hid (∀ (u v : World) (kb ks : ByteArray) (a' : Nat), w3.grownBy u (some p) → Cur u p A n c a' → a' ≤ a + 102 → kb.size ≤ 8 → ks.size ≤ 8 → (∃ m : World, (u.grownBy m (some w.heap.size) ∧ m.grownBy v (some (w.heap.size + 1))) ∨ (u.grownBy m (some (w.heap.size + 1)) ∧ m.grownBy v (some w.heap.size))) → ∃ (nm' : ByteArray) (st' : Nat) (A' : Option Addr) (m' c' : Nat) (L' : List ByteArray) (kb' ks' : ByteArray), Ending.returned (Value.tuple #[.agg #[.string nm, .int .i64 (st : Int), .slice A2 m c2], .agg #[.string kb, .string ks]]) = .returned (.tuple #[.agg #[.string nm', .int .i64 (st' : Int), .slice A' m' c'], .agg #[.string kb', .string ks']]) ∧ goodM nm' st' L' = true ∧ 3 ≤ st' ∧ st' ≤ 6 ∧ kb'.size ≤ 8 ∧ ks'.size ≤ 8 ∧ m' ≤ 12 ∧ Owned strE 1 9 v w.heap.size A' m' c' L' ∧ Cur v p A n c (a + 102) ∧ w.grownBy v (some p)) := Lib.hid (fun u v kb ks a' h1 h2 h3' h4 h5 ⟨mm, h6'⟩ => by
    have ho := HO.out.past h1 (by omega)
    have hg := grownBy_trans HG.out h1
    rcases h6' with ⟨q1, q2⟩ | ⟨q1, q2⟩
    · exact ⟨nm, st, A2, m, c2, L, kb, ks, rfl, HGM.out, h3, h6, h4, h5, hm, ((ho.past q1 (by omega)).past q2 (by omega)).base_le (by omega), ((h2.grown q1 (fun e => by injection e with e; omega)).grown q2 (fun e => by injection e with e; omega)).mono h3', grow_own (grow_own hg q1 (fun k e => by injection e with e; omega)) q2 (fun k e => by injection e with e; omega)⟩
    · exact ⟨nm, st, A2, m, c2, L, kb, ks, rfl, HGM.out, h3, h6, h4, h5, hm, ((ho.past q1 (by omega)).past q2 (by omega)).base_le (by omega), ((h2.grown q1 (fun e => by injection e with e; omega)).grown q2 (fun e => by injection e with e; omega)).mono h3', grow_own (grow_own hg q1 (fun k e => by injection e with e; omega)) q2 (fun k e => by injection e with e; omega)⟩)
  have C0 : w3.grownBy w3.drew (some p) := grown_any (below_drewN (Below.refl _ _) 1) _
  clear K2 R3 Q3 a2
  go_region_held3 (fun u => u.cell? ⟨w2.heap.size, 0, none⟩ = some (.string nm) ∧ u.cell? ⟨w2.heap.size, 1, none⟩ = some (.int .i64 (st : Int)) ∧ u.cell? ⟨w2.heap.size, 2, none⟩ = some (.slice A2 m c2)) (first | with_reducible exact carry.out _ C2 | with_reducible exact carry.out _ C1 | with_reducible exact carry.out _ C0 | with_reducible exact far3.out _ _ _ _ (by assumption) (by first | omega | (simp; omega)) | with_reducible exact far2.out _ _ _ (by assumption) (by first | omega | (simp; omega))) (first | (go_at_call 190; (with_reducible refine (cur_change HS.out (G.out _ (grownBy_trans HG.out C1)) hp hc4 (by omega) (by omega) h3).mono ?_); rintro e w5 ⟨ks, rfl, gks, zks, hc5, hg5⟩; have C2 := grownBy_trans C1 hg5; have X2 := hg5.size; obtain ⟨⟨u0, u1, u2⟩, ⟨v0, v1, v2⟩, ⟨x0, x1⟩, y0, y1⟩ := carB.out _ C2) | (go_at_call 190; (with_reducible refine (cur_change HS.out (G.out _ (grownBy_trans HG.out C0)) hp (HC.out.up (below_drewN (Below.refl _ _) 1)) (by omega) (by omega) h3).mono ?_); rintro e w4 ⟨kb, rfl, gkb, zkb, hc4, hg4⟩; have C1 := grownBy_trans C0 hg4; have X1 := hg4.size; simp at X1))
  · obtain ⟨R5, Q5⟩ := BR.out _ C2
    have R6 := (((R5.set_ 0 (.string nm)).set_ 1 (.int .i64 (st : Int))).set_ 2 (.slice A2 m c2)).grown (sets2_grown _ (w.heap.size + 1) (.string kb) (.string ks)) (fun e => by injection e with e; omega)
    have Q6 := ((Q5.grown (sets3_grown w5 w.heap.size (.string nm) (.int .i64 (st : Int)) (.slice A2 m c2)) (fun e => by injection e with e; omega)).set_ 0 (.string kb)).set_ 1 (.string ks)
    have k0 := R6.cell 0; have k1 := R6.cell 1; have k2 := R6.cell 2; have l0 := Q6.cell 0; have l1 := Q6.cell 1
    simp only [List.set_cons_zero, List.set_cons_succ, List.getElem?_cons_zero, List.getElem?_cons_succ] at k0 k1 k2 l0 l1
    have FF := Lib.hid (fin.out _ _ kb ks _ C2 hc5 (by omega) zkb zks ⟨_, .inl ⟨sets3_grown w5 w.heap.size (.string nm) (.int .i64 (st : Int)) (.slice A2 m c2), sets2_grown _ (w.heap.size + 1) (.string kb) (.string ks)⟩⟩)
    clear R5 Q5 R6 Q6 hc5 hc4 C0 C1 C2 fin carry carB far2 far3 u0 u1 u2 v0 v1 v2 x0 x1 y0 y1
    go_wp2_with fail
    refine bodyPost_ret (v := .tuple #[.agg #[.string nm, .int .i64 (st : Int), .slice A2 m c2], .agg #[.string kb, .string ks]]) (by simp [results, Try.results154, go_sem, k0, k1, k2, l0, l1]) rfl ?_
    exact FF.out
set_option maxHeartbeats 1000000 in
set_option maxRecDepth 100000 in
theorem cur_staged {A : Option Addr} {n c a p : Nat} {w0 w : World} (hS : Src w0 A n) (hb : Below w0.heap.size w0 w) (hp : w0.heap.size ≤ p) (hc : Cur w p A n c a) (ha : a ≤ 100000) :
    Calls Try.prog 162 #[.pointer (some ⟨p, 0, none⟩)] w fun e w' => ∃ (st : Nat) (x : ByteArray), e = .returned (.tuple #[.int .i64 st, .string x]) ∧ st ≤ 14 ∧ x.size ≤ 8 ∧ Cur w' p A n c (a + 10) ∧ w.grownBy w' (some p) := by
  have hpw := hc.lt
  have G : Hid (∀ u : World, w.grownBy u (some p) → Below w0.heap.size w0 u) := Lib.hid (fun u hg => grown_below hb hp hg)
  go_in
  go_wp2_with fail
  refine (cur_stage hS hb hp hc (by omega)).mono ?_; rintro e w1 ⟨X, rfl, x3, x8, hc1, hg1⟩
  go_wp2_with fail
  refine (cur_one hS (G.out _ hg1) hp hc1 (by omega) (by decide) (by decide)).mono ?_; rintro e w2 ⟨b, rfl, hc2, hg2⟩
  have g2 := grownBy_trans hg1 hg2
  rcases b
  · go_wp2_with fail
    refine (cur_change hS (G.out _ g2) hp hc2 (by omega) (by omega) (by omega)).mono ?_; rintro e w3 ⟨x, rfl, _, zx, hc3, hg3⟩
    go_wp2
    go_ret2
    exact ⟨X, x, rfl, by omega, zx, hc3.mono (by omega), grownBy_trans g2 hg3⟩
  · go_wp2_with fail
    refine (cur_pick hS (G.out _ g2) hp hc2 (by omega) (by decide) (by decide)).mono ?_; rintro e w3 ⟨y, rfl, ⟨y0, y1⟩, hc3, hg3⟩
    have g3 := grownBy_trans g2 hg3
    obtain ⟨Y, rfl⟩ := Int.eq_ofNat_of_zero_le y0
    have hY : Y ≤ 1 := by omega
    clear y0 y1
    go_wp2_with fail
    have hl := lit_strs2 w3 9 [⟨#[45]⟩, ⟨#[]⟩, ⟨#[49]⟩, ⟨#[49, 50]⟩, ⟨#[49, 51]⟩, ⟨#[49, 52]⟩, ⟨#[49, 54]⟩, ⟨#[49, 50, 51, 52, 53, 54]⟩, ⟨#[51, 54]⟩, ⟨#[48]⟩, ⟨#[50, 49]⟩]
    have hpw3 := hc3.lt
    refine (cur_of hS ((G.out _ g3).alloc (G.out _ g3).size _) hp (hc3.up ((Below.refl _ _).alloc (Nat.le_refl _) _)) (by omega) rfl hl (by decide) (by decide) (fun b o e => by injection e with e; injection e with e; omega)).mono ?_; rintro e w4 ⟨x, hx, rfl, hc4, hg4⟩
    have hxs : x.size ≤ 8 := by
      simp only [List.mem_cons, List.not_mem_nil, or_false] at hx
      rcases hx with rfl | rfl | rfl | rfl | rfl | rfl | rfl | rfl | rfl | rfl | rfl <;> decide
    clear hx hl
    go_wp2
    refine bodyPost_ret (v := .tuple #[.int .i64 ((X + Y * 6 : Nat) : Int), .string x]) (by simp [results, Try.results162, go_sem] <;> (try constructor) <;> (try exact (Ending.returned.inj (by assumption)).symm) <;> omega) rfl ?_
    exact ⟨X + Y * 6, x, rfl, by omega, hxs, hc4.mono (by omega), grownBy_trans g3 (grownBy_trans (World.grownBy_alloc _ _ _) hg4)⟩
set_option maxRecDepth 100000 in
theorem draw_GoodChange {A : Option Addr} {n c : Nat} {w : World} (hS : Src w A n) :
    Calls Try.prog 79 #[.slice A n c] w fun e w' => ∃ (st : Nat) (x : ByteArray), e = .returned (.tuple #[.int .i64 st, .string x]) ∧ st ≤ 14 ∧ x.size ≤ 8 ∧ Below w.heap.size w w' := by
  have b0 : Below w.heap.size w (w.alloc (.cells #[.slice A n c, .int .i64 0, .int .u64 0] 104)) := by (repeat' (first | (with_reducible exact Below.refl _ _) | (with_reducible assumption) | (with_reducible refine below_drewN ?_ _) | (with_reducible refine Below.drew ?_) | (with_reducible refine below_alloc ?_ _) | (with_reducible refine Below.alloc ?_ ?_ _) | (with_reducible refine Below.setCell ?_ ?_ _) | (with_reducible refine below_go ?_ (by with_reducible assumption)) | (with_reducible refine below_then (by with_reducible assumption) ?_ ?_) | go_size))
  have c0 := cur_fresh w A n c
  go_in
  go_wp2_with fail
  refine (cur_staged hS b0 (Nat.le_refl _) c0 (by omega)).mono ?_; rintro e w2 ⟨st, x, rfl, h1, h2, hc2, hg2⟩
  go_wp2
  go_ret2
  exact ⟨st, x, rfl, h1, h2, grown_below b0 (Nat.le_refl _) hg2⟩
set_option maxRecDepth 100000 in
theorem draw_ChangeSign {A : Option Addr} {n c : Nat} {w : World} (hS : Src w A n) :
    Calls Try.prog 17 #[.slice A n c] w fun e w' => ∃ (st : Nat) (x : ByteArray), e = .returned (.tuple #[.int .i64 st, .string x]) ∧ st ≤ 14 ∧ x.size ≤ 8 ∧ Below w.heap.size w w' := by
  go_in
  go_wp2_with fail
  refine (draw_GoodChange hS).mono ?_; rintro e w2 ⟨st, x, rfl, h1, h2, h3⟩
  go_wp2
  go_ret2
  exact ⟨st, x, rfl, h1, h2, h3⟩
end Go.Proofs.Ytpccbmndgdiloaa
/- The walks through draws of beats and strikes. -/
namespace Go.Proofs.Ytpccbmndgdiloaa
set_option linter.unusedVariables false
set_option linter.unusedSimpArgs false
open Go.ChangeShapes Go.WideShapes Go.ChangeAt Go.RowKit Go.Deep
theorem spec_l1MostS (a b : Int) (w : World) :
    Calls Try.prog 198 #[.int .i64 a, .int .i64 b] w fun e w' => e = .returned (.int .i64 (max a b)) ∧ w = w' := by
  by_cases h : b < a
  · go_in
    go_wp2
    go_ret
    exact ⟨ret_int (by omega), rfl⟩
  · go_in
    go_wp2
    go_ret
    exact ⟨ret_int (by omega), rfl⟩
set_option maxHeartbeats 1000000 in
set_option maxRecDepth 100000 in
theorem cur_beat {A : Option Addr} {n c a p : Nat} {w0 w : World} (hS : Src w0 A n) (hb : Below w0.heap.size w0 w) (hp : w0.heap.size ≤ p) (hc : Cur w p A n c a) (ha : a ≤ 1000000) :
    Calls Try.prog 140 #[.pointer (some ⟨p, 0, none⟩)] w fun e w' => ∃ x y z : Int, e = .returned (.agg #[.int .i64 x, .int .i64 y, .int .i64 z]) ∧ (-1 ≤ x ∧ x ≤ 1000001) ∧ (0 ≤ y ∧ y ≤ 2001) ∧ (0 ≤ z ∧ z ≤ 250) ∧ Cur w' p A n c (a + 10) ∧ w.grownBy w' (some p) := by
  have hpw := hc.lt
  have G : Hid (∀ u : World, w.grownBy u (some p) → Below w0.heap.size w0 u) := Lib.hid (fun u hg => grown_below hb hp hg)
  have HS := Lib.hid hS
  have R0 := Blk.at_ w 80 [.int .i64 0, .int .i64 0, .int .i64 0] (b := w.heap.size) rfl
  have a0 : Below w.heap.size w (w.alloc (.cells #[.int .i64 0, .int .i64 0, .int .i64 0] 80)) := by (repeat' (first | (with_reducible exact Below.refl _ _) | (with_reducible assumption) | (with_reducible refine below_drewN ?_ _) | (with_reducible refine Below.drew ?_) | (with_reducible refine below_alloc ?_ _) | (with_reducible refine Below.alloc ?_ ?_ _) | (with_reducible refine Below.setCell ?_ ?_ _) | (with_reducible refine below_go ?_ (by with_reducible assumption)) | (with_reducible refine below_then (by with_reducible assumption) ?_ ?_) | go_size))
  go_in
  go_upto_region 1 with fail
  obtain ⟨v0, hv0⟩ : ∃ u, u = w.alloc (.cells #[.int .i64 0, .int .i64 0, .int .i64 0] 80) := ⟨_, rfl⟩
  have z0 : w.heap.size < v0.heap.size := by rw [hv0]; simp
  rw [← hv0] at R0 a0 ⊢
  clear hv0
  have hcv := hc.up a0
  have hgv : w.grownBy v0 (some p) := grown_any a0 _
  clear hS hb
  have lw1 := lit_ints v0 3 [0, 100, 1000]
  have ltw1 := hcv.lt
  go_wp2_with fail
  refine (cur_among HS.out ((G.out _ hgv).alloc (G.out _ hgv).size _) hp (hcv.up ((Below.refl _ _).alloc (Nat.le_refl _) _)) (by omega) rfl lw1 (by decide) (by decide) (fun b o e => by injection e with e; injection e with e; omega)).mono ?_; rintro e w1 ⟨x, hx, rfl, hcw1, hhw1⟩
  have hgw1 := grownBy_trans hgv (grownBy_trans (World.grownBy_alloc _ _ _) hhw1)
  have bx : 0 ≤ x ∧ x ≤ 1000 := by simp only [List.mem_cons, List.not_mem_nil, or_false] at hx; omega
  clear hx lw1
  have lw2 := lit_ints w1 3 [200, 230, 250]
  have ltw2 := hcw1.lt
  go_wp2_with fail
  refine (cur_among HS.out ((G.out _ hgw1).alloc (G.out _ hgw1).size _) hp (hcw1.up ((Below.refl _ _).alloc (Nat.le_refl _) _)) (by omega) rfl lw2 (by decide) (by decide) (fun b o e => by injection e with e; injection e with e; omega)).mono ?_; rintro e w2 ⟨y, hy, rfl, hcw2, hhw2⟩
  have hgw2 := grownBy_trans hgw1 (grownBy_trans (World.grownBy_alloc _ _ _) hhw2)
  have bY : 200 ≤ y ∧ y ≤ 250 := by simp only [List.mem_cons, List.not_mem_nil, or_false] at hy; omega
  clear hy lw2
  have lw3 := lit_ints w2 3 [0, 200, 250]
  have ltw3 := hcw2.lt
  go_wp2_with fail
  refine (cur_among HS.out ((G.out _ hgw2).alloc (G.out _ hgw2).size _) hp (hcw2.up ((Below.refl _ _).alloc (Nat.le_refl _) _)) (by omega) rfl lw3 (by decide) (by decide) (fun b o e => by injection e with e; injection e with e; omega)).mono ?_; rintro e w3 ⟨z, hz, rfl, hcw3, hhw3⟩
  have hgw3 := grownBy_trans hgw2 (grownBy_trans (World.grownBy_alloc _ _ _) hhw3)
  have bz : 0 ≤ z ∧ z ≤ 250 := by simp only [List.mem_cons, List.not_mem_nil, or_false] at hz; omega
  have R3 : Blk w3 w.heap.size 80 [.int .i64 0, .int .i64 0, .int .i64 0] := (((((R0.alloc _).grown hhw1 (fun e => by injection e with e; omega)).alloc _).grown hhw2 (fun e => by injection e with e; omega)).alloc _).grown hhw3 (fun e => by injection e with e; omega)
  have K3 := Blk.at_ w3 80 [.int .i64 x, .int .i64 y, .int .i64 z] (b := w3.heap.size) rfl
  have a3 : Below w3.heap.size w3 (w3.alloc (.cells #[.int .i64 x, .int .i64 y, .int .i64 z] 80)) := by (repeat' (first | (with_reducible exact Below.refl _ _) | (with_reducible assumption) | (with_reducible refine below_drewN ?_ _) | (with_reducible refine Below.drew ?_) | (with_reducible refine below_alloc ?_ _) | (with_reducible refine Below.alloc ?_ ?_ _) | (with_reducible refine Below.setCell ?_ ?_ _) | (with_reducible refine below_go ?_ (by with_reducible assumption)) | (with_reducible refine below_then (by with_reducible assumption) ?_ ?_) | go_size))
  have s3 := hgw3.size
  have s3v := R3.lt
  clear hz lw3 R0 a0 hcv hgv hcw1 hgw1 hhw1 hcw2 hgw2 hhw2 hhw3 hc ltw1 ltw2 ltw3
  go_upto_region 2 with fail
  obtain ⟨v4, hv4⟩ : ∃ u, u = w3.alloc (.cells #[.int .i64 x, .int .i64 y, .int .i64 z] 80) := ⟨_, rfl⟩
  have z4 : w3.heap.size < v4.heap.size := by rw [hv4]; simp
  rw [← hv4] at K3 a3 ⊢
  clear hv4
  have R4 := R3.up a3
  have hc4 := hcw3.up a3
  have hg4 := grownBy_trans hgw3 (grown_any a3 (some p))
  clear R3 a3 hcw3 hgw3
  go_wp2_with fail
  refine (cur_pick HS.out (G.out _ hg4) hp hc4 (by omega) (by decide) (by decide)).mono ?_; rintro e w5 ⟨q, rfl, ⟨q0, q1⟩, hc5, hh5⟩
  have hg5 := grownBy_trans hg4 hh5
  have R5 := R4.grown hh5 (fun e => by injection e with e; omega)
  have K5 := K3.grown hh5 (fun e => by injection e with e; omega)
  clear R4 K3 hc4 hg4
  obtain ⟨Q, rfl⟩ := Int.eq_ofNat_of_zero_le q0
  clear q0 q1
  by_cases Q0 : Q = 0
  · subst Q0
    have lw6 := lit_ints w5 3 [0, 1, 2000, 2001]
    have ltw6 := hc5.lt
    go_wp2_with fail
    refine (cur_among HS.out ((G.out _ hg5).alloc (G.out _ hg5).size _) hp (hc5.up ((Below.refl _ _).alloc (Nat.le_refl _) _)) (by omega) rfl lw6 (by decide) (by decide) (fun b o e => by injection e with e; injection e with e; omega)).mono ?_; rintro e w6 ⟨v, hv, rfl, hcw6, hhw6⟩
    have hgw6 := grownBy_trans hg5 (grownBy_trans (World.grownBy_alloc _ _ _) hhw6)
    have bv : 0 ≤ v ∧ v ≤ 2001 := by simp only [List.mem_cons, List.not_mem_nil, or_false] at hv; omega
    have g6 := grownBy_trans (World.grownBy_alloc w5 _ (some p)) hhw6
    have R6 := R5.grown g6 (fun e => by injection e with e; omega)
    have K6 := K5.grown g6 (fun e => by injection e with e; omega)
    have o1 := K6.cell 1; have of1 := K6.frozen 1; have o0 := K6.cell 0; have o2 := K6.cell 2
    simp only [List.getElem?_cons_zero, List.getElem?_cons_succ] at o0 o1 o2
    clear hv lw6 R5 K5 hc5 hg5 hhw6 g6
    have qs := only_set w6 (p := ⟨w3.heap.size, 1, none⟩) (.int .i64 v)
    have RR := R6.grown qs (fun e => by injection e with e; dsimp only at e; omega)
    have K7 := K6.set_ 1 (.int .i64 v)
    have k0 := K7.cell 0; have k1 := K7.cell 1; have k2 := K7.cell 2
    have C7 := hcw6.grown qs (fun e => by injection e with e; dsimp only at e; omega)
    have G7 := grow_own hgw6 qs (fun k e => by injection e with e; dsimp only at e; omega)
    clear K6 K7 R6 qs hcw6 hgw6
    have u0 := RR.cell 0; have u1 := RR.cell 1; have u2 := RR.cell 2; have f0 := RR.frozen 0; have f1 := RR.frozen 1; have f2 := RR.frozen 2
    simp only [List.getElem?_cons_zero, List.getElem?_cons_succ, List.set_cons_zero, List.set_cons_succ] at k0 k1 k2 u0 u1 u2
    have q1 := sets3_grown (w6.setCell ⟨w3.heap.size, 1, none⟩ (.int .i64 v)) w.heap.size (.int .i64 x) (.int .i64 v) (.int .i64 z)
    have R6 := ((RR.set_ 0 (.int .i64 x)).set_ 1 (.int .i64 v)).set_ 2 (.int .i64 z)
    have e0 := R6.cell 0; have e1 := R6.cell 1; have e2 := R6.cell 2
    simp only [List.getElem?_cons_zero, List.getElem?_cons_succ, List.set_cons_zero, List.set_cons_succ] at e0 e1 e2
    have HCF := Lib.hid (C7.grown q1 (fun e => by injection e with e; omega))
    have HGF := Lib.hid (grow_own G7 q1 (fun k e => by injection e with e; omega))
    clear R6 q1 RR
    go_wp2_with fail
    refine bodyPost_ret (v := .agg #[.int .i64 x, .int .i64 v, .int .i64 z]) (by simp [results, Try.results140, go_sem, e0, e1, e2]) rfl ?_
    exact ⟨x, v, z, rfl, by omega, by omega, by omega, HCF.out.mono (by omega), HGF.out⟩
  · have Q0I : ¬ (Q : Int) = 0 := by omega
    by_cases Q1 : Q = 1
    · subst Q1
      have lw6 := lit_ints w5 3 [-1, 1000000, 1000001]
      have ltw6 := hc5.lt
      go_wp2_with fail
      refine (cur_among HS.out ((G.out _ hg5).alloc (G.out _ hg5).size _) hp (hc5.up ((Below.refl _ _).alloc (Nat.le_refl _) _)) (by omega) rfl lw6 (by decide) (by decide) (fun b o e => by injection e with e; injection e with e; omega)).mono ?_; rintro e w6 ⟨v, hv, rfl, hcw6, hhw6⟩
      have hgw6 := grownBy_trans hg5 (grownBy_trans (World.grownBy_alloc _ _ _) hhw6)
      have bv : -1 ≤ v ∧ v ≤ 1000001 := by simp only [List.mem_cons, List.not_mem_nil, or_false] at hv; omega
      have g6 := grownBy_trans (World.grownBy_alloc w5 _ (some p)) hhw6
      have R6 := R5.grown g6 (fun e => by injection e with e; omega)
      have K6 := K5.grown g6 (fun e => by injection e with e; omega)
      have o1 := K6.cell 1; have of0 := K6.frozen 0; have o0 := K6.cell 0; have o2 := K6.cell 2
      simp only [List.getElem?_cons_zero, List.getElem?_cons_succ] at o0 o1 o2
      clear hv lw6 R5 K5 hc5 hg5 hhw6 g6
      have qs := only_set w6 (p := ⟨w3.heap.size, 0, none⟩) (.int .i64 v)
      have RR := R6.grown qs (fun e => by injection e with e; dsimp only at e; omega)
      have K7 := K6.set_ 0 (.int .i64 v)
      have k0 := K7.cell 0; have k1 := K7.cell 1; have k2 := K7.cell 2
      have C7 := hcw6.grown qs (fun e => by injection e with e; dsimp only at e; omega)
      have G7 := grow_own hgw6 qs (fun k e => by injection e with e; dsimp only at e; omega)
      clear K6 K7 R6 qs hcw6 hgw6
      have u0 := RR.cell 0; have u1 := RR.cell 1; have u2 := RR.cell 2; have f0 := RR.frozen 0; have f1 := RR.frozen 1; have f2 := RR.frozen 2
      simp only [List.getElem?_cons_zero, List.getElem?_cons_succ, List.set_cons_zero, List.set_cons_succ] at k0 k1 k2 u0 u1 u2
      have q1 := sets3_grown (w6.setCell ⟨w3.heap.size, 0, none⟩ (.int .i64 v)) w.heap.size (.int .i64 v) (.int .i64 y) (.int .i64 z)
      have R6 := ((RR.set_ 0 (.int .i64 v)).set_ 1 (.int .i64 y)).set_ 2 (.int .i64 z)
      have e0 := R6.cell 0; have e1 := R6.cell 1; have e2 := R6.cell 2
      simp only [List.getElem?_cons_zero, List.getElem?_cons_succ, List.set_cons_zero, List.set_cons_succ] at e0 e1 e2
      have HCF := Lib.hid (C7.grown q1 (fun e => by injection e with e; omega))
      have HGF := Lib.hid (grow_own G7 q1 (fun k e => by injection e with e; omega))
      clear R6 q1 RR
      go_wp2_with fail
      refine bodyPost_ret (v := .agg #[.int .i64 v, .int .i64 y, .int .i64 z]) (by simp [results, Try.results140, go_sem, e0, e1, e2]) rfl ?_
      exact ⟨v, y, z, rfl, by omega, by omega, by omega, HCF.out.mono (by omega), HGF.out⟩
    · have Q1I : ¬ (Q : Int) = 1 := by omega
      have k0 := K5.cell 0; have k1 := K5.cell 1; have k2 := K5.cell 2
      have RR := R5
      have u0 := RR.cell 0; have u1 := RR.cell 1; have u2 := RR.cell 2; have f0 := RR.frozen 0; have f1 := RR.frozen 1; have f2 := RR.frozen 2
      simp only [List.getElem?_cons_zero, List.getElem?_cons_succ, List.set_cons_zero, List.set_cons_succ] at k0 k1 k2 u0 u1 u2
      have q1 := sets3_grown w5 w.heap.size (.int .i64 x) (.int .i64 y) (.int .i64 z)
      have R6 := ((RR.set_ 0 (.int .i64 x)).set_ 1 (.int .i64 y)).set_ 2 (.int .i64 z)
      have e0 := R6.cell 0; have e1 := R6.cell 1; have e2 := R6.cell 2
      simp only [List.getElem?_cons_zero, List.getElem?_cons_succ, List.set_cons_zero, List.set_cons_succ] at e0 e1 e2
      have HCF := Lib.hid (hc5.grown q1 (fun e => by injection e with e; omega))
      have HGF := Lib.hid (grow_own hg5 q1 (fun k e => by injection e with e; omega))
      clear R6 q1 RR
      go_wp2_with fail
      refine bodyPost_ret (v := .agg #[.int .i64 x, .int .i64 y, .int .i64 z]) (by simp [results, Try.results140, go_sem, e0, e1, e2]) rfl ?_
      exact ⟨x, y, z, rfl, by omega, by omega, by omega, HCF.out.mono (by omega), HGF.out⟩
end Go.Proofs.Ytpccbmndgdiloaa
/- The walks through draws of strikes. -/
namespace Go.Proofs.Ytpccbmndgdiloaa
set_option linter.unusedVariables false
set_option linter.unusedSimpArgs false
open Go.ChangeShapes Go.WideShapes Go.ChangeAt Go.RowKit Go.Deep
theorem at_strike {w : World} {A : Option Addr} {l : List (Int × Int)} {k : Nat} {x1 x2 : Int} (h : Recs strikeE 2 w A l) (hx : l[k]? = some (x1, x2)) : ∃ b o, A = some ⟨b, o, none⟩ ∧ b < w.heap.size ∧ w.cell? ⟨b, o + k * 2, none⟩ = some (.int .i64 x1) ∧ w.cell? ⟨b, o + k * 2 + 1, none⟩ = some (.int .i64 x2) :=
  Recs.at_2 (f := fun s : Int × Int => Value.int .i64 s.1) (g := fun s : Int × Int => Value.int .i64 s.2) h hx
theorem lit_strike (w : World) (x y : Int) : Recs strikeE 2 (w.alloc (.cells #[.int .i64 x, .int .i64 y] 140)) (some ⟨w.heap.size, 0, none⟩) [(x, y)] := by
  refine ⟨strikeE_len, rfl, fun hn => ⟨w.heap.size, 0, rfl, by simp, fun j u hu => ?_⟩⟩
  have h := Box.new w [.int .i64 x, .int .i64 y] 140
  rw [Nat.zero_add]
  exact h j u hu
/-- Bells and times as draws make them. -/
def stkB (s : Int × Int) : Prop := (0 ≤ s.1 ∧ s.1 ≤ 9) ∧ 0 ≤ s.2 ∧ s.2 ≤ 200000000
def stkL (L : List (Int × Int)) : Prop := ∀ s ∈ L, stkB s
theorem mg_mem {P : Int × Int → Prop} {a b : List (Int × Int)} (h : ∀ s ∈ a, P s) (g : ∀ s ∈ b, P s) : ∀ s ∈ List.merge a b leT, P s := fun s hs => by
  have := (List.merge_perm_append leT).mem_iff.1 hs
  rcases List.mem_append.1 this with hs | hs
  · exact h s hs
  · exact g s hs
set_option maxHeartbeats 2000000 in
set_option maxRecDepth 100000 in
theorem cur_struck {A B : Option Addr} {n c a p m d : Nat} {x y z : Int} {l : List ByteArray} {w0 w : World} (hS : Src w0 A n) (hb : Below w0.heap.size w0 w) (hp : w0.heap.size ≤ p) (hc : Cur w p A n c a) (ha : a ≤ 900000) (hx : -1 ≤ x ∧ x ≤ 1000001) (hy : 0 ≤ y ∧ y ≤ 2001) (hzz : 0 ≤ z ∧ z ≤ 2000) (hl : l.length = m) (h : Strs w B l) (hm : m ≤ 12) (hdg : ∀ s ∈ l, digS s) :
    Calls Try.prog 142 #[.pointer (some ⟨p, 0, none⟩), .agg #[.int .i64 x, .int .i64 y, .int .i64 z], .slice B m d] w fun e w' => ∃ A' m' c' L, e = .returned (.slice A' m' c') ∧ m' ≤ 192 ∧ stkL L ∧ Owned strikeE 2 140 w' w.heap.size A' m' c' L ∧ Cur w' p A n c (a + 400) ∧ w.grownBy w' (some p) := by
  have hpw := hc.lt
  have G : Hid (∀ u : World, w.grownBy u (some p) → Below w0.heap.size w0 u) := Lib.hid (fun u hg => grown_below hb hp hg)
  have HS := Lib.hid hS
  have K0 := Blk.at_ w 80 [.int .i64 x, .int .i64 y, .int .i64 z] (b := w.heap.size) rfl
  have a0 : Below w.heap.size w (w.alloc (.cells #[.int .i64 x, .int .i64 y, .int .i64 z] 80)) := by (repeat' (first | (with_reducible exact Below.refl _ _) | (with_reducible assumption) | (with_reducible refine below_drewN ?_ _) | (with_reducible refine Below.drew ?_) | (with_reducible refine below_alloc ?_ _) | (with_reducible refine Below.alloc ?_ ?_ _) | (with_reducible refine Below.setCell ?_ ?_ _) | (with_reducible refine below_go ?_ (by with_reducible assumption)) | (with_reducible refine below_then (by with_reducible assumption) ?_ ?_) | go_size))
  clear hS hb
  go_in
  go_upto_region 2 with fail
  obtain ⟨v0, hv0⟩ : ∃ u, u = w.alloc (.cells #[.int .i64 x, .int .i64 y, .int .i64 z] 80) := ⟨_, rfl⟩
  have z0 : w.heap.size < v0.heap.size := by rw [hv0]; simp
  rw [← hv0] at K0 a0 ⊢
  clear hv0
  have hcv := hc.up a0
  have hgv : w.grownBy v0 (some p) := grown_any a0 _
  have k0 := K0.cell 0; have k1 := K0.cell 1; have k2 := K0.cell 2
  simp only [List.getElem?_cons_zero, List.getElem?_cons_succ] at k0 k1 k2
  go_wp2_with fail
  refine (spec_l21IdealL hl (h.up a0) hx hy hzz (by omega) hdg).mono ?_; rintro e w1 ⟨AI, cI, rfl, hoI, _, hbI⟩
  have HIB := Lib.hid (idl_bdL hx hy hzz (by omega) hdg l.length (Nat.le_refl _))
  have hIL := idl_len (x := x) (y := y) (z := z) (fun s hs => (hdg s hs).1) l.length (Nat.le_refl _)
  obtain ⟨LI, hLI⟩ : ∃ LI, LI = idl x y z l l.length := ⟨_, rfl⟩
  rw [← hLI] at hoI HIB hIL
  rw [← hLI]
  have hI96 : LI.length ≤ 96 := by omega
  obtain ⟨MI, hMI⟩ : ∃ MI, MI = LI.length := ⟨_, rfl⟩
  rw [← hMI] at hoI hI96 ⊢
  have HMI := Lib.hid hMI.symm
  have HI1 := Lib.hid (hoI.base_le (Nat.le_of_lt z0))
  have HC1 := Lib.hid (hcv.up hbI)
  have HG1 := Lib.hid (grownBy_trans hgv (grown_any hbI (some p)))
  clear hoI hLI hIL hbI hgv hcv K0 k0 k1 k2 a0 hdg h hl hMI hc
  go_wp2
  go_loopw [7, 14] (fun v i wr => ∃ (k m' : Nat) (A' : Option Addr) (c' : Nat) (L : List (Int × Int)), k ≤ MI ∧ i = .int .i64 k ∧ v = .slice A' m' c' ∧ m' ≤ 2 * k ∧ stkL L ∧ Hid (Owned strikeE 2 140 wr w.heap.size AI MI cI LI) ∧ Hid (Owned strikeE 2 140 wr w.heap.size A' m' c' L) ∧ Hid (Cur wr p A n c (a + 3 * k)) ∧ Hid (w.grownBy wr (some p))) (fun _ i _ => MI - (intOf i).toNat)
  case atStart => exact ⟨0, 0, none, 0, [], Nat.zero_le _, rfl, rfl, by omega, (fun s hs => by cases hs), HI1, Lib.hid (Owned.nil strikeE_len _ _ _), HC1, HG1⟩
  case round =>
    obtain ⟨k, m', A2, c2, L, hk, rfl, rfl, hm2, HZ, HI, HO, HC, HG⟩ := hrel
    rename World => wr
    have hsr := HG.out.size
    by_cases hlt : k < MI
    · have hI : (k : Int) < (MI : Int) := by omega
      obtain ⟨⟨xb, xa⟩, hxk⟩ := some_of_lt (l := LI) (k := k) (by rw [HMI.out]; exact hlt)
      have hxz := HIB.out _ (List.mem_of_getElem? hxk)
      dsimp only at hxz
      obtain ⟨gI, oI, rfl, hbI, cx0, cx1⟩ := at_strike HI.out.recs hxk
      have K1 := Blk.at_ wr 140 [.int .i64 xb, .int .i64 xa] (b := wr.heap.size) rfl
      have a1 : Below wr.heap.size wr (wr.alloc (.cells #[.int .i64 xb, .int .i64 xa] 140)) := by (repeat' (first | (with_reducible exact Below.refl _ _) | (with_reducible assumption) | (with_reducible refine below_drewN ?_ _) | (with_reducible refine Below.drew ?_) | (with_reducible refine below_alloc ?_ _) | (with_reducible refine Below.alloc ?_ ?_ _) | (with_reducible refine Below.setCell ?_ ?_ _) | (with_reducible refine below_go ?_ (by with_reducible assumption)) | (with_reducible refine below_then (by with_reducible assumption) ?_ ?_) | go_size))
      have HIa := Lib.hid (HI.out.up a1)
      have HOa := Lib.hid (HO.out.up a1)
      have HCa := Lib.hid (HC.out.up a1)
      have HGa := Lib.hid (grownBy_trans HG.out (grown_any a1 (some p)))
      have RI := Lib.hid HI.out.range
      have RO := Lib.hid HO.out.range
      clear hxk HI HO HC HG
      go_upto_region 5 with fail
      obtain ⟨v1, hv1⟩ : ∃ u, u = wr.alloc (.cells #[.int .i64 xb, .int .i64 xa] 140) := ⟨_, rfl⟩
      have z1 : wr.heap.size < v1.heap.size := by rw [hv1]; simp
      rw [← hv1] at K1 HIa HOa HCa HGa ⊢
      clear hv1 a1 cx0 cx1
      go_wp2_with fail
      refine (cur_one HS.out (G.out _ HGa.out) hp HCa.out (by omega) (by decide) (by decide)).mono ?_; rintro e w2 ⟨bb, rfl, hc2, hg2⟩
      have K2 := K1.grown hg2 (fun e => by injection e with e; omega)
      have HI2 := Lib.hid (HIa.out.past hg2 hpw)
      have HO2 := Lib.hid (HOa.out.past hg2 hpw)
      have HC2 := Lib.hid hc2
      have HG2 := Lib.hid (grownBy_trans HGa.out hg2)
      have s2 := hg2.size
      clear K1 HIa HOa HCa HGa hc2 hg2
      rcases bb
      · have k0 := K2.cell 0; have k1 := K2.cell 1; have f1 := K2.frozen 1
        simp only [List.getElem?_cons_zero, List.getElem?_cons_succ] at k0 k1
        have k1d : w2.drew.cell? ⟨wr.heap.size, 1, none⟩ = some (.int .i64 xa) := k1
        have hlit := lit_ints w2.drew 3 [0, 0, 10, -10, 30, -30, 80, -80]
        have bd : Below w2.heap.size w2 w2.drew := below_drewN (Below.refl _ _) 1
        have gd : w2.grownBy (w2.drew.alloc (.cells ⟨([0, 0, 10, -10, 30, -30, 80, -80] : List Int).map fun x => Value.int .i64 x⟩ 3)) (some p) := grownBy_trans (grown_any bd _) (World.grownBy_alloc _ _ _)
        have hlt2 := HC2.out.lt
        go_upto_region 6 with fail
        have kla : (w2.drew.alloc (.cells #[.int .i64 0, .int .i64 0, .int .i64 10, .int .i64 (-10), .int .i64 30, .int .i64 (-30), .int .i64 80, .int .i64 (-80)] 3)).cell? ⟨wr.heap.size, 1, none⟩ = some (.int .i64 xa) := ((K2.drewN 1).alloc (.cells #[.int .i64 0, .int .i64 0, .int .i64 10, .int .i64 (-10), .int .i64 30, .int .i64 (-30), .int .i64 80, .int .i64 (-80)] 3)).cell 1
        have hlt3 : wr.heap.size < w2.heap.size := by omega
        have hne3 : ¬ wr.heap.size = w2.heap.size := by omega
        have hne3' : ¬ w2.heap.size = wr.heap.size := by omega
        go_region_with (first | (go_at_call 99; go_must (refine (cur_among HS.out (G.out _ (grownBy_trans HG2.out gd)) hp ((HC2.out.up bd).up ((Below.refl _ _).alloc (Nat.le_refl _) _)) (by omega) rfl hlit (by decide) (by decide) (fun b o e => by injection e with e; injection e with e; rw [← e]; show w2.heap.size ≠ p; omega)).mono ?_); rintro e w3 ⟨dd, hdd, rfl, hc3, hg3⟩; have g3 := grownBy_trans gd hg3; have K3 := K2.grown g3 (fun e => by injection e with e; omega); have k1e := K3.cell 1; have f1e := K3.frozen 1; simp only [List.getElem?_cons_zero, List.getElem?_cons_succ] at k1e; have bdd : -80 ≤ dd ∧ dd ≤ 80 := (by simp only [List.mem_cons, List.not_mem_nil, or_false] at hdd; omega); have gw : IntKind.i64.wrap (xa + dd) = xa + dd := wrap_id (by omega)) | (go_at_call 198; refine (spec_l1MostS _ _ _).mono ?_; rintro e w' ⟨rfl, rfl⟩))
        all_goals
          have g3' := grownBy_trans HG2.out g3
          have hyb : 0 ≤ max 0 (xa + dd) ∧ max 0 (xa + dd) ≤ 100000100 := by omega
          obtain ⟨ya, hya⟩ : ∃ ya, ya = max 0 (xa + dd) := ⟨_, rfl⟩
          rw [← hya] at hyb ⊢
          clear hya
          have qs := only_set w3 (p := ⟨wr.heap.size, 1, none⟩) (.int .i64 ya)
          have K4 := K3.set_ 1 (.int .i64 ya)
          have HC4 := Lib.hid (hc3.grown qs (fun e => by injection e with e; dsimp only at e; omega))
          have HG4 := Lib.hid (grow_own g3' qs (fun k e => by injection e with e; dsimp only at e; omega))
          have HI4 := Lib.hid ((HI2.out.past g3 hpw).kept qs (fun kk hkk e => by have := RI.out kk hkk; injection e with e; dsimp only at e; omega))
          have HO4 := Lib.hid ((HO2.out.past g3 hpw).kept qs (fun kk hkk e => by have := RO.out kk hkk; injection e with e; dsimp only at e; omega))
          clear K2 K3 kla k1d k1e f1e k0 k1 f1 hdd gw hc3 hg3 g3 g3' gd bd hlit HI2 HO2 HC2 HG2 qs hlt2
          obtain ⟨w4, hw4⟩ : ∃ u, u = w3.setCell ⟨wr.heap.size, 1, none⟩ (.int .i64 ya) := ⟨_, rfl⟩
          rw [← hw4] at K4 HC4 HG4 HI4 HO4 ⊢
          clear hw4
          have k0 := K4.cell 0; have k1 := K4.cell 1
          simp only [List.getElem?_cons_zero, List.getElem?_cons_succ, List.set_cons_zero, List.set_cons_succ] at k0 k1
          have hcp := HO4.out.cap
          have a4 : Below w4.heap.size w4 (w4.alloc (.cells #[.int .i64 xb, .int .i64 ya] 140)) := by (repeat' (first | (with_reducible exact Below.refl _ _) | (with_reducible assumption) | (with_reducible refine below_drewN ?_ _) | (with_reducible refine Below.drew ?_) | (with_reducible refine below_alloc ?_ _) | (with_reducible refine Below.alloc ?_ ?_ _) | (with_reducible refine Below.setCell ?_ ?_ _) | (with_reducible refine below_go ?_ (by with_reducible assumption)) | (with_reducible refine below_then (by with_reducible assumption) ?_ ?_) | go_size))
          have s4 := HG4.out.size
          have z4 := K4.lt
          go_wp2_with fail
          refine (spec_l21Merge (m := 1) (d := 1) (l2 := [(xb, ya)]) HO4.out.len (HO4.out.recs.up a4) rfl (lit_strike w4 xb ya) (by omega) hcp.1 (Nat.le_refl _) hcp.2 (by decide)).mono ?_; rintro e w5 ⟨A5, c5, rfl, ho5, hb5⟩
          have hb5' := below_go a4 hb5
          have HO5 := Lib.hid (ho5.base_le (show w.heap.size ≤ _ by simp; omega))
          have HI5 := Lib.hid (HI4.out.up hb5')
          have HC5 := Lib.hid (HC4.out.up hb5')
          have HG5 := Lib.hid (grownBy_trans HG4.out (grown_any hb5' (some p)))
          have K5 := K4.up hb5'
          have HZ5 : stkL (List.merge L [(xb, ya)] leT) := mg_mem (a := L) (b := [(xb, ya)]) HZ (fun s hs => by rw [List.mem_singleton.1 hs]; exact ⟨hxz.1, by dsimp only; omega⟩)
          obtain ⟨L5, hL5⟩ : ∃ L5, L5 = List.merge L [(xb, ya)] leT := ⟨_, rfl⟩
          rw [← hL5] at HO5 HZ5
          clear hL5 ho5 hb5 hb5' HI4 HC4 HG4 HO4 K4 k0 k1 hcp a4
          go_wp2_with fail
          refine (cur_one HS.out (G.out _ HG5.out) hp HC5.out (by omega) (by decide) (by decide)).mono ?_; rintro e w6 ⟨b2, rfl, hc6, hg6⟩
          have K6 := K5.grown hg6 (fun e => by injection e with e; omega)
          have HI6 := Lib.hid (HI5.out.past hg6 hpw)
          have HO6 := Lib.hid (HO5.out.past hg6 hpw)
          have HC6 := Lib.hid hc6
          have HG6 := Lib.hid (grownBy_trans HG5.out hg6)
          clear HI5 HO5 HC5 HG5 K5 hc6 hg6
          rcases b2
          · go_wp2
            go_roundw
            case rel => exact ⟨k + 1, m' + 1, A5, c5, L5, by omega, by go_num, rfl, by omega, HZ5, HI6, HO6, Lib.hid (HC6.out.mono (by omega)), HG6⟩
            case measure => simp [intOf]; omega
          · have k0 := K6.cell 0; have k1 := K6.cell 1
            simp only [List.getElem?_cons_zero, List.getElem?_cons_succ, List.set_cons_zero, List.set_cons_succ] at k0 k1
            have hcp := HO6.out.cap
            have a6 : Below w6.heap.size w6 (w6.alloc (.cells #[.int .i64 xb, .int .i64 (ya + 60)] 140)) := by (repeat' (first | (with_reducible exact Below.refl _ _) | (with_reducible assumption) | (with_reducible refine below_drewN ?_ _) | (with_reducible refine Below.drew ?_) | (with_reducible refine below_alloc ?_ _) | (with_reducible refine Below.alloc ?_ ?_ _) | (with_reducible refine Below.setCell ?_ ?_ _) | (with_reducible refine below_go ?_ (by with_reducible assumption)) | (with_reducible refine below_then (by with_reducible assumption) ?_ ?_) | go_size))
            have s6 := HG6.out.size
            go_wp2_with fail
            refine (spec_l21Merge (m := 1) (d := 1) (l2 := [(xb, ya + 60)]) HO6.out.len (HO6.out.recs.up a6) rfl (lit_strike w6 xb (ya + 60)) (by omega) hcp.1 (Nat.le_refl _) hcp.2 (by decide)).mono ?_; rintro e w7 ⟨A7, c7, rfl, ho7, hb7⟩
            have hb7' := below_go a6 hb7
            have HO7 := Lib.hid (ho7.base_le (show w.heap.size ≤ _ by simp; omega))
            have HI7 := Lib.hid (HI6.out.up hb7')
            have HC7 := Lib.hid (HC6.out.up hb7')
            have HG7 := Lib.hid (grownBy_trans HG6.out (grown_any hb7' (some p)))
            have HZ7 : stkL (List.merge L5 [(xb, ya + 60)] leT) := mg_mem (a := L5) (b := [(xb, ya + 60)]) HZ5 (fun s hs => by rw [List.mem_singleton.1 hs]; exact ⟨hxz.1, by dsimp only; omega⟩)
            clear ho7 hb7 hb7' HI6 HC6 HG6 HO6 K6 k0 k1 hcp a6
            go_wp2
            go_roundw
            case rel => exact ⟨k + 1, m' + 1 + 1, A7, c7, _, by omega, by go_num, rfl, by omega, HZ7, HI7, HO7, Lib.hid (HC7.out.mono (by omega)), HG7⟩
            case measure => simp [intOf]; omega
      · go_wp2
        go_roundw
        case rel => exact ⟨k + 1, m', A2, c2, L, by omega, by go_num, rfl, by omega, HZ, HI2, HO2, Lib.hid (HC2.out.mono (by omega)), HG2⟩
        case measure => simp [intOf]; omega
    · have hI : ¬ (k : Int) < (MI : Int) := by omega
      go_wp2
      go_ret
      exact ⟨_, _, _, rfl, by omega, L, HZ, HO.out, HC.out.mono (by omega), HG.out⟩
set_option maxHeartbeats 1000000 in
set_option maxRecDepth 100000 in
theorem cur_anyStruck {A : Option Addr} {n c a p : Nat} {w0 w : World} (hS : Src w0 A n) (hb : Below w0.heap.size w0 w) (hp : w0.heap.size ≤ p) (hc : Cur w p A n c a) (ha : a ≤ 800000) :
    Calls Try.prog 137 #[.pointer (some ⟨p, 0, none⟩)] w fun e w' => ∃ A' m' c' L, e = .returned (.slice A' m' c') ∧ m' ≤ 192 ∧ Owned strikeE 2 140 w' w.heap.size A' m' c' L ∧ Cur w' p A n c (a + 700) ∧ w.grownBy w' (some p) := by
  have hpw := hc.lt
  have G : Hid (∀ u : World, w.grownBy u (some p) → Below w0.heap.size w0 u) := Lib.hid (fun u hg => grown_below hb hp hg)
  have HS := Lib.hid hS
  go_in
  go_wp2_with fail
  refine (cur_rungFew hS hb hp hc (by omega)).mono ?_; rintro e w1 ⟨A1, m1, c1, L1, rfl, hm1, hd1, ho1, hc1, hg1⟩
  have hd := Lib.hid hd1
  have s1 := hg1.size
  clear hd1 hS hb hc
  go_wp2_with fail
  refine (cur_struck (x := 100) (y := 200) (z := 200) HS.out (G.out _ hg1) hp hc1 (by omega) (by omega) (by omega) (by omega) ho1.len ho1.recs hm1 hd.out).mono ?_; rintro e w2 ⟨A2, m2, c2, L2, rfl, hm2, HZ2, ho2, hc2, hg2⟩
  have HO2 := Lib.hid (ho2.base_le s1)
  have HC2 := Lib.hid hc2
  have HG2 := Lib.hid (grownBy_trans hg1 hg2)
  have s2 := HG2.out.size
  clear hd HZ2 ho1 ho2 hc1 hc2 hg1 hg2
  by_cases h0 : 0 < m2
  · have hI : (0 : Int) < (m2 : Int) := by omega
    go_wp2_with fail
    refine (cur_pick HS.out (G.out _ HG2.out) hp HC2.out (by omega) (by omega) (by omega)).mono ?_; rintro e w3 ⟨k, rfl, ⟨k0, k1⟩, hc3, hg3⟩
    obtain ⟨K, rfl⟩ := Int.eq_ofNat_of_zero_le k0
    have hK : K < m2 := by omega
    have HO3 := Lib.hid (HO2.out.past hg3 hpw)
    have HG3 := Lib.hid (grownBy_trans HG2.out hg3)
    clear k0 k1 HO2 HG2 HC2 hg3
    go_wp2_with fail
    refine (cur_pick HS.out (G.out _ HG3.out) hp hc3 (by omega) (by decide) (by decide)).mono ?_; rintro e w4 ⟨q, rfl, ⟨q0, q1⟩, hc4, hg4⟩
    obtain ⟨Q, rfl⟩ := Int.eq_ofNat_of_zero_le q0
    have HO4 := Lib.hid (HO3.out.past hg4 hpw)
    have HC4 := Lib.hid hc4
    have HG4 := Lib.hid (grownBy_trans HG3.out hg4)
    clear q0 q1 HO3 HG3 hc3 hc4 hg4
    by_cases Q0 : Q = 0
    · subst Q0
      have hl := lit_ints w4 3 [0, 8, 9]
      have hpl := HC4.out.lt
      go_wp2_with fail
      refine (cur_among HS.out ((G.out _ HG4.out).alloc (G.out _ HG4.out).size _) hp (HC4.out.up ((Below.refl _ _).alloc (Nat.le_refl _) _)) (by omega) rfl hl (by decide) (by decide) (fun b o e => by injection e with e; injection e with e; omega)).mono ?_; rintro e w5 ⟨v, hv, rfl, hc5, hg5⟩
      have g5 := grownBy_trans (World.grownBy_alloc w4 _ (some p)) hg5
      have HO5 := Lib.hid (HO4.out.past g5 hpw)
      obtain ⟨⟨xb, xa⟩, hx⟩ := some_of_lt (l := L2) (k := K) (by rw [HO5.out.len]; exact hK)
      obtain ⟨f, rfl, f0, f1, fc, ff⟩ := HO5.out.at_ (by omega)
      have cf := fc K (xb, xa) 0 _ hx rfl
      have zf := ff (K * 2 + 0)
      have pt := HO5.out.put (k := K) (j := 0) (x := (v, xa)) (u := .int .i64 v) hx (by decide) rfl
      simp only [Nat.add_zero] at cf zf pt
      have HPT := Lib.hid pt
      have hKI : (K : Int) < (m2 : Int) := by omega
      clear fc ff hx pt hl hv
      go_wp2
      go_ret
      exact ⟨_, _, _, _, rfl, hm2, HPT.out.1, (hc5.grown HPT.out.2 (fun e => by injection e with e; omega)).mono (by omega), grow_own (grownBy_trans HG4.out g5) HPT.out.2 (fun k e => by injection e with e; omega)⟩
    · have Q0I : ¬ (Q : Int) = 0 := by omega
      by_cases Q1 : Q = 1
      · subst Q1
        have hl := lit_ints w4 3 [-1, 0, 1000000, 1000001]
        have hpl := HC4.out.lt
        go_wp2_with fail
        refine (cur_among HS.out ((G.out _ HG4.out).alloc (G.out _ HG4.out).size _) hp (HC4.out.up ((Below.refl _ _).alloc (Nat.le_refl _) _)) (by omega) rfl hl (by decide) (by decide) (fun b o e => by injection e with e; injection e with e; omega)).mono ?_; rintro e w5 ⟨v, hv, rfl, hc5, hg5⟩
        have g5 := grownBy_trans (World.grownBy_alloc w4 _ (some p)) hg5
        have HO5 := Lib.hid (HO4.out.past g5 hpw)
        obtain ⟨⟨xb, xa⟩, hx⟩ := some_of_lt (l := L2) (k := K) (by rw [HO5.out.len]; exact hK)
        obtain ⟨f, rfl, f0, f1, fc, ff⟩ := HO5.out.at_ (by omega)
        have cf := fc K (xb, xa) 1 _ hx rfl
        have zf := ff (K * 2 + 1)
        have pt := HO5.out.put (k := K) (j := 1) (x := (xb, v)) (u := .int .i64 v) hx (by decide) rfl
        skip
        have HPT := Lib.hid pt
        have hKI : (K : Int) < (m2 : Int) := by omega
        clear fc ff hx pt hl hv
        go_wp2
        go_ret
        exact ⟨_, _, _, _, rfl, hm2, HPT.out.1, (hc5.grown HPT.out.2 (fun e => by injection e with e; omega)).mono (by omega), grow_own (grownBy_trans HG4.out g5) HPT.out.2 (fun k e => by injection e with e; omega)⟩
      · have Q1I : ¬ (Q : Int) = 1 := by omega
        go_wp2
        go_ret
        exact ⟨_, _, _, L2, rfl, hm2, HO4.out, HC4.out.mono (by omega), HG4.out⟩
  · have hI : ¬ (0 : Int) < (m2 : Int) := by omega
    obtain rfl : m2 = 0 := by omega
    go_wp2
    go_ret
    exact ⟨_, _, _, L2, rfl, by omega, HO2.out, HC2.out.mono (by omega), HG2.out⟩
end Go.Proofs.Ytpccbmndgdiloaa
/- The walks through the checks of lists of times, both sides, and the law on them. -/
namespace Go.Proofs.Ytpccbmndgdiloaa
set_option linter.unusedVariables false
set_option linter.unusedSimpArgs false
open Go.ChangeShapes Go.WideShapes Go.ChangeAt Go.RowKit Go.Deep

set_option maxRecDepth 100000 in
theorem impl_GoodTimes {A : Option Addr} {n c : Nat} {l : List Int} {w : World} (hn : l.length = n) (h : Ints w A l) (hz : n ≤ 16777216) :
    Calls Try.prog 46 #[.slice A n c] w fun e w' => e = .returned (.bool (goodTimes l)) ∧ w = w' := by
  subst hn
  have HG : Hid (goodTimes l = ((List.range l.length).all (okTime l) && decide (l.length ≤ 60))) := rfl
  go_in
  go_wp2
  go_loop [7] (fun i => ∃ k : Nat, k ≤ l.length ∧ i = .int .i64 k ∧ Hid (∀ j, j < k → okTime l j = true)) (fun i => l.length - (intOf i).toNat)
  case atStart => exact ⟨0, Nat.zero_le _, rfl, Lib.hid (fun j hj => absurd hj (by omega))⟩
  case round =>
    obtain ⟨k, hk, rfl, HK⟩ := hrel
    by_cases hlt : k < l.length
    · obtain ⟨b1, o1, x, rfl, hbb, hx, hc⟩ := h.at_int hlt
      have HX := Lib.hid hx
      clear hx
      by_cases hk0 : 0 < k
      · obtain ⟨b2, o2, y, e, _, hy, hc2⟩ := h.at_int (k := k - 1) (by omega)
        injection e with e
        injection e with e1 e2
        subst e1 e2
        have HY := Lib.hid hy
        clear hy h
        have E : Hid _ := Lib.hid (okTime_pos hk0 HX.out HY.out)
        rcases hx : inB x 0 1000000
        · go_wp2_with (go_at_call 100; refine (impl_within _ _ _ _).mono ?_; rintro e w' ⟨rfl, rfl⟩)
          go_ret
          refine ⟨ret_bool ?_, rfl⟩
          rw [HG.out, all_bad hlt (by rw [E.out, hx]; rfl)]
        · by_cases hxy : x < y
          · go_wp2_with (go_at_call 100; refine (impl_within _ _ _ _).mono ?_; rintro e w' ⟨rfl, rfl⟩)
            go_ret
            refine ⟨ret_bool ?_, rfl⟩
            rw [HG.out, all_bad hlt (by rw [E.out, hx]; simp [hxy])]
          · go_wp2_with (go_at_call 100; refine (impl_within _ _ _ _).mono ?_; rintro e w' ⟨rfl, rfl⟩)
            go_round
            case rel => exact ⟨k + 1, by omega, by go_num, Lib.hid (upto_succ HK.out (by rw [E.out, hx]; simp; omega))⟩
            case measure => simp [intOf]; omega
      · have E : Hid _ := Lib.hid (okTime_zero hk0 HX.out)
        rcases hx : inB x 0 1000000
        · go_wp2_with (go_at_call 100; refine (impl_within _ _ _ _).mono ?_; rintro e w' ⟨rfl, rfl⟩)
          go_ret
          refine ⟨ret_bool ?_, rfl⟩
          rw [HG.out, all_bad hlt (by rw [E.out, hx])]
        · go_wp2_with (go_at_call 100; refine (impl_within _ _ _ _).mono ?_; rintro e w' ⟨rfl, rfl⟩)
          go_round
          case rel => exact ⟨k + 1, by omega, by go_num, Lib.hid (upto_succ HK.out (by rw [E.out, hx]))⟩
          case measure => simp [intOf]; omega
    · go_wp2
      go_ret
      refine ⟨ret_bool ?_, rfl⟩
      rw [HG.out, all_good (fun j hj => HK.out j (by omega))]
      exact decide_eq_decide.2 (by omega)

set_option maxRecDepth 100000 in
theorem spec_l22Times {A : Option Addr} {n c : Nat} {l : List Int} {w : World} (hn : l.length = n) (h : Ints w A l) (hz : n ≤ 16777216) :
    Calls Try.prog 133 #[.slice A n c] w fun e w' => e = .returned (.bool (goodTimes l)) ∧ w = w' := by
  subst hn
  have HG : Hid (goodTimes l = ((List.range l.length).all (okTime l) && decide (l.length ≤ 60))) := rfl
  go_in
  go_wp2
  go_loop [7] (fun i => ∃ k : Nat, k ≤ l.length ∧ i = .int .i64 k ∧ Hid (∀ j, j < k → okTime l j = true)) (fun i => l.length - (intOf i).toNat)
  case atStart => exact ⟨0, Nat.zero_le _, rfl, Lib.hid (fun j hj => absurd hj (by omega))⟩
  case round =>
    obtain ⟨k, hk, rfl, HK⟩ := hrel
    by_cases hlt : k < l.length
    · obtain ⟨b1, o1, x, rfl, hbb, hx, hc⟩ := h.at_int hlt
      have HX := Lib.hid hx
      clear hx
      by_cases hk0 : 0 < k
      · obtain ⟨b2, o2, y, e, _, hy, hc2⟩ := h.at_int (k := k - 1) (by omega)
        injection e with e
        injection e with e1 e2
        subst e1 e2
        have HY := Lib.hid hy
        clear hy h
        have E : Hid _ := Lib.hid (okTime_pos hk0 HX.out HY.out)
        rcases hx : inB x 0 1000000
        · go_wp2_with (go_at_call 104; refine (spec_l1In _ _ _ _).mono ?_; rintro e w' ⟨rfl, rfl⟩)
          go_ret
          refine ⟨ret_bool ?_, rfl⟩
          rw [HG.out, all_bad hlt (by rw [E.out, hx]; rfl)]
        · by_cases hxy : x < y
          · go_wp2_with (go_at_call 104; refine (spec_l1In _ _ _ _).mono ?_; rintro e w' ⟨rfl, rfl⟩)
            go_ret
            refine ⟨ret_bool ?_, rfl⟩
            rw [HG.out, all_bad hlt (by rw [E.out, hx]; simp [hxy])]
          · go_wp2_with (go_at_call 104; refine (spec_l1In _ _ _ _).mono ?_; rintro e w' ⟨rfl, rfl⟩)
            go_round
            case rel => exact ⟨k + 1, by omega, by go_num, Lib.hid (upto_succ HK.out (by rw [E.out, hx]; simp; omega))⟩
            case measure => simp [intOf]; omega
      · have E : Hid _ := Lib.hid (okTime_zero hk0 HX.out)
        rcases hx : inB x 0 1000000
        · go_wp2_with (go_at_call 104; refine (spec_l1In _ _ _ _).mono ?_; rintro e w' ⟨rfl, rfl⟩)
          go_ret
          refine ⟨ret_bool ?_, rfl⟩
          rw [HG.out, all_bad hlt (by rw [E.out, hx])]
        · go_wp2_with (go_at_call 104; refine (spec_l1In _ _ _ _).mono ?_; rintro e w' ⟨rfl, rfl⟩)
          go_round
          case rel => exact ⟨k + 1, by omega, by go_num, Lib.hid (upto_succ HK.out (by rw [E.out, hx]))⟩
          case measure => simp [intOf]; omega
    · go_wp2
      go_ret
      refine ⟨ret_bool ?_, rfl⟩
      rw [HG.out, all_good (fun j hj => HK.out j (by omega))]
      exact decide_eq_decide.2 (by omega)

theorem spec_GoodTimes {A : Option Addr} {n c : Nat} {l : List Int} {w : World} (hn : l.length = n) (h : Ints w A l) (hz : n ≤ 16777216) :
    Calls Try.prog 47 #[.slice A n c] w fun e w' => e = .returned (.bool (goodTimes l)) ∧ w = w' := by
  subst hn
  go_in
  go_wp2_with (go_at_call 133; refine (spec_l22Times rfl h hz).mono ?_; rintro e w' ⟨rfl, rfl⟩)
  go_ret
  exact ⟨rfl, rfl⟩

end Go.Proofs.Ytpccbmndgdiloaa
/- What the checks of values and weights and their weighted distance compute, as plain functions on lists. -/
namespace Go.Proofs.Ytpccbmndgdiloaa
set_option linter.unusedVariables false
set_option linter.unusedSimpArgs false

def absZ (x : Int) : Int := if x < 0 then -x else x
theorem absZ_neg {x : Int} (h : x < 0) : absZ x = -x := by rw [absZ, if_pos h]
theorem absZ_pos {x : Int} (h : 0 ≤ x) : absZ x = x := by rw [absZ, if_neg (by omega)]
theorem absZ_bd (x : Int) : 0 ≤ absZ x ∧ x ≤ absZ x ∧ -x ≤ absZ x ∧ (absZ x = x ∨ absZ x = -x) := by unfold absZ; split <;> omega
theorem absZ_sub (x y : Int) : absZ (x - y) = absZ (y - x) := by unfold absZ; split <;> split <;> omega

def allIn (l : List Int) (a b : Int) : Bool := l.all fun x => inB x a b
theorem allIn_bad {l : List Int} {a b : Int} {k : Nat} {x : Int} (h : l[k]? = some x) (hx : inB x a b = false) : allIn l a b = false := by
  rw [Bool.eq_false_iff]
  intro ha
  rw [allIn, List.all_eq_true] at ha
  rw [ha x (List.mem_of_getElem? h)] at hx
  cases hx
theorem allIn_good {l : List Int} {a b : Int} (h : ∀ j, j < l.length → ∃ x, l[j]? = some x ∧ inB x a b = true) : allIn l a b = true := by
  rw [allIn, List.all_eq_true]
  intro x hx
  obtain ⟨j, hj, e⟩ := List.getElem_of_mem hx
  obtain ⟨y, hy, hb⟩ := h j hj
  rw [List.getElem?_eq_getElem hj, e] at hy
  injection hy with hy
  rw [hy]; exact hb
theorem allIn_t {l : List Int} {a b : Int} (h : allIn l a b = true) {k : Nat} {x : Int} (hx : l[k]? = some x) : a ≤ x ∧ x ≤ b := by
  rw [allIn, List.all_eq_true] at h
  exact inB_t (h x (List.mem_of_getElem? hx))

def askedB (vs ws : List Int) : Bool := decide (vs.length ≤ 400) && allIn vs (-10000000) 10000000 && decide (0 < vs.length) && decide (ws.length = vs.length) && allIn ws 1 100
theorem askedB_t {vs ws : List Int} (h : askedB vs ws = true) : vs.length ≤ 400 ∧ allIn vs (-10000000) 10000000 = true ∧ 0 < vs.length ∧ ws.length = vs.length ∧ allIn ws 1 100 = true := by
  simp only [askedB, Bool.and_eq_true, decide_eq_true_eq] at h
  exact ⟨h.1.1.1.1, h.1.1.1.2, h.1.1.2, h.1.2, h.2⟩
def farAt (vs ws : List Int) (x : Int) (i : Nat) : Int := absZ (vs.getD i 0 - x) * ws.getD i 0
def farV (vs ws : List Int) (x : Int) : Int := if (askedB vs ws && inB x (-10000000) 10000000) = true then sumTo (farAt vs ws x) vs.length else 0
theorem farV_t {vs ws : List Int} {x : Int} (h : (askedB vs ws && inB x (-10000000) 10000000) = true) : farV vs ws x = sumTo (farAt vs ws x) vs.length := by rw [farV, if_pos h]
theorem farV_f {vs ws : List Int} {x : Int} (h : (askedB vs ws && inB x (-10000000) 10000000) = false) : farV vs ws x = 0 := by rw [farV, if_neg (by rw [h]; simp)]
theorem farAt_eq {vs ws : List Int} {x v u : Int} {i : Nat} (hv : vs[i]? = some v) (hu : ws[i]? = some u) : farAt vs ws x i = absZ (v - x) * u := by
  simp [farAt, List.getD, hv, hu]
theorem farAt_bd {vs ws : List Int} {x : Int} (hv : allIn vs (-10000000) 10000000 = true) (hw : allIn ws 1 100 = true) (hl : ws.length = vs.length) (hx : -10000000 ≤ x ∧ x ≤ 10000000) {i : Nat} (hi : i < vs.length) :
    0 ≤ farAt vs ws x i ∧ farAt vs ws x i ≤ 2000000000 := by
  have h1 : vs[i]? = some vs[i] := List.getElem?_eq_getElem hi
  have h2 : ws[i]? = some (ws[i]'(by omega)) := List.getElem?_eq_getElem (by omega)
  rw [farAt_eq h1 h2]
  have b1 := allIn_t hv h1
  have b2 := allIn_t hw h2
  have b3 := absZ_bd (vs[i] - x)
  refine ⟨Int.mul_nonneg (by omega) (by omega), ?_⟩
  exact Int.le_trans (Int.mul_le_mul (show absZ (vs[i] - x) ≤ 20000000 by omega) b2.2 (by omega) (by omega)) (by decide)
theorem far_bd {vs ws : List Int} {x : Int} (hv : allIn vs (-10000000) 10000000 = true) (hw : allIn ws 1 100 = true) (hl : ws.length = vs.length) (hx : -10000000 ≤ x ∧ x ≤ 10000000) (hn : vs.length ≤ 400) {k : Nat} (hk : k ≤ vs.length) :
    0 ≤ sumTo (farAt vs ws x) k ∧ sumTo (farAt vs ws x) k ≤ 800000000000 := by
  have h := sumTo_bd (f := farAt vs ws x) (B := 2000000000) (k := k) (fun j hj => farAt_bd hv hw hl hx (by omega))
  omega
end Go.Proofs.Ytpccbmndgdiloaa
/- The walks through the weighted distance, both sides, and the law on it. -/
namespace Go.Proofs.Ytpccbmndgdiloaa
set_option linter.unusedVariables false
set_option linter.unusedSimpArgs false
open Go.ChangeShapes Go.WideShapes Go.ChangeAt Go.RowKit Go.Deep

theorem impl_abs (x : Int) (w : World) (h : -9223372036854775807 ≤ x ∧ x ≤ 9223372036854775807) :
    Calls Try.prog 192 #[.int .i64 x] w fun e w' => e = .returned (.int .i64 (absZ x)) ∧ w = w' := by
  by_cases hx : x < 0
  · have E := Lib.hid (absZ_neg hx)
    go_in
    go_wp2
    go_ret
    exact ⟨ret_int (by have := E.out; omega), rfl⟩
  · have E := Lib.hid (absZ_pos (x := x) (by omega))
    go_in
    go_wp2
    go_ret
    exact ⟨ret_int (by have := E.out; omega), rfl⟩
theorem spec_l1Most (x y : Int) (w : World) :
    Calls Try.prog 198 #[.int .i64 x, .int .i64 y] w fun e w' => e = .returned (.int .i64 (max x y)) ∧ w = w' := by
  go_in
  go_wp2
  all_goals go_ret
  all_goals exact ⟨ret_int (by omega), rfl⟩
theorem spec_l22Far (x y : Int) (w : World) (h : -9223372036854775807 ≤ x - y ∧ x - y ≤ 9223372036854775807) :
    Calls Try.prog 194 #[.int .i64 x, .int .i64 y] w fun e w' => e = .returned (.int .i64 (absZ (x - y))) ∧ w = w' := by
  have E : Hid (max (x - y) (y - x) = absZ (x - y)) := by
    have hb := absZ_bd (x - y)
    show _ = _
    omega
  go_in
  go_wp2_with (go_at_call 198; refine (spec_l1Most _ _ _).mono ?_; rintro e w' ⟨rfl, rfl⟩)
  go_ret
  exact ⟨by rw [← E.out]; rfl, rfl⟩
set_option maxRecDepth 100000 in
theorem spec_l1All (A : Option Addr) (c : Nat) (l : List Int) (a b : Int) (w : World) (h : Ints w A l) (hz : l.length ≤ 9223372036854775807) :
    Calls Try.prog 196 #[.slice A l.length c, .int .i64 a, .int .i64 b] w fun e w' => e = .returned (.bool (allIn l a b)) ∧ w = w' := by
  go_in
  go_wp2
  go_loop [11] (fun i => ∃ k : Nat, k ≤ l.length ∧ i = .int .i64 k ∧ Hid (∀ j, j < k → ∃ x, l[j]? = some x ∧ inB x a b = true)) (fun i => l.length - (intOf i).toNat)
  case atStart => exact ⟨0, Nat.zero_le _, rfl, Lib.hid (fun j hj => absurd hj (by omega))⟩
  case round =>
    obtain ⟨k, hk, rfl, HK⟩ := hrel
    by_cases hlt : k < l.length
    · obtain ⟨b1, o1, x, rfl, hbb, hx, hc⟩ := h.at_int hlt
      have HX := Lib.hid hx
      clear hx h
      rcases hx : inB x a b
      · go_wp2_with (go_at_call 104; refine (spec_l1In _ _ _ _).mono ?_; rintro e w' ⟨rfl, rfl⟩)
        go_ret
        exact ⟨ret_bool (allIn_bad HX.out hx).symm, rfl⟩
      · go_wp2_with (go_at_call 104; refine (spec_l1In _ _ _ _).mono ?_; rintro e w' ⟨rfl, rfl⟩)
        go_round
        case rel => exact ⟨k + 1, by omega, by go_num, Lib.hid (upto_succ HK.out ⟨x, HX.out, hx⟩)⟩
        case measure => simp [intOf]; omega
    · go_wp2
      go_ret
      exact ⟨ret_bool (allIn_good (fun j hj => HK.out j (by omega))).symm, rfl⟩
end Go.Proofs.Ytpccbmndgdiloaa
/- What the matching of times computes, as plain functions on lists. -/
namespace Go.Proofs.Ytpccbmndgdiloaa
set_option linter.unusedVariables false
set_option linter.unusedSimpArgs false

/-! which are missed, which are extra -/
def ofOk (l : List Int) (hi : Int) : Bool := decide (l.length ≤ 60) && allIn l (-1) hi
theorem ofOk_len {l : List Int} {hi : Int} (h : ofOk l hi = true) : l.length ≤ 60 := by
  simp only [ofOk, Bool.and_eq_true, decide_eq_true_eq] at h; exact h.1
def isMiss (l : List Int) (k : Nat) : Bool := l.getD k 0 == -1
theorem isMiss_eq {l : List Int} {k : Nat} {x : Int} (h : l[k]? = some x) : isMiss l k = (x == -1) := by simp [isMiss, List.getD, h]
def missR (l : List Int) : List Int := if ofOk l 60 = true then pick (isMiss l) l.length else []
theorem missR_t {l : List Int} (h : ofOk l 60 = true) : missR l = pick (isMiss l) l.length := by rw [missR, if_pos h]
theorem missR_f {l : List Int} (h : ofOk l 60 = false) : missR l = [] := by rw [missR, if_neg (by rw [h]; simp)]
def extraOk (n : Int) (l : List Int) : Bool := inB n 0 60 && ofOk l (n - 1)
def notIn (l : List Int) (k : Nat) : Bool := !(l.any fun x => x == (k : Int))
def extraR (n : Int) (l : List Int) : List Int := if extraOk n l = true then pick (notIn l) n.toNat else []
theorem extraR_t {n : Int} {l : List Int} (h : extraOk n l = true) : extraR n l = pick (notIn l) n.toNat := by rw [extraR, if_pos h]
theorem extraR_f {n : Int} {l : List Int} (h : extraOk n l = false) : extraR n l = [] := by rw [extraR, if_neg (by rw [h]; simp)]

/-! alignments and their cost -/
def wayGo (m : Int) : Int → List Int → Bool
  | _, [] => true
  | last, k :: r => if k = -1 then wayGo m last r else if k ≤ last ∨ m ≤ k then false else wayGo m k r
theorem wayGo_nil (m last : Int) : wayGo m last [] = true := rfl
theorem wayGo_skip {m last k : Int} {r : List Int} (h : k = -1) : wayGo m last (k :: r) = wayGo m last r := by rw [wayGo, if_pos h]
theorem wayGo_bad {m last k : Int} {r : List Int} (h : k ≠ -1) (h2 : k ≤ last ∨ m ≤ k) : wayGo m last (k :: r) = false := by rw [wayGo, if_neg h, if_pos h2]
theorem wayGo_go {m last k : Int} {r : List Int} (h : k ≠ -1) (h2 : ¬ (k ≤ last ∨ m ≤ k)) : wayGo m last (k :: r) = wayGo m k r := by rw [wayGo, if_neg h, if_neg h2]
def wayB (n m : Nat) (of : List Int) : Bool := wayGo m (-1) of && decide (of.length = n)
theorem wayGo_t : ∀ {of : List Int} {m last : Int}, -1 ≤ last → wayGo m last of = true → ∀ x ∈ of, x = -1 ∨ (0 ≤ x ∧ x < m)
  | [], _, _, _, _ => fun x hx => by cases hx
  | k :: r, m, last, hl, h => fun x hx => by
    by_cases h1 : k = -1
    · rw [wayGo_skip h1] at h
      rcases List.mem_cons.1 hx with rfl | hx
      · exact .inl h1
      · exact wayGo_t hl h x hx
    · by_cases h2 : k ≤ last ∨ m ≤ k
      · rw [wayGo_bad h1 h2] at h; cases h
      · rw [wayGo_go h1 h2] at h
        rcases List.mem_cons.1 hx with rfl | hx
        · exact .inr (by omega)
        · exact wayGo_t (by omega) h x hx
theorem wayB_t {n m : Nat} {of : List Int} (h : wayB n m of = true) : of.length = n ∧ ∀ x ∈ of, x = -1 ∨ (0 ≤ x ∧ x < m) := by
  simp only [wayB, Bool.and_eq_true, decide_eq_true_eq] at h
  exact ⟨h.2, wayGo_t (by omega) h.1⟩
theorem drop_some {α : Type} {l : List α} {k : Nat} {x : α} (h : l[k]? = some x) : l.drop k = x :: l.drop (k + 1) := by
  have hk := (List.getElem?_eq_some_iff.1 h)
  rw [List.drop_eq_getElem_cons hk.1, hk.2]
def costAt (ideal struck of : List Int) (skip : Int) (i : Nat) : Int := if of.getD i 0 < 0 then skip else absZ (ideal.getD i 0 - struck.getD (of.getD i 0).toNat 0)
def hitAt (of : List Int) (i : Nat) : Int := if of.getD i 0 < 0 then 0 else 1
theorem costAt_neg {ideal struck of : List Int} {skip k : Int} {i : Nat} (h : of[i]? = some k) (hk : k < 0) : costAt ideal struck of skip i = skip ∧ hitAt of i = 0 := by
  simp [costAt, hitAt, List.getD, h, hk]
theorem costAt_pos {ideal struck of : List Int} {skip k x y : Int} {i : Nat} (h : of[i]? = some k) (hk : ¬ k < 0) (hx : ideal[i]? = some x) (hy : struck[k.toNat]? = some y) : costAt ideal struck of skip i = absZ (x - y) ∧ hitAt of i = 1 := by
  simp [costAt, hitAt, List.getD, h, hk, hx, hy]
def costZ (ideal struck of : List Int) (skip : Int) : Int := sumTo (costAt ideal struck of skip) of.length + ((struck.length : Int) - sumTo (hitAt of) of.length) * skip
def askedM (ideal struck : List Int) (skip : Int) : Bool := goodTimes ideal && goodTimes struck && inB skip 0 10000
def costOk (ideal struck of : List Int) (skip : Int) : Bool := askedM ideal struck skip && wayB ideal.length struck.length of
def costV (ideal struck of : List Int) (skip : Int) : Int := if costOk ideal struck of skip = true then costZ ideal struck of skip else 0
theorem costV_t {a b c : List Int} {s : Int} (h : costOk a b c s = true) : costV a b c s = costZ a b c s := by rw [costV, if_pos h]
theorem costV_f {a b c : List Int} {s : Int} (h : costOk a b c s = false) : costV a b c s = 0 := by rw [costV, if_neg (by rw [h]; simp)]
theorem goodTimes_t {l : List Int} (h : goodTimes l = true) : l.length ≤ 60 ∧ ∀ x ∈ l, 0 ≤ x ∧ x ≤ 1000000 := by
  simp only [goodTimes, Bool.and_eq_true, decide_eq_true_eq, List.all_eq_true, List.mem_range] at h
  refine ⟨h.2, fun x hx => ?_⟩
  obtain ⟨j, hj, e⟩ := List.getElem_of_mem hx
  have h1 := h.1 j hj
  simp only [okTime, Bool.and_eq_true] at h1
  have e1 : l.getD j 0 = x := by rw [List.getD_eq_getElem?_getD, List.getElem?_eq_getElem hj, e]; rfl
  rw [e1] at h1
  exact inB_t h1.1
theorem askedM_t {a b : List Int} {s : Int} (h : askedM a b s = true) : (a.length ≤ 60 ∧ ∀ x ∈ a, 0 ≤ x ∧ x ≤ 1000000) ∧ (b.length ≤ 60 ∧ ∀ x ∈ b, 0 ≤ x ∧ x ≤ 1000000) ∧ 0 ≤ s ∧ s ≤ 10000 := by
  simp only [askedM, Bool.and_eq_true] at h
  exact ⟨goodTimes_t h.1.1, goodTimes_t h.1.2, inB_t h.2⟩
theorem hit_bd (of : List Int) (k : Nat) : 0 ≤ sumTo (hitAt of) k ∧ sumTo (hitAt of) k ≤ k := by
  have h := sumTo_bd (f := hitAt of) (B := 1) (k := k) (fun j _ => by unfold hitAt; split <;> omega)
  omega
theorem cost_step_bd {ideal struck of : List Int} {skip : Int} (ha : askedM ideal struck skip = true) (hw : wayB ideal.length struck.length of = true) {i : Nat} (hi : i < of.length) :
    0 ≤ costAt ideal struck of skip i ∧ costAt ideal struck of skip i ≤ 1000000 := by
  obtain ⟨⟨a1, a2⟩, ⟨b1, b2⟩, s1, s2⟩ := askedM_t ha
  obtain ⟨w1, w2⟩ := wayB_t hw
  have hk : of[i]? = some of[i] := List.getElem?_eq_getElem hi
  by_cases h0 : of[i] < 0
  · rw [(costAt_neg hk h0).1]; omega
  · have hm := w2 of[i] (List.getElem_mem hi)
    have hx : ideal[i]? = some (ideal[i]'(by omega)) := List.getElem?_eq_getElem (by omega)
    have hy : struck[(of[i]).toNat]? = some (struck[(of[i]).toNat]'(by omega)) := List.getElem?_eq_getElem (by omega)
    rw [(costAt_pos hk h0 hx hy).1]
    have e1 := a2 _ (List.mem_of_getElem? hx)
    have e2 := b2 _ (List.mem_of_getElem? hy)
    have e3 := absZ_bd (ideal[i]'(by omega) - struck[(of[i]).toNat]'(by omega))
    omega
theorem cost_bd {ideal struck of : List Int} {skip : Int} (ha : askedM ideal struck skip = true) (hw : wayB ideal.length struck.length of = true) {k : Nat} (hk : k ≤ of.length) :
    0 ≤ sumTo (costAt ideal struck of skip) k ∧ sumTo (costAt ideal struck of skip) k ≤ 60000000 := by
  have h := sumTo_bd (f := costAt ideal struck of skip) (B := 1000000) (k := k) (fun j hj => cost_step_bd ha hw (by omega))
  have := (askedM_t ha).1.1
  have := (wayB_t hw).1
  omega
theorem spec_cost (ideal struck of : List Int) (skip : Int) : ∀ k, skip * (struck.length : Int) + sumTo (fun i => costAt ideal struck of skip i - hitAt of i * skip) k = sumTo (costAt ideal struck of skip) k + ((struck.length : Int) - sumTo (hitAt of) k) * skip
  | 0 => by simp [sumTo, Int.mul_comm]
  | k + 1 => by
    have h := spec_cost ideal struck of skip k
    simp only [sumTo]
    rw [Int.sub_mul] at h ⊢
    rw [Int.add_mul]
    omega
end Go.Proofs.Ytpccbmndgdiloaa
/- The walks through alignments and their cost, both sides. -/
namespace Go.Proofs.Ytpccbmndgdiloaa
set_option linter.unusedVariables false
set_option linter.unusedSimpArgs false
open Go.ChangeShapes Go.WideShapes Go.ChangeAt Go.RowKit Go.Deep

theorem impl_goodMatching {A B : Option Addr} {n m c d : Nat} {l k : List Int} {s : Int} {w : World} (hn : l.length = n) (hm : k.length = m) (h : Ints w A l) (g : Ints w B k) (hz : n ≤ 16777216) (hz' : m ≤ 16777216) :
    Calls Try.prog 129 #[.slice A n c, .slice B m d, .int .i64 s] w fun e w' => e = .returned (.bool (askedM l k s)) ∧ w = w' := by
  have E : Hid (askedM l k s = (goodTimes l && goodTimes k && inB s 0 10000)) := rfl
  rcases h1 : goodTimes l
  · go_in
    go_wp2_with fail
    refine (impl_GoodTimes hn h hz).mono ?_; rintro e w' ⟨rfl, rfl⟩
    rw [h1]
    go_wp2
    go_ret
    exact ⟨ret_bool (by rw [E.out, h1]; rfl), rfl⟩
  rcases h2 : goodTimes k
  · go_in
    go_wp2_with fail
    refine (impl_GoodTimes hn h hz).mono ?_; rintro e w' ⟨rfl, rfl⟩
    rw [h1]
    go_wp2_with fail
    refine (impl_GoodTimes hm g hz').mono ?_; rintro e w' ⟨rfl, rfl⟩
    rw [h2]
    go_wp2
    go_ret
    exact ⟨ret_bool (by rw [E.out, h1, h2]; rfl), rfl⟩
  · go_in
    go_wp2_with fail
    refine (impl_GoodTimes hn h hz).mono ?_; rintro e w' ⟨rfl, rfl⟩
    rw [h1]
    go_wp2_with fail
    refine (impl_GoodTimes hm g hz').mono ?_; rintro e w' ⟨rfl, rfl⟩
    rw [h2]
    go_wp2_with (go_at_call 100; refine (impl_within _ _ _ _).mono ?_; rintro e w' ⟨rfl, rfl⟩)
    go_ret
    exact ⟨ret_bool (by rw [E.out, h1, h2]; simp), rfl⟩
theorem spec_l22Asked {A B : Option Addr} {n m c d : Nat} {l k : List Int} {s : Int} {w : World} (hn : l.length = n) (hm : k.length = m) (h : Ints w A l) (g : Ints w B k) (hz : n ≤ 16777216) (hz' : m ≤ 16777216) :
    Calls Try.prog 131 #[.slice A n c, .slice B m d, .int .i64 s] w fun e w' => e = .returned (.bool (askedM l k s)) ∧ w = w' := by
  have E : Hid (askedM l k s = (goodTimes l && goodTimes k && inB s 0 10000)) := rfl
  rcases h1 : goodTimes l
  · go_in
    go_wp2_with fail
    refine (spec_l22Times hn h hz).mono ?_; rintro e w' ⟨rfl, rfl⟩
    rw [h1]
    go_wp2
    go_ret
    exact ⟨ret_bool (by rw [E.out, h1]; rfl), rfl⟩
  rcases h2 : goodTimes k
  · go_in
    go_wp2_with fail
    refine (spec_l22Times hn h hz).mono ?_; rintro e w' ⟨rfl, rfl⟩
    rw [h1]
    go_wp2_with fail
    refine (spec_l22Times hm g hz').mono ?_; rintro e w' ⟨rfl, rfl⟩
    rw [h2]
    go_wp2
    go_ret
    exact ⟨ret_bool (by rw [E.out, h1, h2]; rfl), rfl⟩
  · go_in
    go_wp2_with fail
    refine (spec_l22Times hn h hz).mono ?_; rintro e w' ⟨rfl, rfl⟩
    rw [h1]
    go_wp2_with fail
    refine (spec_l22Times hm g hz').mono ?_; rintro e w' ⟨rfl, rfl⟩
    rw [h2]
    go_wp2_with (go_at_call 104; refine (spec_l1In _ _ _ _).mono ?_; rintro e w' ⟨rfl, rfl⟩)
    go_ret
    exact ⟨ret_bool (by rw [E.out, h1, h2]; simp), rfl⟩
end Go.Proofs.Ytpccbmndgdiloaa
/- The table of remaining costs and the best match, as plain functions on lists. -/
namespace Go.Proofs.Ytpccbmndgdiloaa
set_option linter.unusedVariables false
set_option linter.unusedSimpArgs false

/-- The least cost of matching what is left. -/
def pr (s : Int) : List Int → List Int → Int
  | [], b => s * (b.length : Int)
  | x :: a, [] => s * ((x :: a).length : Int)
  | x :: a, y :: b => min (min (s + pr s a (y :: b)) (s + pr s (x :: a) b)) (absZ (x - y) + pr s a b)
termination_by a b => a.length + b.length
theorem pr_nil (s : Int) (b : List Int) : pr s [] b = s * (b.length : Int) := by rw [pr]
theorem pr_end (s : Int) (a : List Int) : pr s a [] = s * (a.length : Int) := by
  cases a with
  | nil => rw [pr_nil]
  | cons x a => rw [pr]
theorem pr_cons (s x y : Int) (a b : List Int) : pr s (x :: a) (y :: b) = min (min (s + pr s a (y :: b)) (s + pr s (x :: a) b)) (absZ (x - y) + pr s a b) := by rw [pr]
theorem mul_succ_len (s : Int) (n : Nat) : s * ((n + 1 : Nat) : Int) = s + s * (n : Int) := by
  rw [show ((n + 1 : Nat) : Int) = (n : Int) + 1 by omega, Int.mul_add, Int.mul_one]; omega
theorem pr_le_skip (s : Int) (a : List Int) (y : Int) (b : List Int) : pr s a (y :: b) ≤ s + pr s a b := by
  cases a with
  | nil => rw [pr_nil, pr_nil, List.length_cons, mul_succ_len]; omega
  | cons x a => rw [pr_cons]; omega
theorem pr_bd {s : Int} (hs : 0 ≤ s) (h2 : s ≤ 10000) : ∀ (k : Nat) (a b : List Int), a.length + b.length ≤ k → 0 ≤ pr s a b ∧ pr s a b ≤ 10000 * ((a.length + b.length : Nat) : Int)
  | 0, a, b, h => by
    have ha : a = [] := List.eq_nil_of_length_eq_zero (by omega)
    have hb : b = [] := List.eq_nil_of_length_eq_zero (by omega)
    subst ha hb
    rw [pr_nil]; simp
  | k + 1, [], b, h => by
    rw [pr_nil]
    have h0 : 0 ≤ s * (b.length : Int) := Int.mul_nonneg hs (by omega)
    have h1 : s * (b.length : Int) ≤ 10000 * (b.length : Int) := Int.mul_le_mul_of_nonneg_right h2 (by omega)
    refine ⟨h0, ?_⟩
    simp only [List.length_nil, Nat.zero_add]
    exact h1
  | k + 1, x :: a, [], h => by
    rw [pr_end]
    have h0 : 0 ≤ s * ((x :: a).length : Int) := Int.mul_nonneg hs (by omega)
    have h1 : s * ((x :: a).length : Int) ≤ 10000 * ((x :: a).length : Int) := Int.mul_le_mul_of_nonneg_right h2 (by omega)
    refine ⟨h0, ?_⟩
    simp only [List.length_nil, Nat.add_zero]
    exact h1
  | k + 1, x :: a, y :: b, h => by
    simp only [List.length_cons] at h
    have h1 := pr_bd hs h2 k a (y :: b) (by simp only [List.length_cons]; omega)
    have h3 := pr_bd hs h2 k (x :: a) b (by simp only [List.length_cons]; omega)
    have h4 := pr_bd hs h2 k a b (by omega)
    have h5 := absZ_bd (x - y)
    rw [pr_cons]
    simp only [List.length_cons] at h1 h3 h4 ⊢
    omega
/-- Entry (i, j) of the table. -/
def pAt (a b : List Int) (s : Int) (i j : Nat) : Int := pr s (a.drop i) (b.drop j)
theorem pAt_bd {a b : List Int} {s : Int} (h : askedM a b s = true) (i j : Nat) : 0 ≤ pAt a b s i j ∧ pAt a b s i j ≤ 1200000 := by
  obtain ⟨⟨a1, _⟩, ⟨b1, _⟩, s1, s2⟩ := askedM_t h
  have h1 := pr_bd s1 s2 _ (a.drop i) (b.drop j) (Nat.le_refl _)
  simp only [List.length_drop] at h1
  unfold pAt
  omega
theorem pAt_corner (a b : List Int) (s : Int) {i j : Nat} (hi : ¬ i < a.length) (hj : ¬ j < b.length) : pAt a b s i j = 0 := by
  rw [pAt, List.drop_of_length_le (by omega), List.drop_of_length_le (by omega), pr_nil]; simp
theorem pAt_bottom (a b : List Int) (s : Int) {i j : Nat} (hi : ¬ i < a.length) (hj : j ≤ b.length) : pAt a b s i j = s * ((b.length : Int) - (j : Int)) := by
  rw [pAt, List.drop_of_length_le (by omega), pr_nil, List.length_drop, Int.ofNat_sub hj]
theorem pAt_right (a b : List Int) (s : Int) {i j : Nat} (hi : i ≤ a.length) (hj : ¬ j < b.length) : pAt a b s i j = s * ((a.length : Int) - (i : Int)) := by
  rw [pAt, List.drop_of_length_le (l := b) (by omega), pr_end, List.length_drop, Int.ofNat_sub hi]
theorem pAt_down (a b : List Int) (s : Int) {i j : Nat} (hi : ¬ i < a.length) (hj : j < b.length) : pAt a b s i j = s + pAt a b s i (j + 1) := by
  rw [pAt_bottom a b s hi (by omega), pAt_bottom a b s hi (by omega)]
  have e : ((b.length : Int) - (j : Int)) = ((b.length : Int) - ((j + 1 : Nat) : Int)) + 1 := by omega
  rw [e, Int.mul_add, Int.mul_one]; omega
theorem pAt_over (a b : List Int) (s : Int) {i j : Nat} (hi : i < a.length) (hj : ¬ j < b.length) : pAt a b s i j = s + pAt a b s (i + 1) j := by
  rw [pAt_right a b s (by omega) hj, pAt_right a b s (by omega) hj]
  have e : ((a.length : Int) - (i : Int)) = ((a.length : Int) - ((i + 1 : Nat) : Int)) + 1 := by omega
  rw [e, Int.mul_add, Int.mul_one]; omega
theorem pAt_in {a b : List Int} {s x y : Int} {i j : Nat} (hx : a[i]? = some x) (hy : b[j]? = some y) :
    pAt a b s i j = min (min (s + pAt a b s (i + 1) j) (s + pAt a b s i (j + 1))) (absZ (x - y) + pAt a b s (i + 1) (j + 1)) := by
  unfold pAt
  rw [drop_some hx, drop_some hy, pr_cons]
/-- Row i of the table, and the table. -/
def pRow (a b : List Int) (s : Int) (i : Nat) : List Int := (List.range (b.length + 1)).map (pAt a b s i)
def pTab (a b : List Int) (s : Int) : List (List Int) := (List.range (a.length + 1)).map (pRow a b s)
theorem pRow_len (a b : List Int) (s : Int) (i : Nat) : (pRow a b s i).length = b.length + 1 := by simp [pRow]
theorem pTab_len (a b : List Int) (s : Int) : (pTab a b s).length = a.length + 1 := by simp [pTab]
theorem pTab_at (a b : List Int) (s : Int) {i : Nat} (h : i < a.length + 1) : (pTab a b s)[i]? = some (pRow a b s i) := by rw [pTab, List.getElem?_map, List.getElem?_range h]; rfl
theorem pRow_at (a b : List Int) (s : Int) (i : Nat) {j : Nat} (h : j < b.length + 1) : (pRow a b s i)[j]? = some (pAt a b s i j) := by rw [pRow, List.getElem?_map, List.getElem?_range h]; rfl
def pTabR (a b : List Int) (s : Int) : List (List Int) := if askedM a b s = true then pTab a b s else []
theorem pTabR_t {a b : List Int} {s : Int} (h : askedM a b s = true) : pTabR a b s = pTab a b s := by rw [pTabR, if_pos h]
theorem pTabR_f {a b : List Int} {s : Int} (h : askedM a b s = false) : pTabR a b s = [] := by rw [pTabR, if_neg (by rw [h]; simp)]
theorem pTabR_small {a b : List Int} {s : Int} : (pTabR a b s).length ≤ 61 ∧ ∀ r ∈ pTabR a b s, r.length ≤ 61 := by
  rcases h : askedM a b s
  · rw [pTabR_f h]; simp
  · rw [pTabR_t h, pTab_len]
    obtain ⟨⟨a1, _⟩, ⟨b1, _⟩, _⟩ := askedM_t h
    refine ⟨by omega, fun r hr => ?_⟩
    obtain ⟨i, _, rfl⟩ := List.mem_map.1 hr
    rw [pRow_len]; omega
/-- The least of a list, from the left. -/
def minL : List Int → Int
  | [] => 0
  | x :: r => r.foldl min x
theorem minL_one (x : Int) : minL [x] = x := rfl
theorem minL_two (x y : Int) : minL [x, y] = min x y := rfl
theorem minL_three (x y z : Int) : minL [x, y, z] = min (min x y) z := rfl
theorem minL_head {L : List Int} {x : Int} (h : L[0]? = some x) : minL (L.take 1) = x := by
  cases L with
  | nil => simp at h
  | cons y r => simp at h; subst h; simp [minL]
theorem minL_step {L : List Int} {x : Int} {t : Nat} (ht : 0 < t) (h : L[t]? = some x) : minL (L.take (t + 1)) = min (minL (L.take t)) x := by
  rw [take_succ_some h]
  cases L with
  | nil => simp at h
  | cons y r =>
    obtain ⟨t', rfl⟩ : ∃ t', t = t' + 1 := ⟨t - 1, by omega⟩
    simp [minL, List.foldl_append]

/-! the best match -/
theorem pr_hit {s x : Int} (hs : 0 ≤ s) {a : List Int} : ∀ {b : List Int}, pr s (x :: a) b ≠ s + pr s a b → ∃ (n : Nat) (y : Int), b[n]? = some y ∧ pr s (x :: a) b = s * (n : Int) + absZ (x - y) + pr s a (b.drop (n + 1))
  | [], h => by
    refine absurd ?_ h
    rw [pr_end, pr_end, List.length_cons, mul_succ_len]
  | y :: b, h => by
    have hl := pr_le_skip s a y b
    have hc := pr_cons s x y a b
    by_cases h1 : pr s (x :: a) (y :: b) = absZ (x - y) + pr s a b
    · exact ⟨0, y, rfl, by rw [h1]; simp⟩
    · have h2 : pr s (x :: a) (y :: b) = s + pr s (x :: a) b := by omega
      have h3 : pr s (x :: a) b ≠ s + pr s a b := fun e => by omega
      obtain ⟨n, y', hn, e⟩ := pr_hit hs h3
      refine ⟨n + 1, y', by simpa using hn, ?_⟩
      rw [h2, e, mul_succ_len]
      simp only [List.drop_succ_cons]
      omega
/-- The first number from j on (at most k tries) of which p holds. -/
def hitFrom (p : Nat → Bool) : Nat → Nat → Nat
  | 0, j => j
  | k + 1, j => if p j = true then j else hitFrom p k (j + 1)
theorem hitFrom_t {p : Nat → Bool} {k j : Nat} (h : p j = true) : hitFrom p k j = j := by
  cases k with
  | zero => rfl
  | succ k => rw [hitFrom, if_pos h]
theorem hitFrom_f {p : Nat → Bool} {k j : Nat} (h : p j = false) (hk : 0 < k) : hitFrom p k j = hitFrom p (k - 1) (j + 1) := by
  cases k with
  | zero => omega
  | succ k => rw [hitFrom, if_neg (by rw [h]; simp)]; rfl
/-- Whether time i is matched with struck time n where j are used up. -/
def hitB (a b : List Int) (s : Int) (i j n : Nat) : Bool := decide (pAt a b s i j = s * ((n : Int) - (j : Int)) + absZ (a.getD i 0 - b.getD n 0) + pAt a b s (i + 1) (n + 1))
theorem hitB_eq {a b : List Int} {s x y : Int} {i j n : Nat} (hx : a[i]? = some x) (hy : b[n]? = some y) : hitB a b s i j n = decide (pAt a b s i j = s * ((n : Int) - (j : Int)) + absZ (x - y) + pAt a b s (i + 1) (n + 1)) := by
  simp [hitB, List.getD, hx, hy]
theorem hit_some {a b : List Int} {s : Int} {i j : Nat} (hs : 0 ≤ s) (hi : i < a.length) (h : pAt a b s i j ≠ s + pAt a b s (i + 1) j) : ∃ n, j ≤ n ∧ n < b.length ∧ hitB a b s i j n = true := by
  have hx : a[i]? = some a[i] := List.getElem?_eq_getElem hi
  unfold pAt at h
  rw [drop_some hx] at h
  obtain ⟨n, y, hn, e⟩ := pr_hit hs h
  rw [List.getElem?_drop] at hn
  have hl := (List.getElem?_eq_some_iff.1 hn).1
  refine ⟨j + n, by omega, hl, ?_⟩
  rw [hitB_eq hx hn, decide_eq_true_eq]
  unfold pAt
  rw [drop_some hx, e, List.drop_drop]
  have e1 : (((j + n : Nat) : Int) - (j : Int)) = (n : Int) := by omega
  rw [e1, show j + (n + 1) = j + n + 1 by omega]
/-- What the matching still adds from time i on, j struck times used up; k times left. -/
def bestGo (a b : List Int) (s : Int) : Nat → Nat → Nat → List Int
  | 0, _, _ => []
  | k + 1, i, j => if pAt a b s i j = s + pAt a b s (i + 1) j then -1 :: bestGo a b s k (i + 1) j
    else (hitFrom (hitB a b s i j) (b.length - j) j : Int) :: bestGo a b s k (i + 1) (hitFrom (hitB a b s i j) (b.length - j) j + 1)
theorem bestGo_zero (a b : List Int) (s : Int) (i j : Nat) : bestGo a b s 0 i j = [] := rfl
theorem bestGo_skip {a b : List Int} {s : Int} {k i j : Nat} (h : pAt a b s i j = s + pAt a b s (i + 1) j) (hk : 0 < k) : bestGo a b s k i j = -1 :: bestGo a b s (k - 1) (i + 1) j := by
  cases k with
  | zero => omega
  | succ k => rw [bestGo, if_pos h]; rfl
theorem bestGo_hit {a b : List Int} {s : Int} {k i j n : Nat} (h : pAt a b s i j ≠ s + pAt a b s (i + 1) j) (hk : 0 < k) (hn : hitFrom (hitB a b s i j) (b.length - j) j = n) : bestGo a b s k i j = (n : Int) :: bestGo a b s (k - 1) (i + 1) (n + 1) := by
  cases k with
  | zero => omega
  | succ k => rw [bestGo, if_neg h, hn]; rfl
theorem bestGo_len (a b : List Int) (s : Int) : ∀ (k i j : Nat), (bestGo a b s k i j).length = k
  | 0, _, _ => rfl
  | k + 1, i, j => by
    rw [bestGo]
    split
    · rw [List.length_cons, bestGo_len]
    · rw [List.length_cons, bestGo_len]
def bestOf (a b : List Int) (s : Int) : List Int := if askedM a b s = true then bestGo a b s a.length 0 0 else []
def bestCost (a b : List Int) (s : Int) : Int := if askedM a b s = true then pAt a b s 0 0 else 0
theorem best_t {a b : List Int} {s : Int} (h : askedM a b s = true) : bestOf a b s = bestGo a b s a.length 0 0 ∧ bestCost a b s = pAt a b s 0 0 := by simp [bestOf, bestCost, h]
theorem best_f {a b : List Int} {s : Int} (h : askedM a b s = false) : bestOf a b s = [] ∧ bestCost a b s = 0 := by simp [bestOf, bestCost, h]
end Go.Proofs.Ytpccbmndgdiloaa
/- The walks through the table of remaining costs, both sides. -/
namespace Go.Proofs.Ytpccbmndgdiloaa
set_option linter.unusedVariables false
set_option linter.unusedSimpArgs false
open Go.ChangeShapes Go.WideShapes Go.ChangeAt Go.RowKit Go.Deep

theorem spec_l1Least (x y : Int) (w : World) :
    Calls Try.prog 226 #[.int .i64 x, .int .i64 y] w fun e w' => e = .returned (.int .i64 (min x y)) ∧ w = w' := by
  go_in
  go_wp2
  all_goals go_ret
  all_goals exact ⟨ret_int (by omega), rfl⟩
theorem Calls.turn {P : Program} {f : FuncId} {args : Array Value} {w : World} {v : Value} (h : Calls P f args w fun e w' => e = .returned v ∧ w = w') : Calls P f args w fun e w' => e = .returned v ∧ w' = w :=
  h.mono fun _ _ h => ⟨h.1, h.2.symm⟩
set_option maxHeartbeats 2000000 in
set_option maxRecDepth 100000 in
theorem spec_l22Prices {A B : Option Addr} {n m c d : Nat} {a b : List Int} {s : Int} {w : World} (hn : a.length = n) (hm : b.length = m) (h : Ints w A a) (g : Ints w B b) (ha : askedM a b s = true) :
    Calls Try.prog 193 #[.slice A n c, .slice B m d, .int .i64 s] w fun e w' => ∃ vs g, e = .returned (.slice (some ⟨g, 0, none⟩) (n + 1) (n + 1)) ∧ Tab vs w' w.heap.size (some ⟨g, 0, none⟩) (n + 1) (n + 1) (pTab a b s) ∧ Below w.heap.size w w' := by
  subst hn hm
  obtain ⟨⟨a1, a2⟩, ⟨b1, b2⟩, s1, s2⟩ := askedM_t ha
  have HA := Lib.hid a2; have HB := Lib.hid b2
  have hP := Lib.hid (fun i j => pAt_bd ha i j)
  clear a2 b2
  have hmk := run_make_rec (e := slcE) Try.elInts (none, 0, 0) rfl (a.length + 1) (by omega) (by decide)
  have hmk2 := run_make_rec (e := intE) Try.elInt 0 rfl (b.length + 1) (by omega) (by decide)
  rw [show ((a.length + 1 : Nat) : Int) = (a.length : Int) + 1 by omega] at hmk
  rw [show ((b.length + 1 : Nat) : Int) = (b.length : Int) + 1 by omega] at hmk2
  simp only [Nat.mul_one] at hmk hmk2
  go_in
  go_wp2
  go_loopw [8] (fun i wr => ∃ (k : Nat) (vs : List Hd), k ≤ a.length + 1 ∧ i = .int .i64 ((k : Int) - 1) ∧ Part vs wr w.heap.size w.heap.size (a.length + 1) (fun i => k ≤ i) (pRow a b s) ∧ Below w.heap.size w wr) (fun i _ => (intOf i + 1).toNat)
  case atStart =>
    refine ⟨a.length + 1, List.replicate (a.length + 1) (none, 0, 0), Nat.le_refl _, by go_num, ⟨Nat.le_refl _, ?_, fun i hi hn => absurd hi (by omega), fun i j hi _ hn => absurd hi (by omega)⟩, by (repeat' (first | (with_reducible exact Below.refl _ _) | (with_reducible assumption) | (with_reducible refine below_drewN ?_ _) | (with_reducible refine Below.drew ?_) | (with_reducible refine below_alloc ?_ _) | (with_reducible refine Below.alloc ?_ ?_ _) | (with_reducible refine Below.setCell ?_ ?_ _) | (with_reducible refine below_go ?_ (by with_reducible assumption)) | (with_reducible refine below_then (by with_reducible assumption) ?_ ?_) | go_size))⟩
    have q := Owned.made (e := slcE) (s := 1) (base := w.heap.size) slcE_len w 60 ((none, 0, 0) : Hd) (a.length + 1) (by omega) (Nat.le_refl _)
    rw [Nat.mul_one] at q
    exact q
  case round =>
    obtain ⟨k, vs, hk, rfl, hp, hb⟩ := hrel
    cases k with
    | zero =>
      have hT := hp.tab (fun i _ => Nat.zero_le i)
      go_wp2
      go_ret
      exact ⟨vs, _, rfl, hT, hb⟩
    | succ i =>
      have hsz := hb.size
      rw [show (((i + 1 : Nat) : Int) - 1) = (i : Int) by omega]
      obtain ⟨y, hy⟩ := some_of_lt (l := vs) (k := i) (by rw [hp.top.len]; omega)
      obtain ⟨b1, e1, _, hb1, hc, hfz⟩ := hp.top.at_ (by omega)
      injection e1 with e1; injection e1 with e1; subst e1
      have old0 := hc i y 0 _ hy rfl
      have fz0 := hfz (i * 1 + 0)
      simp only [Nat.mul_one, Nat.add_zero] at old0 fz0
      have hiL : i < a.length + 1 := by omega
      have hp1 := (hp.head (i0 := i) (q := wr.heap.size) (m := b.length + 1) (c := b.length + 1) (by omega) hiL).up ((Below.refl _ _).alloc (Nat.le_refl _) (.cells (madeCells (intE 0).toArray (b.length + 1)) 3))
      have HH := Lib.hid hc
      clear hc hfz hy
      go_wp2
      have hne : ∀ i', i + 1 ≤ i' → i' < a.length + 1 → hBlk (vs.set i (some ⟨wr.heap.size, 0, none⟩, b.length + 1, b.length + 1)) i' ≠ wr.heap.size := fun i' h1 h2 => by
        rw [hb_set (by omega)]; have := (hp.row i' h1 h2).2.2.1; omega
      have hv1 : Hid ((vs.set i (some ⟨wr.heap.size, 0, none⟩, b.length + 1, b.length + 1))[i]? = some ((some ⟨wr.heap.size, 0, none⟩, b.length + 1, b.length + 1) : Hd)) := Lib.hid (List.getElem?_set_self (by rw [hp.top.len]; omega))
      obtain ⟨W1, hW1⟩ : ∃ u, u = ((wr.setCell ⟨w.heap.size, i, none⟩ (.slice (some ⟨wr.heap.size, 0, none⟩) (b.length + 1) (b.length + 1))).alloc (.cells (madeCells (intE 0).toArray (b.length + 1)) 3)) := ⟨_, rfl⟩
      have O1 : Owned intE 1 3 W1 w.heap.size (some ⟨wr.heap.size, 0, none⟩) (b.length + 1) (b.length + 1) (List.replicate (b.length + 1) 0) := by
        have O0 := Owned.made (e := intE) (s := 1) (base := w.heap.size) intE_len (wr.setCell ⟨w.heap.size, i, none⟩ (.slice (some ⟨wr.heap.size, 0, none⟩) (b.length + 1) (b.length + 1))) 3 0 (b.length + 1) (by omega) (by simpa using hsz)
        rw [Nat.mul_one, World.size_setCell] at O0
        rw [hW1]; exact O0
      have B1 : Below w.heap.size w W1 := by rw [hW1]; exact (hb.setCell (Nat.le_refl _) _).alloc (by simpa using hsz) _
      have S1 : W1.heap.size = wr.heap.size + 1 := by rw [hW1]; simp
      rw [← hW1] at hp1 ⊢
      clear hW1 hp old0 fz0 HH hb
      obtain ⟨q, hq⟩ : ∃ q, q = wr.heap.size := ⟨_, rfl⟩
      rw [← hq] at hp1 hne hv1 O1 S1 hsz ⊢
      obtain ⟨vs', hvs⟩ : ∃ u, u = (vs.set i (some ⟨q, 0, none⟩, b.length + 1, b.length + 1)) := ⟨_, rfl⟩
      rw [← hvs] at hp1 hne hv1
      have hgq : w.heap.size < q := by omega
      clear hvs hq y vs hb1 wr
      go_loopw [9] (fun v wx => ∃ (jj : Nat) (cur : List Int), jj ≤ b.length + 1 ∧ v = .int .i64 ((jj : Int) - 1) ∧ Part vs' wx w.heap.size w.heap.size (a.length + 1) (fun i' => i + 1 ≤ i') (pRow a b s) ∧ Owned intE 1 3 wx w.heap.size (some ⟨q, 0, none⟩) (b.length + 1) (b.length + 1) cur ∧ Hid (∀ j, jj ≤ j → j ≤ b.length → cur[j]? = some (pAt a b s i j)) ∧ Below w.heap.size w wx ∧ q < wx.heap.size) (fun v _ => (intOf v + 1).toNat)
      case atStart => exact ⟨b.length + 1, _, Nat.le_refl _, by go_num, hp1, O1, Lib.hid (fun j h1 h2 => absurd h1 (by omega)), B1, by omega⟩
      case round =>
        obtain ⟨jj, cur, hjj, rfl, hp2, HO, HC, hb2, hqx⟩ := hrel
        cases jj with
        | zero =>
          have hrow : cur = pRow a b s i := by
            refine eq_of_upto (k := b.length + 1) (fun j hj => ?_) HO.len (pRow_len _ _ _ _)
            rw [HC.out j (Nat.zero_le _) (by omega)]
            simp [pRow, hj]
          subst hrow
          have hp3 := hp2.add (F' := fun i' => i ≤ i') (i0 := i) (q := q) (by rw [pRow_len]; exact hv1.out) hgq (by rw [pRow_len]; exact HO) (fun i' h1 h2 _ => hne i' h1 h2) (fun i' h => by omega)
          go_wp2
          go_roundw
          case rel => exact ⟨i, vs', by omega, by go_num, hp3, hb2⟩
          case measure => simp [intOf]
        | succ j =>
          rw [show (((j + 1 : Nat) : Int) - 1) = (j : Int) by omega]
          have fin : Hid (∀ (u : World) (v : Int), Below wr.heap.size wr u → v = pAt a b s i j → Part vs' (u.setCell ⟨q, j, none⟩ (.int .i64 v)) w.heap.size w.heap.size (a.length + 1) (fun i' => i + 1 ≤ i') (pRow a b s) ∧ Owned intE 1 3 (u.setCell ⟨q, j, none⟩ (.int .i64 v)) w.heap.size (some ⟨q, 0, none⟩) (b.length + 1) (b.length + 1) (cur.set j v) ∧ Below w.heap.size w (u.setCell ⟨q, j, none⟩ (.int .i64 v)) ∧ q < (u.setCell ⟨q, j, none⟩ (.int .i64 v)).heap.size ∧ Hid (∀ j', j ≤ j' → j' ≤ b.length → (cur.set j v)[j']? = some (pAt a b s i j'))) := Lib.hid (fun u v hu hv => by
            obtain ⟨y, hy⟩ := some_of_lt (l := cur) (k := j) (by rw [HO.len]; omega)
            have p0 := (HO.up hu).put (j := 0) (x := v) (u := .int .i64 v) hy (by decide) rfl
            simp only [Nat.mul_one, Nat.add_zero] at p0
            refine ⟨(hp2.up hu).past p0.2 (by omega) (fun i' h1 h2 => hne i' h1 h2), p0.1, (hb2.trans (hu.mono hb2.size)).setCell (by show w.heap.size ≤ q; omega) _, by have := hu.size; simp; omega, Lib.hid fun j' h1 h2 => ?_⟩
            by_cases e : j' = j
            · subst e
              rw [List.getElem?_set_self (by rw [HO.len]; omega), hv]
            · rw [List.getElem?_set_ne (fun e1 => e e1.symm)]
              exact HC.out j' (by omega) h2)
          obtain ⟨_, e1, _, _, hcq, hfq⟩ := HO.at_ (by omega)
          injection e1 with e1; injection e1 with e1; subst e1
          obtain ⟨y, hy⟩ := some_of_lt (l := cur) (k := j) (by rw [HO.len]; omega)
          have old0 := hcq j y 0 _ hy rfl
          have fz0 := hfq (j * 1 + 0)
          obtain ⟨_, e1, _, _, hct, _⟩ := hp2.top.at_ (by omega)
          injection e1 with e1; injection e1 with e1; subst e1
          have ct := hct i _ 0 _ hv1.out rfl
          simp only [Nat.mul_one, Nat.add_zero] at old0 fz0 ct
          have bij := hP.out i j
          clear hmk hmk2
          by_cases hi : i < a.length
          · by_cases hj : j < b.length
            · obtain ⟨b3, o3, x, rfl, _, hx, hcx⟩ := (h.below hb2 (Nat.le_refl _)).at_int hi
              obtain ⟨b4, o4, y', rfl, _, hy', hcy⟩ := (g.below hb2 (Nat.le_refl _)).at_int hj
              have E0 := Lib.hid (pAt_in (s := s) hx hy')
              have r0 : (pRow a b s (i + 1))[j]? = some (pAt a b s (i + 1) j) := by rw [pRow, List.getElem?_map, List.getElem?_range (by omega)]; rfl
              have r1 : (pRow a b s (i + 1))[j + 1]? = some (pAt a b s (i + 1) (j + 1)) := by rw [pRow, List.getElem?_map, List.getElem?_range (by omega)]; rfl
              obtain ⟨t1, t2⟩ := hp2.at_ (i := i + 1) (Nat.le_refl _) (by omega) r0
              have t3 := (hp2.at_ (i := i + 1) (Nat.le_refl _) (by omega) r1).2
              have t4 := hcq (j + 1) _ 0 _ (HC.out (j + 1) (Nat.le_refl _) (by omega)) rfl
              simp only [Nat.mul_one, Nat.add_zero, pRow_len] at t1 t4
              have p1 := hP.out (i + 1) j; have p2 := hP.out i (j + 1); have p3 := hP.out (i + 1) (j + 1)
              have x1 := HA.out x (List.mem_of_getElem? hx); have y1 := HB.out y' (List.mem_of_getElem? hy')
              have za := absZ_bd (x - y')
              clear hcq hct hy hx hy' r0 r1
              obtain ⟨u1, hu1⟩ : ∃ u, u = pAt a b s (i + 1) j := ⟨_, rfl⟩
              obtain ⟨u2, hu2⟩ : ∃ u, u = pAt a b s i (j + 1) := ⟨_, rfl⟩
              obtain ⟨u3, hu3⟩ : ∃ u, u = pAt a b s (i + 1) (j + 1) := ⟨_, rfl⟩
              rw [← hu1, ← hu2, ← hu3] at E0
              rw [← hu1] at t2 p1
              rw [← hu2] at t4 p2
              rw [← hu3] at t3 p3
              clear hu1 hu2 hu3
              obtain ⟨f, hf⟩ : ∃ f, f = hBlk vs' (i + 1) := ⟨_, rfl⟩
              rw [← hf] at t1 t2 t3
              clear hf
              have g3 := wrap_id (x := s + u1) (by omega)
              have g4 := wrap_id (x := s + u2) (by omega)
              go_wp2
              go_quiet ((go_at_call 226; exact quiet_left (spec_l1Least _ _ _)))
              go_wp2
              have hiI : (i : Int) < (a.length : Int) + 1 := by omega
              have hiJ : (i : Int) < (a.length : Int) := by omega
              have hjI : (j : Int) < (b.length : Int) + 1 := by omega
              have hjJ : (j : Int) < (b.length : Int) := by omega
              have hi0 : (0 : Int) ≤ (i : Int) + 1 := by omega
              have hj0 : (0 : Int) ≤ (j : Int) + 1 := by omega
              have ti : ((i : Int) + 1).toNat = i + 1 := by omega
              have tj : ((j : Int) + 1).toNat = j + 1 := by omega
              obtain ⟨wu, hwu⟩ : ∃ u, u = wr.drewN nq := ⟨_, rfl⟩
              rw [← hwu]
              have hcell : ∀ p, wr.cell? p = wu.cell? p := fun p => by rw [hwu]; rfl
              have hfroz : ∀ p, wr.frozen? p = wu.frozen? p := fun p => by rw [hwu]; rfl
              have Bu : Below wr.heap.size wr wu := by rw [hwu]; exact below_drewN (Below.refl _ _) _
              rw [hcell] at old0 ct t1 t2 t3 t4 hcx hcy
              rw [hfroz] at fz0
              clear hwu hcell hfroz
              have g1 : IntKind.i64.wrap ((i : Int) + 1) = (i : Int) + 1 := wrap_id (by omega)
              have g2 : IntKind.i64.wrap ((j : Int) + 1) = (j : Int) + 1 := wrap_id (by omega)
              have g5 : IntKind.i64.wrap (absZ (x - y') + u3) = absZ (x - y') + u3 := wrap_id (by omega)
              refine wp_region_still_tail 27 (by kernel_rfl) (by kernel_rfl) ?_
              simp only [List.take_succ_cons, List.take_zero, List.drop_succ_cons, List.drop_zero]
              repeat still_step
              still_call (Calls.turn (spec_l22Far x y' _ (by omega)))
              repeat still_step
              still_call (Calls.turn (spec_l1Least (s + min u1 u2) (absZ (x - y') + u3) _))
              repeat still_step
              refine wpStill_nil ?_
              go_wp2
              go_roundw
              case rel =>
                obtain ⟨f1, f2, f3, f4, f5⟩ := fin.out wu.drew (min (s + min u1 u2) (absZ (x - y') + u3)) (Below.drew Bu) (by rw [E0.out]; omega)
                exact ⟨j, _, by omega, by go_num, f1, f2, f5, f3, f4⟩
              case measure => simp [intOf]
            · obtain rfl : j = b.length := by omega
              have E0 := Lib.hid (pAt_right a b s (i := i) (j := b.length) (by omega) hj)
              rw [E0.out] at bij
              clear hcq hct hy
              go_wp2
              go_roundw
              case rel =>
                obtain ⟨f1, f2, f3, f4, f5⟩ := fin.out _ _ (Below.refl _ _) E0.out.symm
                exact ⟨b.length, _, by omega, by go_num, f1, f2, f5, f3, f4⟩
              case measure => simp [intOf]
          · obtain rfl : i = a.length := by omega
            have E0 := Lib.hid (pAt_bottom a b s (i := a.length) (j := j) hi (by omega))
            rw [E0.out] at bij
            clear hcq hct hy
            go_wp2
            go_roundw
            case rel =>
              obtain ⟨f1, f2, f3, f4, f5⟩ := fin.out _ _ (Below.refl _ _) E0.out.symm
              exact ⟨j, _, by omega, by go_num, f1, f2, f5, f3, f4⟩
            case measure => simp [intOf]
end Go.Proofs.Ytpccbmndgdiloaa
