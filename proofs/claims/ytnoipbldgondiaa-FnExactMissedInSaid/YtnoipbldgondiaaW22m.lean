/- The walks through what is missed and what is extra, both sides. -/
import Derived.Test.YtnoipbldgondiaaW0
import Derived.Test.YtnoipbldgondiaaW23
import Derived.Test.YtnoipbldgondiaaP22
import Derived.Test.YtnoipbldgondiaaCmatch
namespace Go.Proofs.Ytnoipbldgondiaa
set_option linter.unusedVariables false
set_option linter.unusedSimpArgs false
open Go.ChangeShapes Go.WideShapes Go.ChangeAt Go.RowKit Go.Deep

theorem spec_l22Of {A : Option Addr} {n c : Nat} {l : List Int} {x m : Int} {w : World} (hn : l.length = n) (h : Ints w A l) (hz : n ≤ 16777216) :
    Calls Try.prog 74 #[.agg #[.slice A n c, .int .i64 x], .int .i64 m] w fun e w' => e = .returned (.bool (ofOk l m)) ∧ Below w.heap.size w w' := by
  subst hn
  have E : Hid (ofOk l m = (decide (l.length ≤ 60) && allIn l (-1) m)) := rfl
  have b0 : Below w.heap.size w (w.alloc (.cells #[.slice A l.length c, .int .i64 x] 37)) := by (repeat' (first | (with_reducible exact Below.refl _ _) | (with_reducible assumption) | (with_reducible refine below_drewN ?_ _) | (with_reducible refine Below.drew ?_) | (with_reducible refine below_alloc ?_ _) | (with_reducible refine Below.alloc ?_ ?_ _) | (with_reducible refine Below.setCell ?_ ?_ _) | (with_reducible refine below_go ?_ (by with_reducible assumption)) | (with_reducible refine below_then (by with_reducible assumption) ?_ ?_) | go_size))
  by_cases h1 : l.length ≤ 60
  · go_in
    go_wp2_with (first | (go_at_call 109; refine (spec_l1All _ _ _ _ _ _ (h.up b0) (by omega)).mono ?_; rintro e w' ⟨rfl, rfl⟩))
    go_ret
    exact ⟨ret_bool (by rw [E.out, decide_eq_true h1]; simp), b0⟩
  · go_in
    go_wp2
    go_ret
    exact ⟨ret_bool (by rw [E.out, decide_eq_false h1]; simp), b0⟩
set_option maxRecDepth 100000 in
theorem spec_MissedIn {A : Option Addr} {n c : Nat} {l : List Int} {x : Int} {w : World} (hn : l.length = n) (h : Ints w A l) (hz : n ≤ 16777216) :
    Calls Try.prog 23 #[.agg #[.slice A n c, .int .i64 x]] w fun e w' => ∃ A' c', e = .returned (.tuple #[.slice A' (missR l).length c', .bool (ofOk l 60)]) ∧
      Owned intE 1 3 w' w.heap.size A' (missR l).length c' (missR l) ∧ (missR l).length ≤ 16777216 ∧ Below w.heap.size w w' := by
  have b0 : Below w.heap.size w (w.alloc (.cells #[.slice A n c, .int .i64 x] 37)) := by (repeat' (first | (with_reducible exact Below.refl _ _) | (with_reducible assumption) | (with_reducible refine below_drewN ?_ _) | (with_reducible refine Below.drew ?_) | (with_reducible refine below_alloc ?_ _) | (with_reducible refine Below.alloc ?_ ?_ _) | (with_reducible refine Below.setCell ?_ ?_ _) | (with_reducible refine below_go ?_ (by with_reducible assumption)) | (with_reducible refine below_then (by with_reducible assumption) ?_ ?_) | go_size))
  rcases h1 : ofOk l 60
  · rw [missR_f h1]
    go_in
    go_wp2_with (first | (go_at_call 74; refine (spec_l22Of hn (h.up b0) hz).mono ?_; rintro e w1 ⟨rfl, hb1⟩))
    go_ret2
    exact ⟨none, 0, rfl, Owned.nil intE_len _ _ _, by decide, below_go b0 hb1⟩
  · have h60 := ofOk_len h1
    have hR := Lib.hid (missR_t h1)
    have hpl := pick_len (isMiss l) l.length
    rw [← hR.out] at hpl
    subst hn
    go_in
    go_wp2_with (first | (go_at_call 74; refine (spec_l22Of rfl (h.up b0) hz).mono ?_; rintro e w1 ⟨rfl, hb1⟩; have BX := (Box.new w [.slice A l.length c, .int .i64 x] 37).up hb1; have cx := BX 0 _ rfl; clear BX))
    go_loopw [4, 13] (fun v i wr => ∃ (k : Nat) (A' : Option Addr) (m c' : Nat), k ≤ l.length ∧ i = .int .i64 k ∧ v = .slice A' m c' ∧ Owned intE 1 3 wr w.heap.size A' m c' (pick (isMiss l) k) ∧ Below w.heap.size w wr) (fun _ i _ => l.length - (intOf i).toNat)
    case atStart => exact ⟨0, _, _, _, Nat.zero_le _, rfl, rfl, Owned.nil intE_len _ _ _, below_go b0 hb1⟩
    case round =>
      obtain ⟨k, A', m, c', hk, rfl, rfl, ho, hb⟩ := hrel
      have hml : m ≤ k := by
        have := pick_len (isMiss l) k
        rw [ho.len] at this
        omega
      by_cases hlt : k < l.length
      · obtain ⟨b3, o3, y, rfl, hbb, hy, hc⟩ := (h.below hb (Nat.le_refl _)).at_int hlt
        have M := Lib.hid (isMiss_eq hy)
        have HO := Lib.hid ho
        have hsz := hb.size
        clear h hy ho
        rcases hy1 : (y == -1)
        · have hy2 : isMiss l k = false := M.out.trans hy1
          have HY := Lib.hid hy2
          clear hy2
          go_wp2
          go_roundw
          case rel => exact ⟨k + 1, A', m, c', by omega, by go_num, rfl, by rw [pick_miss HY.out]; exact HO.out, by (repeat' (first | (with_reducible exact Below.refl _ _) | (with_reducible assumption) | (with_reducible refine below_drewN ?_ _) | (with_reducible refine Below.drew ?_) | (with_reducible refine below_alloc ?_ _) | (with_reducible refine Below.alloc ?_ ?_ _) | (with_reducible refine Below.setCell ?_ ?_ _) | (with_reducible refine below_go ?_ (by with_reducible assumption)) | (with_reducible refine below_then (by with_reducible assumption) ?_ ?_) | go_size))⟩
          case measure => simp [intOf]; omega
        · have hy2 : isMiss l k = true := M.out.trans hy1
          have HY := Lib.hid hy2
          clear hy2
          go_wp2_with (first | (at_builtin; go_must ((refine wpList_append_rec Try.elInt rfl (.tmp 20) (.tmp 22) rfl rfl (HO.out.alloc _) (k : Int) rfl (Box.at_ _ [.int .i64 (k : Int)] _ ?_) (intE_one _) ?_ (by decide) ?_ ?_; (focus (first | omega | (simp only [World.size_alloc]; done) | (simp only [World.size_alloc]; omega) | (simp; done) | (simp; omega))); (focus (first | omega | (simp only [World.size_alloc]; done) | (simp only [World.size_alloc]; omega) | (simp; done) | (simp; omega))); (focus (first | omega | (simp only [World.size_alloc]; done) | (simp only [World.size_alloc]; omega) | (simp; done) | (simp; omega))); intro A2 c2 w2 ho2 hg2 hb2))))
          go_roundw
          case rel =>
            refine ⟨k + 1, A2, m + 1, c2, by omega, by go_num, by go_num, ?_, (hb.alloc hsz _).trans hb2⟩
            rw [pick_hit HY.out]; exact ho2
          case measure => simp [intOf]; omega
      · obtain rfl : k = l.length := by omega
        rw [← hR.out] at ho
        obtain rfl := ho.len
        go_wp2
        go_ret2
        exact ⟨_, _, rfl, ho, by omega, hb⟩
set_option maxRecDepth 100000 in
theorem impl_MissedIn {A : Option Addr} {n c : Nat} {l : List Int} {x : Int} {w : World} (hn : l.length = n) (h : Ints w A l) (hz : n ≤ 16777216) :
    Calls Try.prog 25 #[.agg #[.slice A n c, .int .i64 x]] w fun e w' => ∃ A' c', e = .returned (.tuple #[.slice A' (missR l).length c', .bool (ofOk l 60)]) ∧
      Owned intE 1 3 w' w.heap.size A' (missR l).length c' (missR l) ∧ (missR l).length ≤ 16777216 ∧ Below w.heap.size w w' := by
  have E : Hid (ofOk l 60 = (decide (l.length ≤ 60) && allIn l (-1) 60)) := rfl
  have b0 : Below w.heap.size w (w.alloc (.cells #[.slice A n c, .int .i64 x] 37)) := by (repeat' (first | (with_reducible exact Below.refl _ _) | (with_reducible assumption) | (with_reducible refine below_drewN ?_ _) | (with_reducible refine Below.drew ?_) | (with_reducible refine below_alloc ?_ _) | (with_reducible refine Below.alloc ?_ ?_ _) | (with_reducible refine Below.setCell ?_ ?_ _) | (with_reducible refine below_go ?_ (by with_reducible assumption)) | (with_reducible refine below_then (by with_reducible assumption) ?_ ?_) | go_size))
  by_cases h60 : l.length ≤ 60
  · have hpl := pick_len (isMiss l) l.length
    have B0 := Lib.hid b0
    clear b0
    subst hn
    go_in
    go_wp2
    go_loopw [4, 15] (fun v i wr => ∃ (k : Nat) (A' : Option Addr) (m c' : Nat), k ≤ l.length ∧ i = .int .i64 k ∧ v = .slice A' m c' ∧ Hid (∀ j, j < k → ∃ x, l[j]? = some x ∧ inB x (-1) 60 = true) ∧ Owned intE 1 3 wr w.heap.size A' m c' (pick (isMiss l) k) ∧ Below w.heap.size w wr) (fun _ i _ => l.length - (intOf i).toNat)
    case atStart => exact ⟨0, _, _, _, Nat.zero_le _, rfl, rfl, Lib.hid (fun j hj => absurd hj (by omega)), (by have q := Owned.empty (base := w.heap.size) intE_len 3 (w.alloc (.cells #[.slice A l.length c, .int .i64 x] 37)) (by simp); rw [World.size_alloc] at q; exact q), by (repeat' (first | (with_reducible exact Below.refl _ _) | (with_reducible assumption) | (with_reducible refine below_drewN ?_ _) | (with_reducible refine Below.drew ?_) | (with_reducible refine below_alloc ?_ _) | (with_reducible refine Below.alloc ?_ ?_ _) | (with_reducible refine Below.setCell ?_ ?_ _) | (with_reducible refine below_go ?_ (by with_reducible assumption)) | (with_reducible refine below_then (by with_reducible assumption) ?_ ?_) | go_size))⟩
    case round =>
      obtain ⟨k, A', m, c', hk, rfl, rfl, HK, ho, hb⟩ := hrel
      have hml : m ≤ k := by
        have := pick_len (isMiss l) k
        rw [ho.len] at this
        omega
      by_cases hlt : k < l.length
      · obtain ⟨b3, o3, y, rfl, hbb, hy, hc⟩ := (h.below hb (Nat.le_refl _)).at_int hlt
        have M := Lib.hid (isMiss_eq hy)
        have HY := Lib.hid hy
        have HO := Lib.hid ho
        have hsz := hb.size
        clear h hy ho
        rcases hin : inB y (-1) 60
        · have e0 := Lib.hid (show ofOk l 60 = false by rw [E.out, allIn_bad HY.out hin]; simp)
          go_wp2_with (go_at_call 71; refine (impl_within _ _ _ _).mono ?_; rintro e w' ⟨rfl, rfl⟩)
          go_ret2
          rw [missR_f e0.out, e0.out]
          exact ⟨none, 0, rfl, Owned.nil intE_len _ _ _, by decide, hb⟩
        rcases hy1 : (y == -1)
        · have M1 := Lib.hid (M.out.trans hy1)
          go_wp2_with (go_at_call 71; refine (impl_within _ _ _ _).mono ?_; rintro e w' ⟨rfl, rfl⟩)
          go_roundw
          case rel => exact ⟨k + 1, A', m, c', by omega, by go_num, rfl, Lib.hid (upto_succ HK.out ⟨y, HY.out, hin⟩), by rw [pick_miss M1.out]; exact HO.out, by (repeat' (first | (with_reducible exact Below.refl _ _) | (with_reducible assumption) | (with_reducible refine below_drewN ?_ _) | (with_reducible refine Below.drew ?_) | (with_reducible refine below_alloc ?_ _) | (with_reducible refine Below.alloc ?_ ?_ _) | (with_reducible refine Below.setCell ?_ ?_ _) | (with_reducible refine below_go ?_ (by with_reducible assumption)) | (with_reducible refine below_then (by with_reducible assumption) ?_ ?_) | go_size))⟩
          case measure => simp [intOf]; omega
        · have M1 := Lib.hid (M.out.trans hy1)
          go_wp2_with (first | (go_at_call 71; refine (impl_within _ _ _ _).mono ?_; rintro e w' ⟨rfl, rfl⟩) | (at_builtin; go_must ((refine wpList_append_rec Try.elInt rfl (.tmp 25) (.tmp 27) rfl rfl (HO.out.alloc _) (k : Int) rfl (Box.at_ _ [.int .i64 (k : Int)] _ ?_) (intE_one _) ?_ (by decide) ?_ ?_; (focus (first | omega | (simp only [World.size_alloc]; done) | (simp only [World.size_alloc]; omega) | (simp; done) | (simp; omega))); (focus (first | omega | (simp only [World.size_alloc]; done) | (simp only [World.size_alloc]; omega) | (simp; done) | (simp; omega))); (focus (first | omega | (simp only [World.size_alloc]; done) | (simp only [World.size_alloc]; omega) | (simp; done) | (simp; omega))); intro A2 c2 w2 ho2 hg2 hb2))))
          go_roundw
          case rel =>
            refine ⟨k + 1, A2, m + 1, c2, by omega, by go_num, by go_num, Lib.hid (upto_succ HK.out ⟨y, HY.out, hin⟩), ?_, (hb.alloc hsz _).trans hb2⟩
            rw [pick_hit M1.out]; exact ho2
          case measure => simp [intOf]; omega
      · obtain rfl : k = l.length := by omega
        have e0 := Lib.hid (show ofOk l 60 = true by rw [E.out, allIn_good (fun j hj => HK.out j hj)]; simp [h60])
        rw [← missR_t e0.out] at ho hpl
        obtain rfl := ho.len
        go_wp2
        go_ret2
        rw [e0.out]
        exact ⟨_, _, rfl, ho, by omega, hb⟩
  · have e0 : ofOk l 60 = false := by rw [E.out, decide_eq_false h60]; rfl
    rw [missR_f e0, e0]
    subst hn
    clear e0
    go_in
    go_wp2
    go_ret2
    exact ⟨none, 0, rfl, Owned.nil intE_len _ _ _, by decide, b0⟩
set_option maxRecDepth 100000 in
theorem spec_l1Has {A : Option Addr} {n c : Nat} {l : List Int} {x : Int} {w : World} (hn : l.length = n) (h : Ints w A l) (hz : n ≤ 16777216) :
    Calls Try.prog 81 #[.slice A n c, .int .i64 x] w fun e w' => e = .returned (.bool (l.any fun y => y == x)) ∧ w = w' := by
  subst hn
  go_in
  go_wp2
  go_loop [9] (fun i => ∃ k : Nat, k ≤ l.length ∧ i = .int .i64 k ∧ Hid ((l.take k).any (fun y => y == x) = false)) (fun i => l.length - (intOf i).toNat)
  case atStart => exact ⟨0, Nat.zero_le _, rfl, Lib.hid (by simp)⟩
  case round =>
    obtain ⟨k, hk, rfl, HK⟩ := hrel
    by_cases hlt : k < l.length
    · obtain ⟨b3, o3, y, rfl, hbb, hy, hc⟩ := h.at_int hlt
      have HY := Lib.hid hy
      clear h hy
      rcases hyx : (y == x)
      · go_wp2
        go_round
        case rel => exact ⟨k + 1, by omega, by go_num, Lib.hid (by rw [take_succ_some HY.out, List.any_append, HK.out]; simp; simpa using hyx)⟩
        case measure => simp [intOf]; omega
      · go_wp2
        go_ret
        refine ⟨ret_bool ?_, rfl⟩
        symm
        rw [List.any_eq_true]
        exact ⟨y, List.mem_of_getElem? HY.out, hyx⟩
    · go_wp2
      go_ret
      refine ⟨ret_bool ?_, rfl⟩
      have := HK.out
      rw [List.take_of_length_le (by omega)] at this
      exact this.symm
set_option maxRecDepth 100000 in
theorem spec_ExtraIn {A : Option Addr} {n c : Nat} {l : List Int} {s x : Int} {w : World} (hn : l.length = n) (h : Ints w A l) (hz : n ≤ 16777216) :
    Calls Try.prog 36 #[.int .i64 s, .agg #[.slice A n c, .int .i64 x]] w fun e w' => ∃ A' c', e = .returned (.tuple #[.slice A' (extraR s l).length c', .bool (extraOk s l)]) ∧
      Owned intE 1 3 w' w.heap.size A' (extraR s l).length c' (extraR s l) ∧ (extraR s l).length ≤ 16777216 ∧ Below w.heap.size w w' := by
  have E : Hid (extraOk s l = (inB s 0 60 && ofOk l (s - 1))) := rfl
  have b0 : Below w.heap.size w (w.alloc (.cells #[.slice A n c, .int .i64 x] 37)) := by (repeat' (first | (with_reducible exact Below.refl _ _) | (with_reducible assumption) | (with_reducible refine below_drewN ?_ _) | (with_reducible refine Below.drew ?_) | (with_reducible refine below_alloc ?_ _) | (with_reducible refine Below.alloc ?_ ?_ _) | (with_reducible refine Below.setCell ?_ ?_ _) | (with_reducible refine below_go ?_ (by with_reducible assumption)) | (with_reducible refine below_then (by with_reducible assumption) ?_ ?_) | go_size))
  rcases h1 : inB s 0 60
  · have e0 : extraOk s l = false := by rw [E.out, h1]; rfl
    rw [extraR_f e0, e0]
    clear e0
    go_in
    go_wp2_with (first | (go_at_call 68; refine (spec_l1In _ _ _ _).mono ?_; rintro e w' ⟨rfl, rfl⟩))
    go_ret2
    exact ⟨none, 0, rfl, Owned.nil intE_len _ _ _, by decide, b0⟩
  have hs := inB_t h1
  rcases h2 : ofOk l (s - 1)
  · have e0 : extraOk s l = false := by rw [E.out, h1, h2]; rfl
    rw [extraR_f e0, e0]
    clear e0
    go_in
    go_wp2_with (first | (go_at_call 68; refine (spec_l1In _ _ _ _).mono ?_; rintro e w' ⟨rfl, rfl⟩) | (go_at_call 74; refine (spec_l22Of hn (h.up b0) hz).mono ?_; rintro e w1 ⟨rfl, hb1⟩))
    go_ret2
    exact ⟨none, 0, rfl, Owned.nil intE_len _ _ _, by decide, below_go b0 hb1⟩
  · have e0 : extraOk s l = true := by rw [E.out, h1, h2]; rfl
    obtain ⟨N, rfl⟩ := Int.eq_ofNat_of_zero_le hs.1
    have hR := Lib.hid (extraR_t e0)
    have hpl := pick_len (notIn l) (N : Int).toNat
    rw [← hR.out, Int.toNat_natCast] at hpl
    rw [e0]
    subst hn
    clear e0
    go_in
    go_wp2_with (first | (go_at_call 68; refine (spec_l1In _ _ _ _).mono ?_; rintro e w' ⟨rfl, rfl⟩) | (go_at_call 74; refine (spec_l22Of rfl (h.up b0) hz).mono ?_; rintro e w1 ⟨rfl, hb1⟩; have BX := (Box.new w [.slice A l.length c, .int .i64 x] 37).up hb1; have cx := BX 0 _ rfl; clear BX))
    have bsz := hb1.size
    have cb := World.block_lt_of_cell? w1 _ cx
    go_loopw [6, 7] (fun v i wr => ∃ (k : Nat) (A' : Option Addr) (m c' : Nat), k ≤ N ∧ i = .int .i64 k ∧ v = .slice A' m c' ∧ Owned intE 1 3 wr (w.heap.size + 1) A' m c' (pick (notIn l) k) ∧ Below (w.heap.size + 1) w1 wr) (fun _ i _ => N - (intOf i).toNat)
    case atStart => exact ⟨0, _, _, _, Nat.zero_le _, rfl, rfl, Owned.nil intE_len _ _ _, Below.refl _ _⟩
    case round =>
      obtain ⟨k, A', m, c', hk, rfl, rfl, ho, hb⟩ := hrel
      have hml : m ≤ k := by
        have := pick_len (notIn l) k
        rw [ho.len] at this
        omega
      have hsz := hb.size
      simp only [World.size_alloc] at bsz
      by_cases hlt : k < N
      · have cr : wr.cell? ⟨w.heap.size, 0, none⟩ = some (.slice A l.length c) := (hb.cell (p := ⟨w.heap.size, 0, none⟩) (by simp)).trans cx
        have hRec : Ints wr A l := h.below ((b0.trans (hb1.mono (by simp))).trans (hb.mono (by omega))) (Nat.le_refl _)
        have HO := Lib.hid ho
        clear ho
        rcases hy1 : notIn l k
        · have hy2 : (l.any fun y => y == (k : Int)) = true := by simpa [notIn] using hy1
          go_wp2_with (go_at_call 81; refine (spec_l1Has rfl hRec hz).mono ?_; rintro e w' ⟨rfl, rfl⟩)
          go_roundw
          case rel => exact ⟨k + 1, A', m, c', by omega, by go_num, rfl, by rw [pick_miss hy1]; exact HO.out, hb⟩
          case measure => simp [intOf]; omega
        · have hy2 : (l.any fun y => y == (k : Int)) = false := by simpa [notIn] using hy1
          go_wp2_with (first | (go_at_call 81; refine (spec_l1Has rfl hRec hz).mono ?_; rintro e w' ⟨rfl, rfl⟩) | (at_builtin; go_must ((refine wpList_append_rec Try.elInt rfl (.tmp 28) (.tmp 30) rfl rfl (HO.out.alloc _) (k : Int) rfl (Box.at_ _ [.int .i64 (k : Int)] _ ?_) (intE_one _) ?_ (by decide) ?_ ?_; (focus (first | omega | (simp only [World.size_alloc]; done) | (simp only [World.size_alloc]; omega) | (simp; done) | (simp; omega))); (focus (first | omega | (simp only [World.size_alloc]; done) | (simp only [World.size_alloc]; omega) | (simp; done) | (simp; omega))); (focus (first | omega | (simp only [World.size_alloc]; done) | (simp only [World.size_alloc]; omega) | (simp; done) | (simp; omega))); intro A2 c2 w2 ho2 hg2 hb2))))
          go_roundw
          case rel =>
            refine ⟨k + 1, A2, m + 1, c2, by omega, by go_num, by go_num, ?_, (hb.alloc (by omega) _).trans hb2⟩
            rw [pick_hit hy1]; exact ho2
          case measure => simp [intOf]; omega
      · obtain rfl : k = N := by omega
        rw [Int.toNat_natCast] at hR
        rw [← hR.out] at ho
        obtain rfl := ho.len
        go_wp2
        go_ret2
        exact ⟨_, _, rfl, ho.base_le (by omega), by omega, (b0.trans (hb1.mono (by simp))).trans (hb.mono (by omega))⟩
theorem Try.elBool : ElemOk Try.prog 94 4 (.bool false) 1 1 := ⟨Try.underlying94, by kernel_rfl, rfl, by decide⟩
set_option maxRecDepth 100000 in
theorem impl_ExtraIn {A : Option Addr} {n c : Nat} {l : List Int} {s x : Int} {w : World} (hn : l.length = n) (h : Ints w A l) (hz : n ≤ 16777216) :
    Calls Try.prog 37 #[.int .i64 s, .agg #[.slice A n c, .int .i64 x]] w fun e w' => ∃ A' c', e = .returned (.tuple #[.slice A' (extraR s l).length c', .bool (extraOk s l)]) ∧
      Owned intE 1 3 w' w.heap.size A' (extraR s l).length c' (extraR s l) ∧ (extraR s l).length ≤ 16777216 ∧ Below w.heap.size w w' := by
  have E : Hid (extraOk s l = (inB s 0 60 && (decide (l.length ≤ 60) && allIn l (-1) (s - 1)))) := rfl
  have b0 : Below w.heap.size w (w.alloc (.cells #[.slice A n c, .int .i64 x] 37)) := by (repeat' (first | (with_reducible exact Below.refl _ _) | (with_reducible assumption) | (with_reducible refine below_drewN ?_ _) | (with_reducible refine Below.drew ?_) | (with_reducible refine below_alloc ?_ _) | (with_reducible refine Below.alloc ?_ ?_ _) | (with_reducible refine Below.setCell ?_ ?_ _) | (with_reducible refine below_go ?_ (by with_reducible assumption)) | (with_reducible refine below_then (by with_reducible assumption) ?_ ?_) | go_size))
  rcases h1 : inB s 0 60
  · have e0 : extraOk s l = false := by rw [E.out, h1]; rfl
    rw [extraR_f e0, e0]
    clear e0
    go_in
    go_wp2_with (first | (go_at_call 71; refine (impl_within _ _ _ _).mono ?_; rintro e w' ⟨rfl, rfl⟩))
    go_ret2
    exact ⟨none, 0, rfl, Owned.nil intE_len _ _ _, by decide, b0⟩
  have hs := inB_t h1
  subst hn
  by_cases h60 : l.length ≤ 60
  · obtain ⟨N, rfl⟩ := Int.eq_ofNat_of_zero_le hs.1
    have hmk := run_make_rec (e := boolE) Try.elBool false rfl N (by omega) (by decide)
    have hb0 := Lib.hid b0
    have H := Lib.hid h
    clear b0 h
    go_in
    go_wp2_with (first | (go_at_call 71; refine (impl_within _ _ _ _).mono ?_; rintro e w' ⟨rfl, rfl⟩))
    clear hmk
    go_loopw [26] (fun i wr => ∃ (k : Nat) (bl : List Bool), k ≤ l.length ∧ i = .int .i64 k ∧ Hid (∀ j, j < k → ∃ x, l[j]? = some x ∧ inB x (-1) ((N : Int) - 1) = true) ∧ Hid (∀ j, j < N → bl[j]? = some ((l.take k).any fun y => y == (j : Int))) ∧
      Owned boolE 1 4 wr (w.heap.size + 1) (some ⟨w.heap.size + 1, 0, none⟩) N N bl ∧ Below (w.heap.size + 1) (w.alloc (.cells #[.slice A l.length c, .int .i64 x] 37)) wr) (fun i _ => l.length - (intOf i).toNat)
    case atStart =>
      refine ⟨0, List.replicate N false, Nat.zero_le _, rfl, Lib.hid (fun j hj => absurd hj (by omega)), Lib.hid (fun j hj => by simp [hj]), ?_, (Below.refl _ _).alloc (by simp) _⟩
      · have q := Owned.made (e := boolE) (s := 1) (base := w.heap.size + 1) boolE_len (w.alloc (.cells #[.slice A l.length c, .int .i64 x] 37)) 4 false N (by omega) (by simp)
        rw [Nat.mul_one, World.size_alloc] at q
        exact q
    case round =>
      obtain ⟨k, bl, hk, rfl, HK, HB, ho, hb⟩ := hrel
      have hsz := hb.size
      simp only [World.size_alloc] at hsz
      by_cases hlt : k < l.length
      · obtain ⟨b3, o3, y, rfl, hbb, hy, hc⟩ := (H.out.below (hb0.out.trans (hb.mono (by omega))) (Nat.le_refl _)).at_int hlt
        have HY := Lib.hid hy
        have HO := Lib.hid ho
        clear hy ho
        rcases hin : inB y (-1) ((N : Int) - 1)
        · have e0 := Lib.hid (show extraOk (N : Int) l = false by rw [E.out, allIn_bad HY.out hin]; simp)
          go_wp2_with (go_at_call 71; refine (impl_within _ _ _ _).mono ?_; rintro e w' ⟨rfl, rfl⟩)
          go_ret2
          rw [extraR_f e0.out, e0.out]
          exact ⟨none, 0, rfl, Owned.nil intE_len _ _ _, by decide, hb0.out.trans (hb.mono (by omega))⟩
        have hyb := inB_t hin
        by_cases hy0 : 0 ≤ y
        · obtain ⟨j, rfl⟩ := Int.eq_ofNat_of_zero_le hy0
          have hj : j < N := by omega
          obtain ⟨v, hv⟩ := some_of_lt (l := bl) (k := j) (by rw [HO.out.len]; exact hj)
          obtain ⟨g', eg, _, _, hcell, hfz⟩ := HO.out.at_ (by omega)
          injection eg with eg
          injection eg with eg
          subst eg
          have old0 := hcell j v 0 _ hv rfl
          have fz0 := hfz (j * 1 + 0)
          simp only [Nat.mul_one, Nat.add_zero] at old0 fz0
          have HV := Lib.hid hv
          clear hcell hfz hv
          go_wp2_with (go_at_call 71; refine (impl_within _ _ _ _).mono ?_; rintro e w' ⟨rfl, rfl⟩)
          go_roundw
          case rel =>
            have p0 := (HO.out.put (j := 0) (x := true) (u := .bool true) HV.out (by decide) rfl).1
            simp only [Nat.mul_one, Nat.add_zero] at p0
            refine ⟨k + 1, bl.set j true, by omega, by go_num, Lib.hid (upto_succ HK.out ⟨_, HY.out, hin⟩), Lib.hid (fun q hq => ?_), p0, hb.setCell (by simp) _⟩
            rw [take_succ_some HY.out, List.any_append]
            by_cases e : q = j
            · subst e
              rw [List.getElem?_set_self (by rw [HO.out.len]; exact hj)]
              simp
            · rw [List.getElem?_set_ne (fun e1 => e e1.symm), HB.out q hq]
              have : ((j : Int) == (q : Int)) = false := by simp; omega
              simp [this]
          case measure => simp [intOf]; omega
        · go_wp2_with (go_at_call 71; refine (impl_within _ _ _ _).mono ?_; rintro e w' ⟨rfl, rfl⟩)
          go_roundw
          case rel =>
            refine ⟨k + 1, bl, by omega, by go_num, Lib.hid (upto_succ HK.out ⟨_, HY.out, hin⟩), Lib.hid (fun q hq => ?_), HO.out, hb⟩
            rw [take_succ_some HY.out, List.any_append, HB.out q hq]
            have : (y == (q : Int)) = false := by simp; omega
            simp [this]
          case measure => simp [intOf]; omega
      · have e0 := Lib.hid (show extraOk (N : Int) l = true by rw [E.out, h1, decide_eq_true h60, allIn_good (fun j hj => HK.out j (by omega))]; rfl)
        have hR := Lib.hid (extraR_t e0.out)
        have HB2 : Hid (∀ j, j < N → bl[j]? = some (!notIn l j)) := Lib.hid fun j hj => by
          rw [HB.out j hj, List.take_of_length_le (by omega)]; simp [notIn]
        have HO := Lib.hid ho
        have HBW := Lib.hid hb
        have sz1 := (ho.at_own).2
        obtain ⟨wo, hwo⟩ : ∃ wo, wo = wr := ⟨_, rfl⟩
        rw [← hwo] at HO HBW sz1 hsz ⊢
        clear ho hb hwo HB HK
        go_wp2
        go_loopw [9, 44] (fun v i wr => ∃ (q : Nat) (A' : Option Addr) (m c' : Nat), q ≤ N ∧ i = .int .i64 q ∧ v = .slice A' m c' ∧ Owned intE 1 3 wr wo.heap.size A' m c' (pick (notIn l) q) ∧ Below wo.heap.size wo wr) (fun _ i _ => N - (intOf i).toNat)
        case atStart => exact ⟨0, _, _, _, Nat.zero_le _, rfl, rfl, Owned.empty intE_len _ _ (Nat.le_refl _), by (repeat' (first | (with_reducible exact Below.refl _ _) | (with_reducible assumption) | (with_reducible refine below_drewN ?_ _) | (with_reducible refine Below.drew ?_) | (with_reducible refine below_alloc ?_ _) | (with_reducible refine Below.alloc ?_ ?_ _) | (with_reducible refine Below.setCell ?_ ?_ _) | (with_reducible refine below_go ?_ (by with_reducible assumption)) | (with_reducible refine below_then (by with_reducible assumption) ?_ ?_) | go_size))⟩
        case round =>
          obtain ⟨q, A', m, c', hq, rfl, rfl, ho, hb⟩ := hrel
          have hml : m ≤ q := by
            have := pick_len (notIn l) q
            rw [ho.len] at this
            omega
          have hsz2 := hb.size
          by_cases hlt : q < N
          · have hv := HB2.out q hlt
            obtain ⟨b5, o5, v', e5, hbb5, hv', hc5⟩ := (HO.out.recs.up hb).at_bool (k := q) (by rw [HO.out.len]; exact hlt)
            injection e5 with e5
            injection e5 with e5 e6
            subst e5 e6
            rw [hv] at hv'
            injection hv' with hv'
            subst hv'
            rw [Nat.zero_add] at hc5
            have HOO := Lib.hid ho
            clear hv ho
            rcases hy1 : notIn l q
            · rw [hy1] at hc5
              go_wp2
              go_roundw
              case rel => exact ⟨q + 1, A', m, c', by omega, by go_num, rfl, by rw [pick_miss hy1]; exact HOO.out, hb⟩
              case measure => simp [intOf]; omega
            · rw [hy1] at hc5
              go_wp2_with (first | (at_builtin; go_must ((refine wpList_append_rec Try.elInt rfl (.tmp 51) (.tmp 53) rfl rfl (HOO.out.alloc _) (q : Int) rfl (Box.at_ _ [.int .i64 (q : Int)] _ ?_) (intE_one _) ?_ (by decide) ?_ ?_; (focus (first | omega | (simp only [World.size_alloc]; done) | (simp only [World.size_alloc]; omega) | (simp; done) | (simp; omega))); (focus (first | omega | (simp only [World.size_alloc]; done) | (simp only [World.size_alloc]; omega) | (simp; done) | (simp; omega))); (focus (first | omega | (simp only [World.size_alloc]; done) | (simp only [World.size_alloc]; omega) | (simp; done) | (simp; omega))); intro A2 c2 w2 ho2 hg2 hb2))))
              go_roundw
              case rel =>
                refine ⟨q + 1, A2, m + 1, c2, by omega, by go_num, by go_num, ?_, (hb.alloc hsz2 _).trans hb2⟩
                rw [pick_hit hy1]; exact ho2
              case measure => simp [intOf]; omega
          · obtain rfl : q = N := by omega
            have hpl := pick_len (notIn l) q
            rw [Int.toNat_natCast] at hR
            rw [← hR.out] at ho hpl
            obtain rfl := ho.len
            go_wp2
            go_ret2
            rw [e0.out]
            exact ⟨_, _, rfl, ho.base_le (by omega), by omega, hb0.out.trans ((HBW.out.mono (by omega)).trans (hb.mono (by omega)))⟩
  · have e0 : extraOk s l = false := by rw [E.out, decide_eq_false h60]; simp
    rw [extraR_f e0, e0]
    clear e0
    go_in
    go_wp2_with (first | (go_at_call 71; refine (impl_within _ _ _ _).mono ?_; rintro e w' ⟨rfl, rfl⟩))
    go_ret2
    exact ⟨none, 0, rfl, Owned.nil intE_len _ _ _, by decide, b0⟩
end Go.Proofs.Ytnoipbldgondiaa
