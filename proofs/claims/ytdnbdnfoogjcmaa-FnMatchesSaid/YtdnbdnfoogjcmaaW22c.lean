/- The walks through alignments and their cost, both sides. -/
import Derived.Test.YtdnbdnfoogjcmaaW22
import Derived.Test.YtdnbdnfoogjcmaaW23
import Derived.Test.YtdnbdnfoogjcmaaP22
namespace Go.Proofs.Ytdnbdnfoogjcmaa
set_option linter.unusedVariables false
set_option linter.unusedSimpArgs false
open Go.ChangeShapes Go.WideShapes Go.ChangeAt Go.RowKit Go.Deep

theorem impl_goodMatching {A B : Option Addr} {n m c d : Nat} {l k : List Int} {s : Int} {w : World} (hn : l.length = n) (hm : k.length = m) (h : Ints w A l) (g : Ints w B k) (hz : n ≤ 16777216) (hz' : m ≤ 16777216) :
    Calls Try.prog 35 #[.slice A n c, .slice B m d, .int .i64 s] w fun e w' => e = .returned (.bool (askedM l k s)) ∧ w = w' := by
  have E : Hid (askedM l k s = (goodTimes l && goodTimes k && inB s 0 10000)) := rfl
  rcases h1 : goodTimes l
  · go_in
    go_wp2_with fail
    refine (impl_GoodTimes hn h hz).mono ?_; rintro e w' ⟨rfl, rfl⟩
    rw [h1]
    go_wp2
    go_ret
    exact ⟨ret_bool (by rw [E.out, h1]; rfl), rfl⟩
  rcases h2 : goodTimes k
  · go_in
    go_wp2_with fail
    refine (impl_GoodTimes hn h hz).mono ?_; rintro e w' ⟨rfl, rfl⟩
    rw [h1]
    go_wp2_with fail
    refine (impl_GoodTimes hm g hz').mono ?_; rintro e w' ⟨rfl, rfl⟩
    rw [h2]
    go_wp2
    go_ret
    exact ⟨ret_bool (by rw [E.out, h1, h2]; rfl), rfl⟩
  · go_in
    go_wp2_with fail
    refine (impl_GoodTimes hn h hz).mono ?_; rintro e w' ⟨rfl, rfl⟩
    rw [h1]
    go_wp2_with fail
    refine (impl_GoodTimes hm g hz').mono ?_; rintro e w' ⟨rfl, rfl⟩
    rw [h2]
    go_wp2_with (go_at_call 53; refine (impl_within _ _ _ _).mono ?_; rintro e w' ⟨rfl, rfl⟩)
    go_ret
    exact ⟨ret_bool (by rw [E.out, h1, h2]; simp), rfl⟩
set_option maxRecDepth 100000 in
theorem impl_isAlignment {A B C : Option Addr} {n m q c d f : Nat} {l : List Int} {w : World} (hq : l.length = q) (h : Ints w C l) (hn : n ≤ 16777216) (hm : m ≤ 16777216) (hz : q ≤ 16777216) (hb : ∀ x ∈ l, -9223372036854775808 ≤ x ∧ x ≤ 9223372036854775807) :
    Calls Try.prog 36 #[.slice A n c, .slice B m d, .slice C q f] w fun e w' => e = .returned (.bool (wayB n m l)) ∧ w = w' := by
  subst hq
  have E : Hid (wayB n m l = (wayGo m (-1) l && decide (l.length = n))) := rfl
  have HB := Lib.hid hb
  clear hb
  go_in
  go_wp2
  go_loop [7, 12] (fun a i => ∃ (k : Nat) (last : Int), k ≤ l.length ∧ i = .int .i64 k ∧ a = .int .i64 last ∧ -1 ≤ last ∧ last ≤ 16777216 ∧ Hid (wayGo m (-1) l = wayGo m last (l.drop k))) (fun _ i => l.length - (intOf i).toNat)
  case atStart => exact ⟨0, -1, Nat.zero_le _, rfl, rfl, by omega, by omega, Lib.hid (by simp)⟩
  case round =>
    obtain ⟨k, last, hk, rfl, rfl, hl0, hl1, HW⟩ := hrel
    by_cases hlt : k < l.length
    · obtain ⟨b1, o1, x, rfl, hbb, hx, hc⟩ := h.at_int hlt
      have hxb := HB.out x (List.mem_of_getElem? hx)
      have D := Lib.hid (drop_some hx)
      have HX := Lib.hid hx
      clear hx h
      by_cases h1 : x = -1
      · have h1' : (x == -1) = true := by rw [h1]; rfl
        have H1 := Lib.hid h1
        clear h1
        go_wp2
        go_round
        case rel => exact ⟨k + 1, last, by omega, by go_num, rfl, by omega, by omega, Lib.hid (by rw [HW.out, D.out, wayGo_skip H1.out])⟩
        case measure => simp [intOf]; omega
      · have h1' : (x == -1) = false := by simp [h1]
        have H1 := Lib.hid h1
        clear h1
        by_cases h2 : x ≤ last
        · go_wp2
          go_ret
          refine ⟨ret_bool ?_, rfl⟩
          rw [E.out, HW.out, D.out, wayGo_bad H1.out (.inl h2)]; rfl
        · by_cases h3 : (m : Int) ≤ x
          · go_wp2
            go_ret
            refine ⟨ret_bool ?_, rfl⟩
            rw [E.out, HW.out, D.out, wayGo_bad H1.out (.inr h3)]; rfl
          · go_wp2
            go_round
            case rel => exact ⟨k + 1, x, by omega, by go_num, rfl, by omega, by omega, Lib.hid (by rw [HW.out, D.out, wayGo_go H1.out (by omega)])⟩
            case measure => simp [intOf]; omega
    · have e1 := Lib.hid (show wayB n m l = decide (l.length = n) by rw [E.out, HW.out, List.drop_of_length_le (by omega), wayGo_nil]; rfl)
      by_cases hln : l.length = n
      · have hln' : ((l.length : Int) == (n : Int)) = true := by rw [hln]; simp
        have HN := Lib.hid hln
        clear hln
        go_wp2
        go_ret
        exact ⟨ret_bool (by rw [e1.out]; simp [HN.out]), rfl⟩
      · have hln' : ((l.length : Int) == (n : Int)) = false := by simp; omega
        have HN := Lib.hid hln
        clear hln
        go_wp2
        go_ret
        exact ⟨ret_bool (by rw [e1.out]; simp [HN.out]), rfl⟩
set_option maxRecDepth 100000 in
theorem impl_costOf {A B C : Option Addr} {n m q c d f : Nat} {a b l : List Int} {s : Int} {w : World} (hn : a.length = n) (hm : b.length = m) (hq : l.length = q) (h : Ints w A a) (g : Ints w B b) (t : Ints w C l) (ha : askedM a b s = true) (hw : wayB n m l = true) :
    Calls Try.prog 37 #[.slice A n c, .slice B m d, .slice C q f, .int .i64 s] w fun e w' => e = .returned (.int .i64 (costZ a b l s)) ∧ Below w.heap.size w w' := by
  subst hn hm hq
  obtain ⟨⟨a1, a2⟩, ⟨b1, b2⟩, s1, s2⟩ := askedM_t ha
  obtain ⟨w1, w2⟩ := wayB_t hw
  have HA := Lib.hid a2; have HB := Lib.hid b2; have HW := Lib.hid w2; have W1 := Lib.hid w1
  have wl : l.length ≤ 60 := by omega
  clear a2 b2 w2 w1
  go_in
  go_wp2
  go_loopw [9, 10, 17] (fun p q i wr => ∃ k : Nat, k ≤ l.length ∧ i = .int .i64 k ∧ p = .int .i64 (sumTo (costAt a b l s) k) ∧ q = .int .i64 ((b.length : Int) - sumTo (hitAt l) k) ∧ Below w.heap.size w wr) (fun _ _ i _ => l.length - (intOf i).toNat)
  case atStart => exact ⟨0, Nat.zero_le _, rfl, rfl, by simp [sumTo], by (repeat' (first | (with_reducible exact Below.refl _ _) | (with_reducible assumption) | (with_reducible refine below_drewN ?_ _) | (with_reducible refine Below.drew ?_) | (with_reducible refine below_alloc ?_ _) | (with_reducible refine Below.alloc ?_ ?_ _) | (with_reducible refine Below.setCell ?_ ?_ _) | (with_reducible refine below_go ?_ (by with_reducible assumption)) | (with_reducible refine below_then (by with_reducible assumption) ?_ ?_) | go_size))⟩
  case round =>
    obtain ⟨k, hk, rfl, rfl, rfl, hb⟩ := hrel
    have cb := cost_bd ha hw hk
    have hbd := hit_bd l k
    obtain ⟨p, hp⟩ : ∃ p, p = sumTo (costAt a b l s) k := ⟨_, rfl⟩
    obtain ⟨q, hq⟩ : ∃ q, q = sumTo (hitAt l) k := ⟨_, rfl⟩
    rw [← hp] at cb ⊢
    rw [← hq] at hbd ⊢
    have HP := Lib.hid hp; have HQ := Lib.hid hq
    clear hp hq
    by_cases hlt : k < l.length
    · have cs := cost_step_bd ha hw hlt
      obtain ⟨b3, o3, x, rfl, hbb, hx, hc⟩ := (t.below hb (Nat.le_refl _)).at_int hlt
      have hxm := HW.out x (List.mem_of_getElem? hx)
      by_cases h0 : x < 0
      · have CN := Lib.hid (costAt_neg (ideal := a) (struck := b) (skip := s) hx h0)
        clear h g t hx cs hxm
        go_wp2
        go_roundw
        case rel => exact ⟨k + 1, by omega, by go_num, by rw [sumTo, CN.out.1, ← HP.out], by rw [sumTo, CN.out.2, ← HQ.out]; go_num, by (repeat' (first | (with_reducible exact Below.refl _ _) | (with_reducible assumption) | (with_reducible refine below_drewN ?_ _) | (with_reducible refine Below.drew ?_) | (with_reducible refine below_alloc ?_ _) | (with_reducible refine Below.alloc ?_ ?_ _) | (with_reducible refine Below.setCell ?_ ?_ _) | (with_reducible refine below_go ?_ (by with_reducible assumption)) | (with_reducible refine below_then (by with_reducible assumption) ?_ ?_) | go_size))⟩
        case measure => simp [intOf]; omega
      · obtain ⟨j, rfl⟩ := Int.eq_ofNat_of_zero_le (show 0 ≤ x by omega)
        have hj : j < b.length := by omega
        have hka : k < a.length := by have := W1.out; omega
        obtain ⟨b4, o4, y, rfl, hbb4, hy, hc4⟩ := (h.below hb (Nat.le_refl _)).at_int hka
        obtain ⟨b5, o5, z, rfl, hbb5, hz, hc5⟩ := (g.below hb (Nat.le_refl _)).at_int hj
        have CN := Lib.hid (costAt_pos (skip := s) hx h0 hy (by rw [Int.toNat_natCast]; exact hz))
        rw [CN.out.1] at cs
        have hyb := HA.out y (List.mem_of_getElem? hy)
        have hzb := HB.out z (List.mem_of_getElem? hz)
        clear h g t hx hy hz hxm
        go_wp2
        go_quiet ((go_at_call 46; exact quiet_left (impl_abs _ _ (by omega))))
        go_wp2
        go_roundw
        case rel => exact ⟨k + 1, by omega, by go_num, by rw [sumTo, CN.out.1, ← HP.out], by rw [sumTo, CN.out.2, ← HQ.out]; go_num, by (repeat' (first | (with_reducible exact Below.refl _ _) | (with_reducible assumption) | (with_reducible refine below_drewN ?_ _) | (with_reducible refine Below.drew ?_) | (with_reducible refine below_alloc ?_ _) | (with_reducible refine Below.alloc ?_ ?_ _) | (with_reducible refine Below.setCell ?_ ?_ _) | (with_reducible refine below_go ?_ (by with_reducible assumption)) | (with_reducible refine below_then (by with_reducible assumption) ?_ ?_) | go_size))⟩
        case measure => simp [intOf]; omega
    · have hpr : 0 ≤ ((b.length : Int) - q + 60) * s ∧ ((b.length : Int) - q + 60) * s ≤ 1200000 := by
        refine ⟨Int.mul_nonneg (by omega) s1, ?_⟩
        exact Int.le_trans (Int.mul_le_mul (show (b.length : Int) - q + 60 ≤ 120 by omega) s2 s1 (by omega)) (by decide)
      have hpr2 : ((b.length : Int) - q + 60) * s = ((b.length : Int) - q) * s + 60 * s := by rw [Int.add_mul]
      have hpr3 : -600000 ≤ ((b.length : Int) - q) * s ∧ ((b.length : Int) - q) * s ≤ 1200000 := by omega
      clear hpr hpr2
      go_wp2
      go_ret
      obtain rfl : k = l.length := by omega
      refine ⟨ret_int ?_, by (repeat' (first | (with_reducible exact Below.refl _ _) | (with_reducible assumption) | (with_reducible refine below_drewN ?_ _) | (with_reducible refine Below.drew ?_) | (with_reducible refine below_alloc ?_ _) | (with_reducible refine Below.alloc ?_ ?_ _) | (with_reducible refine Below.setCell ?_ ?_ _) | (with_reducible refine below_go ?_ (by with_reducible assumption)) | (with_reducible refine below_then (by with_reducible assumption) ?_ ?_) | go_size))⟩
      rw [costZ, ← HP.out, ← HQ.out]
theorem impl_CostOf {A B C : Option Addr} {n m q c d f : Nat} {a b l : List Int} {s : Int} {w : World} (hn : a.length = n) (h : Ints w A a) (hz : n ≤ 1048576) (hm : b.length = m) (g : Ints w B b) (hz' : m ≤ 1048576) (hq : l.length = q) (t : Ints w C l) (hzq : q ≤ 1048576) (hbd : ∀ x ∈ l, -9223372036854775808 ≤ x ∧ x ≤ 9223372036854775807) :
    Calls Try.prog 7 #[.slice A n c, .slice B m d, .slice C q f, .int .i64 s] w fun e w' => e = .returned (.tuple #[.int .i64 (costV a b l s), .bool (costOk a b l s)]) ∧ Below w.heap.size w w' := by
  subst hn hm hq
  have E : Hid (costOk a b l s = (askedM a b s && wayB a.length b.length l)) := rfl
  rcases h1 : askedM a b s
  · have e0 : costOk a b l s = false := by rw [E.out, h1]; rfl
    rw [costV_f e0, e0]
    clear e0
    go_in
    go_wp2_with (first | (go_at_call 35; refine (impl_goodMatching rfl rfl h g (by omega) (by omega)).mono ?_; rintro e w' ⟨rfl, rfl⟩))
    go_ret2
    exact ⟨rfl, by (repeat' (first | (with_reducible exact Below.refl _ _) | (with_reducible assumption) | (with_reducible refine below_drewN ?_ _) | (with_reducible refine Below.drew ?_) | (with_reducible refine below_alloc ?_ _) | (with_reducible refine Below.alloc ?_ ?_ _) | (with_reducible refine Below.setCell ?_ ?_ _) | (with_reducible refine below_go ?_ (by with_reducible assumption)) | (with_reducible refine below_then (by with_reducible assumption) ?_ ?_) | go_size))⟩
  rcases h2 : wayB a.length b.length l
  · have e0 : costOk a b l s = false := by rw [E.out, h1, h2]; rfl
    rw [costV_f e0, e0]
    clear e0
    go_in
    go_wp2_with (first | (go_at_call 35; refine (impl_goodMatching rfl rfl h g (by omega) (by omega)).mono ?_; rintro e w' ⟨rfl, rfl⟩) | (go_at_call 36; refine (impl_isAlignment rfl t (by omega) (by omega) (by omega) hbd).mono ?_; rintro e w' ⟨rfl, rfl⟩))
    go_ret2
    exact ⟨rfl, by (repeat' (first | (with_reducible exact Below.refl _ _) | (with_reducible assumption) | (with_reducible refine below_drewN ?_ _) | (with_reducible refine Below.drew ?_) | (with_reducible refine below_alloc ?_ _) | (with_reducible refine Below.alloc ?_ ?_ _) | (with_reducible refine Below.setCell ?_ ?_ _) | (with_reducible refine below_go ?_ (by with_reducible assumption)) | (with_reducible refine below_then (by with_reducible assumption) ?_ ?_) | go_size))⟩
  · have e0 : costOk a b l s = true := by rw [E.out, h1, h2]; rfl
    rw [costV_t e0, e0]
    clear e0
    go_in
    go_wp2_with (first | (go_at_call 35; refine (impl_goodMatching rfl rfl h g (by omega) (by omega)).mono ?_; rintro e w' ⟨rfl, rfl⟩) | (go_at_call 36; refine (impl_isAlignment rfl t (by omega) (by omega) (by omega) hbd).mono ?_; rintro e w' ⟨rfl, rfl⟩) | (go_at_call 37; refine (impl_costOf rfl rfl rfl h g t h1 h2).mono ?_; rintro e w1 ⟨rfl, hb⟩))
    go_ret2
    exact ⟨rfl, hb⟩
theorem spec_l22Asked {A B : Option Addr} {n m c d : Nat} {l k : List Int} {s : Int} {w : World} (hn : l.length = n) (hm : k.length = m) (h : Ints w A l) (g : Ints w B k) (hz : n ≤ 16777216) (hz' : m ≤ 16777216) :
    Calls Try.prog 38 #[.slice A n c, .slice B m d, .int .i64 s] w fun e w' => e = .returned (.bool (askedM l k s)) ∧ w = w' := by
  have E : Hid (askedM l k s = (goodTimes l && goodTimes k && inB s 0 10000)) := rfl
  rcases h1 : goodTimes l
  · go_in
    go_wp2_with fail
    refine (spec_l22Times hn h hz).mono ?_; rintro e w' ⟨rfl, rfl⟩
    rw [h1]
    go_wp2
    go_ret
    exact ⟨ret_bool (by rw [E.out, h1]; rfl), rfl⟩
  rcases h2 : goodTimes k
  · go_in
    go_wp2_with fail
    refine (spec_l22Times hn h hz).mono ?_; rintro e w' ⟨rfl, rfl⟩
    rw [h1]
    go_wp2_with fail
    refine (spec_l22Times hm g hz').mono ?_; rintro e w' ⟨rfl, rfl⟩
    rw [h2]
    go_wp2
    go_ret
    exact ⟨ret_bool (by rw [E.out, h1, h2]; rfl), rfl⟩
  · go_in
    go_wp2_with fail
    refine (spec_l22Times hn h hz).mono ?_; rintro e w' ⟨rfl, rfl⟩
    rw [h1]
    go_wp2_with fail
    refine (spec_l22Times hm g hz').mono ?_; rintro e w' ⟨rfl, rfl⟩
    rw [h2]
    go_wp2_with (go_at_call 57; refine (spec_l1In _ _ _ _).mono ?_; rintro e w' ⟨rfl, rfl⟩)
    go_ret
    exact ⟨ret_bool (by rw [E.out, h1, h2]; simp), rfl⟩
set_option maxRecDepth 100000 in
theorem spec_l22Way {A B C : Option Addr} {n m q c d f : Nat} {l : List Int} {w : World} (hq : l.length = q) (h : Ints w C l) (hn : n ≤ 16777216) (hm : m ≤ 16777216) (hz : q ≤ 16777216) (hb : ∀ x ∈ l, -9223372036854775808 ≤ x ∧ x ≤ 9223372036854775807) :
    Calls Try.prog 39 #[.slice A n c, .slice B m d, .slice C q f] w fun e w' => e = .returned (.bool (wayB n m l)) ∧ w = w' := by
  subst hq
  have E : Hid (wayB n m l = (wayGo m (-1) l && decide (l.length = n))) := rfl
  have HB := Lib.hid hb
  clear hb
  go_in
  go_wp2
  go_loop [7, 12] (fun a i => ∃ (k : Nat) (last : Int), k ≤ l.length ∧ i = .int .i64 k ∧ a = .int .i64 last ∧ -1 ≤ last ∧ last ≤ 16777216 ∧ Hid (wayGo m (-1) l = wayGo m last (l.drop k))) (fun _ i => l.length - (intOf i).toNat)
  case atStart => exact ⟨0, -1, Nat.zero_le _, rfl, rfl, by omega, by omega, Lib.hid (by simp)⟩
  case round =>
    obtain ⟨k, last, hk, rfl, rfl, hl0, hl1, HW⟩ := hrel
    by_cases hlt : k < l.length
    · obtain ⟨b1, o1, x, rfl, hbb, hx, hc⟩ := h.at_int hlt
      have hxb := HB.out x (List.mem_of_getElem? hx)
      have D := Lib.hid (drop_some hx)
      have HX := Lib.hid hx
      clear hx h
      by_cases h1 : x = -1
      · have h1' : (x == -1) = true := by rw [h1]; rfl
        have H1 := Lib.hid h1
        clear h1
        go_wp2
        go_round
        case rel => exact ⟨k + 1, last, by omega, by go_num, rfl, by omega, by omega, Lib.hid (by rw [HW.out, D.out, wayGo_skip H1.out])⟩
        case measure => simp [intOf]; omega
      · have h1' : (x == -1) = false := by simp [h1]
        have H1 := Lib.hid h1
        clear h1
        by_cases h2 : x ≤ last
        · go_wp2
          go_ret
          refine ⟨ret_bool ?_, rfl⟩
          rw [E.out, HW.out, D.out, wayGo_bad H1.out (.inl h2)]; rfl
        · by_cases h3 : (m : Int) ≤ x
          · go_wp2
            go_ret
            refine ⟨ret_bool ?_, rfl⟩
            rw [E.out, HW.out, D.out, wayGo_bad H1.out (.inr h3)]; rfl
          · go_wp2
            go_round
            case rel => exact ⟨k + 1, x, by omega, by go_num, rfl, by omega, by omega, Lib.hid (by rw [HW.out, D.out, wayGo_go H1.out (by omega)])⟩
            case measure => simp [intOf]; omega
    · have e1 := Lib.hid (show wayB n m l = decide (l.length = n) by rw [E.out, HW.out, List.drop_of_length_le (by omega), wayGo_nil]; rfl)
      by_cases hln : l.length = n
      · have hln' : ((l.length : Int) == (n : Int)) = true := by rw [hln]; simp
        have HN := Lib.hid hln
        clear hln
        go_wp2
        go_ret
        exact ⟨ret_bool (by rw [e1.out]; simp [HN.out]), rfl⟩
      · have hln' : ((l.length : Int) == (n : Int)) = false := by simp; omega
        have HN := Lib.hid hln
        clear hln
        go_wp2
        go_ret
        exact ⟨ret_bool (by rw [e1.out]; simp [HN.out]), rfl⟩
set_option maxRecDepth 100000 in
theorem spec_l22Cost {A B C : Option Addr} {n m q c d f : Nat} {a b l : List Int} {s : Int} {w : World} (hn : a.length = n) (hm : b.length = m) (hq : l.length = q) (h : Ints w A a) (g : Ints w B b) (t : Ints w C l) (ha : askedM a b s = true) (hw : wayB n m l = true) :
    Calls Try.prog 40 #[.slice A n c, .slice B m d, .slice C q f, .int .i64 s] w fun e w' => e = .returned (.int .i64 (costZ a b l s)) ∧ Below w.heap.size w w' := by
  subst hn hm hq
  obtain ⟨⟨a1, a2⟩, ⟨b1, b2⟩, s1, s2⟩ := askedM_t ha
  obtain ⟨w1, w2⟩ := wayB_t hw
  have HA := Lib.hid a2; have HB := Lib.hid b2; have HW := Lib.hid w2; have W1 := Lib.hid w1
  have wl : l.length ≤ 60 := by omega
  clear a2 b2 w2 w1
  have ms : (b.length : Int) * s ≤ 600000 := Int.le_trans (Int.mul_le_mul (show (b.length : Int) ≤ 60 by omega) s2 s1 (by omega)) (by decide)
  have ms0 : 0 ≤ (b.length : Int) * s := Int.mul_nonneg (by omega) s1
  rw [Int.mul_comm] at ms ms0
  go_in
  go_wp2
  go_loopw [9, 18] (fun p i wr => ∃ k : Nat, k ≤ l.length ∧ i = .int .i64 k ∧ p = .int .i64 (s * (b.length : Int) + sumTo (fun i => costAt a b l s i - hitAt l i * s) k) ∧ Below w.heap.size w wr) (fun _ i _ => l.length - (intOf i).toNat)
  case atStart => exact ⟨0, Nat.zero_le _, rfl, by simp [sumTo], by (repeat' (first | (with_reducible exact Below.refl _ _) | (with_reducible assumption) | (with_reducible refine below_drewN ?_ _) | (with_reducible refine Below.drew ?_) | (with_reducible refine below_alloc ?_ _) | (with_reducible refine Below.alloc ?_ ?_ _) | (with_reducible refine Below.setCell ?_ ?_ _) | (with_reducible refine below_go ?_ (by with_reducible assumption)) | (with_reducible refine below_then (by with_reducible assumption) ?_ ?_) | go_size))⟩
  case round =>
    obtain ⟨k, hk, rfl, rfl, hb⟩ := hrel
    have cb := cost_bd ha hw hk
    have hbd := hit_bd l k
    have SC := spec_cost a b l s k
    have hpr : 0 ≤ ((b.length : Int) - sumTo (hitAt l) k + 60) * s ∧ ((b.length : Int) - sumTo (hitAt l) k + 60) * s ≤ 1200000 := by
      refine ⟨Int.mul_nonneg (by omega) s1, ?_⟩
      exact Int.le_trans (Int.mul_le_mul (show (b.length : Int) - sumTo (hitAt l) k + 60 ≤ 120 by omega) s2 s1 (by omega)) (by decide)
    rw [Int.add_mul] at hpr
    obtain ⟨p, hp⟩ : ∃ p, p = s * (b.length : Int) + sumTo (fun i => costAt a b l s i - hitAt l i * s) k := ⟨_, rfl⟩
    rw [← hp] at SC ⊢
    have pb : -600000 ≤ p ∧ p ≤ 61200000 := by omega
    have HP := Lib.hid hp
    have HS := Lib.hid SC
    clear hp hpr SC cb hbd
    by_cases hlt : k < l.length
    · have cs := cost_step_bd ha hw hlt
      obtain ⟨b3, o3, x, rfl, hbb, hx, hc⟩ := (t.below hb (Nat.le_refl _)).at_int hlt
      have hxm := HW.out x (List.mem_of_getElem? hx)
      by_cases h0 : x < 0
      · have CN := Lib.hid (costAt_neg (ideal := a) (struck := b) (skip := s) hx h0)
        clear h g t hx cs hxm
        go_wp2
        go_roundw
        case rel => exact ⟨k + 1, by omega, by go_num, by rw [sumTo, CN.out.1, CN.out.2, HP.out]; go_num, by (repeat' (first | (with_reducible exact Below.refl _ _) | (with_reducible assumption) | (with_reducible refine below_drewN ?_ _) | (with_reducible refine Below.drew ?_) | (with_reducible refine below_alloc ?_ _) | (with_reducible refine Below.alloc ?_ ?_ _) | (with_reducible refine Below.setCell ?_ ?_ _) | (with_reducible refine below_go ?_ (by with_reducible assumption)) | (with_reducible refine below_then (by with_reducible assumption) ?_ ?_) | go_size))⟩
        case measure => simp [intOf]; omega
      · obtain ⟨j, rfl⟩ := Int.eq_ofNat_of_zero_le (show 0 ≤ x by omega)
        have hj : j < b.length := by omega
        have hka : k < a.length := by have := W1.out; omega
        obtain ⟨b4, o4, y, rfl, hbb4, hy, hc4⟩ := (h.below hb (Nat.le_refl _)).at_int hka
        obtain ⟨b5, o5, z, rfl, hbb5, hz, hc5⟩ := (g.below hb (Nat.le_refl _)).at_int hj
        have CN := Lib.hid (costAt_pos (skip := s) hx h0 hy (by rw [Int.toNat_natCast]; exact hz))
        rw [CN.out.1] at cs
        have hyb := HA.out y (List.mem_of_getElem? hy)
        have hzb := HB.out z (List.mem_of_getElem? hz)
        clear h g t hx hy hz hxm
        go_wp2
        go_quiet ((go_at_call 70; exact quiet_left (spec_l22Far _ _ _ (by omega))))
        go_wp2
        go_roundw
        case rel => exact ⟨k + 1, by omega, by go_num, by rw [sumTo, CN.out.1, CN.out.2, HP.out]; go_num, by (repeat' (first | (with_reducible exact Below.refl _ _) | (with_reducible assumption) | (with_reducible refine below_drewN ?_ _) | (with_reducible refine Below.drew ?_) | (with_reducible refine below_alloc ?_ _) | (with_reducible refine Below.alloc ?_ ?_ _) | (with_reducible refine Below.setCell ?_ ?_ _) | (with_reducible refine below_go ?_ (by with_reducible assumption)) | (with_reducible refine below_then (by with_reducible assumption) ?_ ?_) | go_size))⟩
        case measure => simp [intOf]; omega
    · go_wp2
      go_ret
      obtain rfl : k = l.length := by omega
      refine ⟨ret_int ?_, by (repeat' (first | (with_reducible exact Below.refl _ _) | (with_reducible assumption) | (with_reducible refine below_drewN ?_ _) | (with_reducible refine Below.drew ?_) | (with_reducible refine below_alloc ?_ _) | (with_reducible refine Below.alloc ?_ ?_ _) | (with_reducible refine Below.setCell ?_ ?_ _) | (with_reducible refine below_go ?_ (by with_reducible assumption)) | (with_reducible refine below_then (by with_reducible assumption) ?_ ?_) | go_size))⟩
      rw [costZ]
      exact HS.out
theorem spec_CostOf {A B C : Option Addr} {n m q c d f : Nat} {a b l : List Int} {s : Int} {w : World} (hn : a.length = n) (h : Ints w A a) (hz : n ≤ 1048576) (hm : b.length = m) (g : Ints w B b) (hz' : m ≤ 1048576) (hq : l.length = q) (t : Ints w C l) (hzq : q ≤ 1048576) (hbd : ∀ x ∈ l, -9223372036854775808 ≤ x ∧ x ≤ 9223372036854775807) :
    Calls Try.prog 8 #[.slice A n c, .slice B m d, .slice C q f, .int .i64 s] w fun e w' => e = .returned (.tuple #[.int .i64 (costV a b l s), .bool (costOk a b l s)]) ∧ Below w.heap.size w w' := by
  subst hn hm hq
  have E : Hid (costOk a b l s = (askedM a b s && wayB a.length b.length l)) := rfl
  rcases h1 : askedM a b s
  · have e0 : costOk a b l s = false := by rw [E.out, h1]; rfl
    rw [costV_f e0, e0]
    clear e0
    go_in
    go_wp2_with (first | (go_at_call 38; refine (spec_l22Asked rfl rfl h g (by omega) (by omega)).mono ?_; rintro e w' ⟨rfl, rfl⟩))
    go_ret2
    exact ⟨rfl, by (repeat' (first | (with_reducible exact Below.refl _ _) | (with_reducible assumption) | (with_reducible refine below_drewN ?_ _) | (with_reducible refine Below.drew ?_) | (with_reducible refine below_alloc ?_ _) | (with_reducible refine Below.alloc ?_ ?_ _) | (with_reducible refine Below.setCell ?_ ?_ _) | (with_reducible refine below_go ?_ (by with_reducible assumption)) | (with_reducible refine below_then (by with_reducible assumption) ?_ ?_) | go_size))⟩
  rcases h2 : wayB a.length b.length l
  · have e0 : costOk a b l s = false := by rw [E.out, h1, h2]; rfl
    rw [costV_f e0, e0]
    clear e0
    go_in
    go_wp2_with (first | (go_at_call 38; refine (spec_l22Asked rfl rfl h g (by omega) (by omega)).mono ?_; rintro e w' ⟨rfl, rfl⟩) | (go_at_call 39; refine (spec_l22Way rfl t (by omega) (by omega) (by omega) hbd).mono ?_; rintro e w' ⟨rfl, rfl⟩))
    go_ret2
    exact ⟨rfl, by (repeat' (first | (with_reducible exact Below.refl _ _) | (with_reducible assumption) | (with_reducible refine below_drewN ?_ _) | (with_reducible refine Below.drew ?_) | (with_reducible refine below_alloc ?_ _) | (with_reducible refine Below.alloc ?_ ?_ _) | (with_reducible refine Below.setCell ?_ ?_ _) | (with_reducible refine below_go ?_ (by with_reducible assumption)) | (with_reducible refine below_then (by with_reducible assumption) ?_ ?_) | go_size))⟩
  · have e0 : costOk a b l s = true := by rw [E.out, h1, h2]; rfl
    rw [costV_t e0, e0]
    clear e0
    go_in
    go_wp2_with (first | (go_at_call 38; refine (spec_l22Asked rfl rfl h g (by omega) (by omega)).mono ?_; rintro e w' ⟨rfl, rfl⟩) | (go_at_call 39; refine (spec_l22Way rfl t (by omega) (by omega) (by omega) hbd).mono ?_; rintro e w' ⟨rfl, rfl⟩) | (go_at_call 40; refine (spec_l22Cost rfl rfl rfl h g t h1 h2).mono ?_; rintro e w1 ⟨rfl, hb⟩))
    go_ret2
    exact ⟨rfl, hb⟩
end Go.Proofs.Ytdnbdnfoogjcmaa
