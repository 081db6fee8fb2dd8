/- The walks through CutRows, both sides. -/
import Derived.Test.YtmlhdchglhkhiaaDoorP21c
import Derived.Test.YtmlhdchglhkhiaaDoorW21s
import Derived.Test.YtmlhdchglhkhiaaDoorWdec
import Derived.Test.YtmlhdchglhkhiaaDoorW01b
import Derived.Test.YtmlhdchglhkhiaaDoorApp2
import Derived.Test.YtmlhdchglhkhiaaDoorW6c0
namespace Go.Proofs.YtmlhdchglhkhiaaDoor
set_option linter.unusedVariables false
set_option linter.unusedSimpArgs false
open Go.ChangeShapes Go.WideShapes Go.ChangeAt Go.RowKit Go.Deep
set_option maxHeartbeats 2000000 in
set_option maxRecDepth 100000 in
theorem impl_CutRows {A : Option Addr} {n c : Nat} {l : List (Int × Int)} {N : Int} {w : World} (hn : l.length = n) (h : Recs strikeE 2 w A l) (hz : n ≤ 16777216) (hcap : n ≤ c) :
    Calls Tryd.prog 14 #[.slice A n c, .int .i64 N] w fun e w' => ∃ A' c', e = .returned (.tuple #[.slice A' (cutL l N).length c', .bool (cutOk l N)]) ∧ Owned strE 1 9 w' w.heap.size A' (cutL l N).length c' (cutL l N) ∧ (cutL l N).length ≤ 16777216 ∧ Below w.heap.size w w' := by
  subst hn
  have HQ : Hid (cutOk l N = ((goodStrikes l && inB N 3 8) && cutAll l N.toNat)) := Lib.hid rfl
  rcases h1 : goodStrikes l
  · have e2 := Lib.hid (show cutOk l N = false by rw [HQ.out, h1]; rfl)
    have e1 := Lib.hid (cutL_f e2.out)
    go_in
    go_wp2_with (first | (go_at_call 34; refine (impl_GoodStrikes rfl h hz).mono ?_; rw [h1]; rintro e w1 ⟨rfl, hb1⟩))
    go_ret2
    rw [e1.out, e2.out]
    exact ⟨none, 0, rfl, Owned.nil strE_len _ _ _, by decide, hb1⟩
  rcases h2 : inB N 3 8
  · have e2 := Lib.hid (show cutOk l N = false by rw [HQ.out, h1, h2]; rfl)
    have e1 := Lib.hid (cutL_f e2.out)
    go_in
    go_wp2_with (first | (go_at_call 34; refine (impl_GoodStrikes rfl h hz).mono ?_; rw [h1]; rintro e w1 ⟨rfl, hb1⟩) | (go_at_call 40; refine (impl_isStage _ _).mono ?_; rw [h2]; rintro e w' ⟨rfl, rfl⟩))
    go_ret2
    rw [e1.out, e2.out]
    exact ⟨none, 0, rfl, Owned.nil strE_len _ _ _, by decide, hb1⟩
  have hN := inB_t h2
  obtain ⟨m, rfl⟩ : ∃ m : Nat, N = (m : Int) := ⟨N.toNat, by omega⟩
  have hm3 : 3 ≤ m := by omega
  have hm8 : m ≤ 8 := by omega
  have HST := Lib.hid (goodStrikes_t h1)
  have hl2 := (goodStrikes_t h1).1
  have HQ2 := Lib.hid (show cutOk l (m : Int) = cutAll l m by rw [HQ.out, h1, h2]; rfl)
  clear HQ hN
  go_in
  go_wp2_with fail
  refine (impl_GoodStrikes rfl h hz).mono ?_; rw [h1]; rintro e w1 ⟨rfl, hb1⟩
  have HE := Lib.hid (Owned.empty (E := 9) strE_len w1 hb1.size)
  have HB1 := hb1
  go_wp2_with (first | (go_at_call 40; refine (impl_isStage _ _).mono ?_; rw [h2]; rintro e w' ⟨rfl, rfl⟩))
  go_loopw [6, 7] (fun v i wr => ∃ (k q : Nat) (A' : Option Addr) (c' : Nat), Hid (q = k * m) ∧ k ≤ q ∧ q ≤ l.length ∧ i = .int .i64 q ∧ v = .slice A' k c' ∧ Hid (Owned strE 1 9 wr w.heap.size A' k c' (cutR l m k)) ∧ Hid (∀ j, j < k → goodRow (cutAt l m j) = true) ∧ Below w.heap.size w wr) (fun _ i _ => l.length - (intOf i).toNat)
  case atStart => exact ⟨0, 0, _, _, Lib.hid (by simp), Nat.le_refl _, Nat.zero_le _, rfl, rfl, HE, Lib.hid (fun j hj => absurd hj (by omega)), by (repeat' (first | (with_reducible exact Below.refl _ _) | (with_reducible assumption) | (with_reducible refine below_drewN ?_ _) | (with_reducible refine Below.drew ?_) | (with_reducible refine below_alloc ?_ _) | (with_reducible refine Below.alloc ?_ ?_ _) | (with_reducible refine Below.setCell ?_ ?_ _) | (with_reducible refine below_go ?_ (by with_reducible assumption)) | (with_reducible refine below_then (by with_reducible assumption) ?_ ?_) | go_size))⟩
  case round =>
    obtain ⟨k, q, A1, c1, HK, hkq, hq, rfl, rfl, HO, HG, hbr⟩ := hrel
    rename World => wo
    have hszo := hbr.size
    have hwq : IntKind.i64.wrap ((q : Int) + (m : Int)) = ((q + m : Nat) : Int) := by rw [wrap_id (by omega)]; omega
    by_cases hlt : q + m ≤ l.length
    · have hkd : k < l.length / m := (cut_step (by omega)).1 (by rw [← HK.out]; exact hlt)
      have hr := h.below hbr (Nat.le_refl _)
      obtain ⟨b1, o1, hA, hbb, _⟩ := hr.cells (by omega)
      subst hA
      have hsub := hr.sub hlt
      have hsl : ((l.drop q).take m).length = m := by rw [List.length_take, List.length_drop]; omega
      obtain ⟨S, hS⟩ : ∃ S, S = (l.drop q).take m := ⟨_, rfl⟩
      rw [← hS] at hsub hsl
      have HSB := Lib.hid hsub
      have HSE := Lib.hid (show rowB S = cutAt l m k by rw [cutAt, ← HK.out, hS])
      have HSM := Lib.hid (fun (x : Int × Int) (hx : x ∈ S) => HST.out.2 x (by rw [hS] at hx; exact List.mem_of_mem_drop (List.mem_of_mem_take hx)))
      have HSL := Lib.hid hsl
      have hI : (q : Int) + (m : Int) ≤ (l.length : Int) := by omega
      have hI2 : (q : Int) ≤ (q : Int) + (m : Int) := by omega
      have hqm : q + m - q = m := by omega
      have hcapI : (q : Int) + (m : Int) ≤ (c : Int) := by omega
      clear hS hsub hsl hr
      go_wp2
      try simp only [hqm]
      go_loopw [8, 36] (fun r j wv => ∃ t : Nat, t ≤ m ∧ j = .int .i64 t ∧ r = .string (rowB (S.take t)) ∧ Below wo.heap.size wo wv) (fun _ j _ => m - (intOf j).toNat)
      case atStart => exact ⟨0, Nat.zero_le _, rfl, rfl, Below.refl _ _⟩
      case round =>
        obtain ⟨t, ht, rfl, rfl, hbv⟩ := hrel
        rename World => wv
        obtain ⟨s, hs0⟩ : ∃ s, s = rowB (S.take t) := ⟨_, rfl⟩
        have hss : s.size = t := by rw [hs0, rowB_size, List.length_take, HSL.out]; omega
        rw [← hs0]
        have HS0 := Lib.hid hs0
        clear hs0
        by_cases htm : t < m
        · obtain ⟨x, hx⟩ := some_of_lt (l := S) (k := t) (by rw [HSL.out]; exact htm)
          have hxb := HSM.out x (List.mem_of_getElem? hx)
          obtain ⟨b2, o2, e2, hbb2, hc0, hc1⟩ := (HSB.out.up hbv).at_2 hx
          injection e2 with e2
          injection e2 with e3 e4 _
          subst e3 e4
          have HS1 := Lib.hid (show s ++ dig1 x.1 = rowB (S.take (t + 1)) by rw [HS0.out, take_succ_some hx, rowB_snoc])
          have hd1 : (dig1 x.1).size = 1 := rfl
          have hx9 : 0 ≤ x.1 ∧ x.1 ≤ 9 := by omega
          clear hx
          go_wp2_with (first | (go_at_call 41; refine (impl_decimal_1 hx9.1 hx9.2).mono ?_; rintro e w9 ⟨rfl, hb9⟩))
          go_roundw
          case rel => exact ⟨t + 1, by omega, by go_num, by rw [← HS1.out], by (repeat' (first | (with_reducible exact Below.refl _ _) | (with_reducible assumption) | (with_reducible refine below_drewN ?_ _) | (with_reducible refine Below.drew ?_) | (with_reducible refine below_alloc ?_ _) | (with_reducible refine Below.alloc ?_ ?_ _) | (with_reducible refine Below.setCell ?_ ?_ _) | (with_reducible refine below_go ?_ (by with_reducible assumption)) | (with_reducible refine below_then (by with_reducible assumption) ?_ ?_) | go_size))⟩
          case measure => simp [intOf]; omega
        · obtain rfl : t = m := by omega
          have hsy : s = cutAt l t k := by rw [HS0.out, List.take_of_length_le (by rw [HSL.out]; omega), HSE.out]
          have HSY := Lib.hid hsy
          have hsz : s.size ≤ 16777216 := by omega
          clear hsy
          have hBv := below_go hbr hbv
          have HOv := Lib.hid (HO.out.up hbv)
          have hszv := hBv.size
          rcases hg : goodRow s
          · have e2 := Lib.hid (show cutOk l (t : Int) = false by rw [HQ2.out]; exact cut_bad hkd (by rw [← HSY.out]; exact hg))
            have e1 := Lib.hid (cutL_f e2.out)
            go_wp2_with (first | (go_at_call 42; refine (impl_GoodRow hsz).mono ?_; rw [hg]; rintro e w8 ⟨rfl, rfl⟩))
            go_ret2
            rw [e1.out, e2.out]
            exact ⟨none, 0, rfl, Owned.nil strE_len _ _ _, by decide, hBv⟩
          · have HG2 := Lib.hid (show ∀ j, j < k + 1 → goodRow (cutAt l t j) = true from fun j hj => by
              by_cases e : j < k
              · exact HG.out j e
              · obtain rfl : j = k := by omega
                rw [← HSY.out]; exact hg)
            have HT := Lib.hid (show cutR l t (k + 1) = cutR l t k ++ [s] by rw [cutR_succ, HSY.out])
            have HKN := Lib.hid (show q + t = (k + 1) * t by rw [Nat.succ_mul, ← HK.out])
            go_wp2_with (first | (go_at_call 42; refine (impl_GoodRow hsz).mono ?_; rw [hg]; rintro e w8 ⟨rfl, rfl⟩; have HO8 := HOv; have hB8 := hBv) | (at_builtin; go_must ((refine wpList_append_recs Tryd.elStr strE_one rfl (.tmp 49) (.tmp 51) rfl rfl (HO8.out.alloc _) rfl (own_lit1_at' strE_len _ 9 s rfl (Nat.le_refl _)).recs rfl ?_ (by decide) ?_ ?_; (focus (first | omega | (simp only [World.size_alloc]; done) | (simp only [World.size_alloc]; omega) | (simp; done) | (simp; omega))); (simp; omega); intro A3 c3 w6 ho6 hg6 hl6; have hb6 : Below w.heap.size w w6 := (hB8.alloc hB8.size _).trans (grown_base hg6 (by simp; omega) (fun z hz => (HO8.out.range z hz).1))))))
            go_roundw
            case rel => exact ⟨k + 1, q + t, A3, c3, HKN, by omega, by omega, by go_num, by go_num, Lib.hid (by rw [HT.out]; exact ho6), HG2, hb6⟩
            case measure => simp [intOf]; omega
    · have hge : ¬ k < l.length / m := fun e => hlt (by have := (cut_step (a := l.length) (n := m) (k := k) (by omega)).2 e; rw [← HK.out] at this; exact this)
      have hle : k ≤ l.length / m := by
        by_cases hk0 : k = 0
        · rw [hk0]; exact Nat.zero_le _
        · have := (cut_step (a := l.length) (n := m) (k := k - 1) (by omega)).1 (by
            have e : (k - 1) * m + m = k * m := by
              obtain ⟨j, rfl⟩ : ∃ j, k = j + 1 := ⟨k - 1, by omega⟩
              rw [Nat.add_sub_cancel, Nat.succ_mul]
            rw [e, ← HK.out]; exact hq)
          omega
      have e2 := Lib.hid (show cutOk l (m : Int) = true by rw [HQ2.out]; exact cut_good (fun j hj => HG.out j (by omega)))
      have e1 := Lib.hid (show cutL l (m : Int) = cutR l m k by rw [cutL_t e2.out, cutR, show k = l.length / m by omega])
      have hI : ¬ (q : Int) + (m : Int) ≤ (l.length : Int) := by omega
      have hI' : (l.length : Int) < (q : Int) + (m : Int) := by omega
      go_wp2
      go_ret2
      rw [e1.out, e2.out]
      have ho := HO.out
      have hkl : (cutR l m k).length = k := by rw [cutR, List.length_map, List.length_range]
      rw [hkl]
      exact ⟨_, _, rfl, ho, by omega, hbr⟩
set_option maxHeartbeats 2000000 in
set_option maxRecDepth 100000 in
theorem spec_CutRows {A : Option Addr} {n c : Nat} {l : List (Int × Int)} {N : Int} {w : World} (hn : l.length = n) (h : Recs strikeE 2 w A l) (hz : n ≤ 16777216) (hcap : n ≤ c) :
    Calls Tryd.prog 13 #[.slice A n c, .int .i64 N] w fun e w' => ∃ A' c', e = .returned (.tuple #[.slice A' (cutL l N).length c', .bool (cutOk l N)]) ∧ Owned strE 1 9 w' w.heap.size A' (cutL l N).length c' (cutL l N) ∧ (cutL l N).length ≤ 16777216 ∧ Below w.heap.size w w' := by
  subst hn
  have HQ : Hid (cutOk l N = ((goodStrikes l && inB N 3 8) && cutAll l N.toNat)) := Lib.hid rfl
  rcases h1 : goodStrikes l
  · have e2 := Lib.hid (show cutOk l N = false by rw [HQ.out, h1]; rfl)
    have e1 := Lib.hid (cutL_f e2.out)
    go_in
    go_wp2_with (first | (go_at_call 31; refine (spec_l21Good rfl h hz).mono ?_; rw [h1]; rintro e w1 ⟨rfl, hb1⟩))
    go_ret2
    rw [e1.out, e2.out]
    exact ⟨none, 0, rfl, Owned.nil strE_len _ _ _, by decide, hb1⟩
  rcases h2 : inB N 3 8
  · have e2 := Lib.hid (show cutOk l N = false by rw [HQ.out, h1, h2]; rfl)
    have e1 := Lib.hid (cutL_f e2.out)
    go_in
    go_wp2_with (first | (go_at_call 31; refine (spec_l21Good rfl h hz).mono ?_; rw [h1]; rintro e w1 ⟨rfl, hb1⟩) | (go_at_call 37; refine (spec_l1In _ _ _ _).mono ?_; rw [h2]; rintro e w' ⟨rfl, rfl⟩))
    go_ret2
    rw [e1.out, e2.out]
    exact ⟨none, 0, rfl, Owned.nil strE_len _ _ _, by decide, hb1⟩
  have hN := inB_t h2
  obtain ⟨m, rfl⟩ : ∃ m : Nat, N = (m : Int) := ⟨N.toNat, by omega⟩
  have hm3 : 3 ≤ m := by omega
  have hm8 : m ≤ 8 := by omega
  have HST := Lib.hid (goodStrikes_t h1)
  have hl2 := (goodStrikes_t h1).1
  have HQ2 := Lib.hid (show cutOk l (m : Int) = cutAll l m by rw [HQ.out, h1, h2]; rfl)
  clear HQ hN
  go_in
  go_wp2_with fail
  refine (spec_l21Good rfl h hz).mono ?_; rw [h1]; rintro e w1 ⟨rfl, hb1⟩
  have HE := Lib.hid (Owned.nil strE_len 9 w1 w.heap.size)
  have HB1 := hb1
  go_wp2_with (first | (go_at_call 37; refine (spec_l1In _ _ _ _).mono ?_; rw [h2]; rintro e w' ⟨rfl, rfl⟩))
  go_loopw [6, 7] (fun v i wr => ∃ (k q : Nat) (A' : Option Addr) (c' : Nat), Hid (q = k * m) ∧ k ≤ q ∧ q ≤ l.length ∧ i = .int .i64 q ∧ v = .slice A' k c' ∧ Hid (Owned strE 1 9 wr w.heap.size A' k c' (cutR l m k)) ∧ Hid (∀ j, j < k → goodRow (cutAt l m j) = true) ∧ Below w.heap.size w wr) (fun _ i _ => l.length - (intOf i).toNat)
  case atStart => exact ⟨0, 0, _, _, Lib.hid (by simp), Nat.le_refl _, Nat.zero_le _, rfl, rfl, HE, Lib.hid (fun j hj => absurd hj (by omega)), by (repeat' (first | (with_reducible exact Below.refl _ _) | (with_reducible assumption) | (with_reducible refine below_drewN ?_ _) | (with_reducible refine Below.drew ?_) | (with_reducible refine below_alloc ?_ _) | (with_reducible refine Below.alloc ?_ ?_ _) | (with_reducible refine Below.setCell ?_ ?_ _) | (with_reducible refine below_go ?_ (by with_reducible assumption)) | (with_reducible refine below_then (by with_reducible assumption) ?_ ?_) | go_size))⟩
  case round =>
    obtain ⟨k, q, A1, c1, HK, hkq, hq, rfl, rfl, HO, HG, hbr⟩ := hrel
    rename World => wo
    have hszo := hbr.size
    have hwq : IntKind.i64.wrap ((q : Int) + (m : Int)) = ((q + m : Nat) : Int) := by rw [wrap_id (by omega)]; omega
    by_cases hlt : q + m ≤ l.length
    · have hkd : k < l.length / m := (cut_step (by omega)).1 (by rw [← HK.out]; exact hlt)
      have hr := h.below hbr (Nat.le_refl _)
      obtain ⟨b1, o1, hA, hbb, _⟩ := hr.cells (by omega)
      subst hA
      have hsub := hr.sub hlt
      have hsl : ((l.drop q).take m).length = m := by rw [List.length_take, List.length_drop]; omega
      obtain ⟨S, hS⟩ : ∃ S, S = (l.drop q).take m := ⟨_, rfl⟩
      rw [← hS] at hsub hsl
      have HSB := Lib.hid hsub
      have HSE := Lib.hid (show rowB S = cutAt l m k by rw [cutAt, ← HK.out, hS])
      have HSM := Lib.hid (fun (x : Int × Int) (hx : x ∈ S) => HST.out.2 x (by rw [hS] at hx; exact List.mem_of_mem_drop (List.mem_of_mem_take hx)))
      have HSL := Lib.hid hsl
      have hI : (q : Int) + (m : Int) ≤ (l.length : Int) := by omega
      have hI2 : (q : Int) ≤ (q : Int) + (m : Int) := by omega
      have hqm : q + m - q = m := by omega
      have hcapI : (q : Int) + (m : Int) ≤ (c : Int) := by omega
      clear hS hsub hsl hr
      go_wp2
      try simp only [hqm]
      go_loopw [8, 35] (fun r j wv => ∃ t : Nat, t ≤ m ∧ j = .int .i64 t ∧ r = .string (rowB (S.take t)) ∧ Below wo.heap.size wo wv) (fun _ j _ => m - (intOf j).toNat)
      case atStart => exact ⟨0, Nat.zero_le _, rfl, rfl, Below.refl _ _⟩
      case round =>
        obtain ⟨t, ht, rfl, rfl, hbv⟩ := hrel
        rename World => wv
        obtain ⟨s, hs0⟩ : ∃ s, s = rowB (S.take t) := ⟨_, rfl⟩
        have hss : s.size = t := by rw [hs0, rowB_size, List.length_take, HSL.out]; omega
        rw [← hs0]
        have HS0 := Lib.hid hs0
        clear hs0
        by_cases htm : t < m
        · obtain ⟨x, hx⟩ := some_of_lt (l := S) (k := t) (by rw [HSL.out]; exact htm)
          have hxb := HSM.out x (List.mem_of_getElem? hx)
          obtain ⟨b2, o2, e2, hbb2, hc0, hc1⟩ := (HSB.out.up hbv).at_2 hx
          injection e2 with e2
          injection e2 with e3 e4 _
          subst e3 e4
          have HS1 := Lib.hid (show s ++ dig1 x.1 = rowB (S.take (t + 1)) by rw [HS0.out, take_succ_some hx, rowB_snoc])
          have hd1 : (dig1 x.1).size = 1 := rfl
          have hx9 : 0 ≤ x.1 ∧ x.1 ≤ 9 := by omega
          clear hx
          go_wp2_with (first | (go_at_call 38; refine (spec_l1Num_1 hx9.1 hx9.2).mono ?_; rintro e w9 ⟨rfl, hb9⟩))
          go_roundw
          case rel => exact ⟨t + 1, by omega, by go_num, by rw [← HS1.out], by (repeat' (first | (with_reducible exact Below.refl _ _) | (with_reducible assumption) | (with_reducible refine below_drewN ?_ _) | (with_reducible refine Below.drew ?_) | (with_reducible refine below_alloc ?_ _) | (with_reducible refine Below.alloc ?_ ?_ _) | (with_reducible refine Below.setCell ?_ ?_ _) | (with_reducible refine below_go ?_ (by with_reducible assumption)) | (with_reducible refine below_then (by with_reducible assumption) ?_ ?_) | go_size))⟩
          case measure => simp [intOf]; omega
        · obtain rfl : t = m := by omega
          have hsy : s = cutAt l t k := by rw [HS0.out, List.take_of_length_le (by rw [HSL.out]; omega), HSE.out]
          have HSY := Lib.hid hsy
          have hsz : s.size ≤ 16777216 := by omega
          clear hsy
          have hBv := below_go hbr hbv
          have HOv := Lib.hid (HO.out.up hbv)
          have hszv := hBv.size
          rcases hg : goodRow s
          · have e2 := Lib.hid (show cutOk l (t : Int) = false by rw [HQ2.out]; exact cut_bad hkd (by rw [← HSY.out]; exact hg))
            have e1 := Lib.hid (cutL_f e2.out)
            go_wp2_with (first | (go_at_call 39; refine (spec_l1Row hsz).mono ?_; rw [hg]; rintro e w8 ⟨rfl, hb8⟩))
            go_ret2
            rw [e1.out, e2.out]
            exact ⟨none, 0, rfl, Owned.nil strE_len _ _ _, by decide, below_go hBv hb8⟩
          · have HG2 := Lib.hid (show ∀ j, j < k + 1 → goodRow (cutAt l t j) = true from fun j hj => by
              by_cases e : j < k
              · exact HG.out j e
              · obtain rfl : j = k := by omega
                rw [← HSY.out]; exact hg)
            have HT := Lib.hid (show cutR l t (k + 1) = cutR l t k ++ [s] by rw [cutR_succ, HSY.out])
            have HKN := Lib.hid (show q + t = (k + 1) * t by rw [Nat.succ_mul, ← HK.out])
            go_wp2_with (first | (go_at_call 39; refine (spec_l1Row hsz).mono ?_; rw [hg]; rintro e w8 ⟨rfl, hb8⟩; have HO8 := Lib.hid (HOv.out.up hb8); have hB8 := below_go hBv hb8; have hs8 := hB8.size) | (at_builtin; go_must ((refine wpList_append_recs Tryd.elStr strE_one rfl (.tmp 48) (.tmp 50) rfl rfl (HO8.out.alloc _) rfl (own_lit1_at' strE_len _ 9 s rfl (Nat.le_refl _)).recs rfl ?_ (by decide) ?_ ?_; (focus (first | omega | (simp only [World.size_alloc]; done) | (simp only [World.size_alloc]; omega) | (simp; done) | (simp; omega))); (simp; omega); intro A3 c3 w6 ho6 hg6 hl6; have hb6 : Below w.heap.size w w6 := (hB8.alloc hB8.size _).trans (grown_base hg6 (by simp; omega) (fun z hz => (HO8.out.range z hz).1))))))
            go_roundw
            case rel => exact ⟨k + 1, q + t, A3, c3, HKN, by omega, by omega, by go_num, by go_num, Lib.hid (by rw [HT.out]; exact ho6), HG2, hb6⟩
            case measure => simp [intOf]; omega
    · have hge : ¬ k < l.length / m := fun e => hlt (by have := (cut_step (a := l.length) (n := m) (k := k) (by omega)).2 e; rw [← HK.out] at this; exact this)
      have hle : k ≤ l.length / m := by
        by_cases hk0 : k = 0
        · rw [hk0]; exact Nat.zero_le _
        · have := (cut_step (a := l.length) (n := m) (k := k - 1) (by omega)).1 (by
            have e : (k - 1) * m + m = k * m := by
              obtain ⟨j, rfl⟩ : ∃ j, k = j + 1 := ⟨k - 1, by omega⟩
              rw [Nat.add_sub_cancel, Nat.succ_mul]
            rw [e, ← HK.out]; exact hq)
          omega
      have e2 := Lib.hid (show cutOk l (m : Int) = true by rw [HQ2.out]; exact cut_good (fun j hj => HG.out j (by omega)))
      have e1 := Lib.hid (show cutL l (m : Int) = cutR l m k by rw [cutL_t e2.out, cutR, show k = l.length / m by omega])
      have hI : ¬ (q : Int) + (m : Int) ≤ (l.length : Int) := by omega
      have hI' : (l.length : Int) < (q : Int) + (m : Int) := by omega
      go_wp2
      go_ret2
      rw [e1.out, e2.out]
      have ho := HO.out
      have hkl : (cutR l m k).length = k := by rw [cutR, List.length_map, List.length_range]
      rw [hkl]
      exact ⟨_, _, rfl, ho, by omega, hbr⟩
end Go.Proofs.YtmlhdchglhkhiaaDoor
