/- The walks through the lines of a proof, both sides. -/
import Derived.Test.YtoheahbkopbmhaaDoorWlin
namespace Go.Proofs.YtoheahbkopbmhaaDoor
set_option linter.unusedVariables false
set_option linter.unusedSimpArgs false
open Go.ChangeShapes Go.WideShapes Go.ChangeAt Go.RowKit Go.Deep
theorem l1V_f {s : ByteArray} (h : numOk s 6 = false) : l1V s = -1 := if_neg (by rw [h]; simp)
theorem l1V_t {s : ByteArray} (h : numOk s 6 = true) : l1V s = (valL s.data.toList : Int) := by rw [l1V, if_pos h, numV_t h]
set_option maxHeartbeats 2000000 in
set_option maxRecDepth 100000 in
theorem spec_l1Read {s : ByteArray} {w : World} (hz : s.size ≤ 16777216) :
    Calls Tryd.prog 24 #[.string s] w fun e w' => e = .returned (.int .i64 (l1V s)) ∧ w = w' := by
  have HQ : Hid (numOk s 6 = (decide ((s.size : Int) ≤ 6) && (decide (1 ≤ s.data.toList.length) && (!(decide (1 < s.data.toList.length) && decide (s.data.toList[0]? = some 48)) && s.data.toList.all isDg)))) := Lib.hid rfl
  have hlen : Hid (s.data.toList.length = s.size) := Lib.hid rfl
  have hb := PlainAid.get_bt s
  by_cases h1 : s.size < 1
  · have e2 := Lib.hid (show numOk s 6 = false by rw [HQ.out, hlen.out, show decide (1 ≤ s.size) = false from decide_eq_false (by omega)]; simp)
    have e1 := Lib.hid (l1V_f e2.out)
    have hI : inB (s.size : Int) 1 6 = false := by simp only [inB]; rw [decide_eq_false]; omega
    go_in
    go_wp2_with (first | (go_at_call 26; refine (spec_l1In _ _ _ _).mono ?_; rintro e w' ⟨rfl, rfl⟩))
    go_ret
    rw [e1.out]
    exact ⟨rfl, rfl⟩
  have hI1 : ¬ (s.size : Int) < 1 := by omega
  by_cases h2 : (6 : Int) < (s.size : Int)
  · have e2 := Lib.hid (show numOk s 6 = false by rw [HQ.out, decide_eq_false (show ¬ (s.size : Int) ≤ 6 by omega)]; rfl)
    have e1 := Lib.hid (l1V_f e2.out)
    have hI : inB (s.size : Int) 1 6 = false := by simp only [inB]; rw [decide_eq_false]; omega
    go_in
    go_wp2_with (first | (go_at_call 26; refine (spec_l1In _ _ _ _).mono ?_; rintro e w' ⟨rfl, rfl⟩))
    go_ret
    rw [e1.out]
    exact ⟨rfl, rfl⟩
  have h8 : s.size ≤ 8 := by omega
  have hI : inB (s.size : Int) 1 6 = true := by simp only [inB]; rw [decide_eq_true]; omega
  obtain ⟨b0, hb0⟩ := data_at s (k := 0) (by omega)
  have hbt0 := (bt_data hb0).1
  have hpos : 0 < s.size := by omega
  have HW := Lib.hid (show (s.size > 1 → b0 ≠ 48) → numOk s 6 = s.data.toList.all isDg from fun h => by
    rw [HQ.out, decide_eq_true (show (s.size : Int) ≤ 6 by omega), hlen.out, show decide (1 ≤ s.size) = true from decide_eq_true (by omega)]
    have : (decide (1 < s.size) && decide (s.data.toList[0]? = some 48)) = false := by
      by_cases h1 : 1 < s.size
      · rw [hb0, decide_eq_false (show ¬ (some b0 = some (48 : UInt8)) from fun e => h h1 (by injection e))]; simp
      · rw [decide_eq_false h1]; rfl
    rw [this]; rfl)
  have HZ := Lib.hid (show s.size > 1 → b0 = 48 → numOk s 6 = false from fun h h' => by
    rw [HQ.out, hlen.out, decide_eq_true (show 1 < s.size from h), hb0, h']; simp)
  by_cases h3 : (1 : Int) < (s.size : Int)
  · by_cases h4 : PlainAid.bt s 0 = 48
    · have e2 := Lib.hid (HZ.out (by omega) (UInt8.toNat_inj.1 (by rw [h4] at hbt0; have : (48 : UInt8).toNat = 48 := rfl; omega)))
      have e1 := Lib.hid (l1V_f e2.out)
      clear hb0 hbt0
      go_in
      go_wp2_with (first | (go_at_call 26; refine (spec_l1In _ _ _ _).mono ?_; rintro e w' ⟨rfl, rfl⟩))
      go_ret
      rw [e1.out]
      exact ⟨rfl, rfl⟩
    · have HA := Lib.hid (HW.out (fun _ e => h4 (by rw [hbt0, e]; rfl)))
      have h4b : (PlainAid.bt s 0 == 48) = false := by simpa using h4
      clear hb0 hbt0
      go_in
      go_wp2_with (first | (go_at_call 26; refine (spec_l1In _ _ _ _).mono ?_; rintro e w' ⟨rfl, rfl⟩))
      go_loopw [3, 4] (fun a i wr => ∃ k v : Nat, k ≤ s.size ∧ i = .int .i64 k ∧ a = .int .i64 v ∧ Hid (v = valL (s.data.toList.take k)) ∧ v ≤ 100000000 ∧ Hid ((s.data.toList.take k).all isDg = true) ∧ w = wr) (fun _ i _ => s.size - (intOf i).toNat)
      case atStart => exact ⟨0, 0, Nat.zero_le _, rfl, rfl, Lib.hid rfl, by decide, Lib.hid rfl, rfl⟩
      case round =>
        obtain ⟨k, v, hk, rfl, rfl, HV, hv, HD, rfl⟩ := hrel
        by_cases hlt : k < s.size
        · obtain ⟨b, hbk⟩ := data_at s hlt
          have hbt := (bt_data hbk).1
          have hdg := dg_of hbk
          rcases hd : isDg b
          · have e2 := Lib.hid (show numOk s 6 = false by rw [HA.out]; exact all_take_no hbk hd)
            have e1 := Lib.hid (l1V_f e2.out)
            rw [hd] at hdg
            by_cases h48 : PlainAid.bt s k < 48
            · clear hdg hbk hbt
              go_wp2
              go_ret
              rw [e1.out]
              exact ⟨rfl, rfl⟩
            · have h57 : 57 < PlainAid.bt s k := by
                rw [decide_eq_false h48] at hdg
                by_cases h : 57 < PlainAid.bt s k
                · exact h
                · rw [decide_eq_false h] at hdg; cases hdg
              clear hdg hbk hbt
              go_wp2
              go_ret
              rw [e1.out]
              exact ⟨rfl, rfl⟩
          · simp only [isDg, Bool.and_eq_true, decide_eq_true_eq] at hd
            have h48 : ¬ PlainAid.bt s k < 48 := by omega
            have h57 : ¬ 57 < PlainAid.bt s k := by omega
            have hw : IntKind.u8.wrap (PlainAid.bt s k - 48) = PlainAid.bt s k - 48 := by rw [IntKind.wrap_u8]; omega
            have HD2 := Lib.hid (show (s.data.toList.take (k + 1)).all isDg = true by
              rw [take_succ_some hbk, List.all_append, HD.out]; simp [isDg, hd.1, hd.2])
            have HV2 := Lib.hid (show 10 * v + (b.toNat - 48) = valL (s.data.toList.take (k + 1)) by rw [val_step hbk, ← HV.out])
            have hv2 : 10 * v + (b.toNat - 48) ≤ 100000000 := by rw [HV2.out]; exact val_bound hlt HD2.out h8
            have HEQ := Lib.hid (show (10 * (v : Int) + (PlainAid.bt s k - 48)) = ((10 * v + (b.toNat - 48) : Nat) : Int) by omega)
            have hlo : 0 ≤ PlainAid.bt s k - 48 ∧ PlainAid.bt s k - 48 ≤ 9 := by omega
            clear hdg hbk hbt
            go_wp2
            go_roundw
            case rel => exact ⟨k + 1, 10 * v + (b.toNat - 48), by omega, by go_num, congrArg (Value.int .i64) HEQ.out, HV2, hv2, HD2, trivial⟩
            case measure => simp [intOf]; omega
        · obtain rfl : k = s.size := by omega
          have ht : s.data.toList.take s.size = s.data.toList := List.take_of_length_le (by rw [hlen.out]; exact Nat.le_refl _)
          have e2 := Lib.hid (show numOk s 6 = true by rw [HA.out, ← ht]; exact HD.out)
          have e1 := Lib.hid (l1V_t e2.out)
          have HV3 := Lib.hid (show v = valL s.data.toList by rw [HV.out, ht])
          go_wp2
          go_ret
          rw [e1.out, ← HV3.out]
          exact ⟨rfl, rfl⟩
  · have HA := Lib.hid (HW.out (fun h _ => absurd h (by omega)))
    clear hb0 hbt0
    by_cases h4 : (PlainAid.bt s 0 == 48) = true
    · skip
      go_in
      go_wp2_with (first | (go_at_call 26; refine (spec_l1In _ _ _ _).mono ?_; rintro e w' ⟨rfl, rfl⟩))
      go_loopw [3, 4] (fun a i wr => ∃ k v : Nat, k ≤ s.size ∧ i = .int .i64 k ∧ a = .int .i64 v ∧ Hid (v = valL (s.data.toList.take k)) ∧ v ≤ 100000000 ∧ Hid ((s.data.toList.take k).all isDg = true) ∧ w = wr) (fun _ i _ => s.size - (intOf i).toNat)
      case atStart => exact ⟨0, 0, Nat.zero_le _, rfl, rfl, Lib.hid rfl, by decide, Lib.hid rfl, rfl⟩
      case round =>
        obtain ⟨k, v, hk, rfl, rfl, HV, hv, HD, rfl⟩ := hrel
        by_cases hlt : k < s.size
        · obtain ⟨b, hbk⟩ := data_at s hlt
          have hbt := (bt_data hbk).1
          have hdg := dg_of hbk
          rcases hd : isDg b
          · have e2 := Lib.hid (show numOk s 6 = false by rw [HA.out]; exact all_take_no hbk hd)
            have e1 := Lib.hid (l1V_f e2.out)
            rw [hd] at hdg
            by_cases h48 : PlainAid.bt s k < 48
            · clear hdg hbk hbt
              go_wp2
              go_ret
              rw [e1.out]
              exact ⟨rfl, rfl⟩
            · have h57 : 57 < PlainAid.bt s k := by
                rw [decide_eq_false h48] at hdg
                by_cases h : 57 < PlainAid.bt s k
                · exact h
                · rw [decide_eq_false h] at hdg; cases hdg
              clear hdg hbk hbt
              go_wp2
              go_ret
              rw [e1.out]
              exact ⟨rfl, rfl⟩
          · simp only [isDg, Bool.and_eq_true, decide_eq_true_eq] at hd
            have h48 : ¬ PlainAid.bt s k < 48 := by omega
            have h57 : ¬ 57 < PlainAid.bt s k := by omega
            have hw : IntKind.u8.wrap (PlainAid.bt s k - 48) = PlainAid.bt s k - 48 := by rw [IntKind.wrap_u8]; omega
            have HD2 := Lib.hid (show (s.data.toList.take (k + 1)).all isDg = true by
              rw [take_succ_some hbk, List.all_append, HD.out]; simp [isDg, hd.1, hd.2])
            have HV2 := Lib.hid (show 10 * v + (b.toNat - 48) = valL (s.data.toList.take (k + 1)) by rw [val_step hbk, ← HV.out])
            have hv2 : 10 * v + (b.toNat - 48) ≤ 100000000 := by rw [HV2.out]; exact val_bound hlt HD2.out h8
            have HEQ := Lib.hid (show (10 * (v : Int) + (PlainAid.bt s k - 48)) = ((10 * v + (b.toNat - 48) : Nat) : Int) by omega)
            have hlo : 0 ≤ PlainAid.bt s k - 48 ∧ PlainAid.bt s k - 48 ≤ 9 := by omega
            clear hdg hbk hbt
            go_wp2
            go_roundw
            case rel => exact ⟨k + 1, 10 * v + (b.toNat - 48), by omega, by go_num, congrArg (Value.int .i64) HEQ.out, HV2, hv2, HD2, trivial⟩
            case measure => simp [intOf]; omega
        · obtain rfl : k = s.size := by omega
          have ht : s.data.toList.take s.size = s.data.toList := List.take_of_length_le (by rw [hlen.out]; exact Nat.le_refl _)
          have e2 := Lib.hid (show numOk s 6 = true by rw [HA.out, ← ht]; exact HD.out)
          have e1 := Lib.hid (l1V_t e2.out)
          have HV3 := Lib.hid (show v = valL s.data.toList by rw [HV.out, ht])
          go_wp2
          go_ret
          rw [e1.out, ← HV3.out]
          exact ⟨rfl, rfl⟩
    · have h4b : (PlainAid.bt s 0 == 48) = false := by simpa using h4
      go_in
      go_wp2_with (first | (go_at_call 26; refine (spec_l1In _ _ _ _).mono ?_; rintro e w' ⟨rfl, rfl⟩))
      go_loopw [3, 4] (fun a i wr => ∃ k v : Nat, k ≤ s.size ∧ i = .int .i64 k ∧ a = .int .i64 v ∧ Hid (v = valL (s.data.toList.take k)) ∧ v ≤ 100000000 ∧ Hid ((s.data.toList.take k).all isDg = true) ∧ w = wr) (fun _ i _ => s.size - (intOf i).toNat)
      case atStart => exact ⟨0, 0, Nat.zero_le _, rfl, rfl, Lib.hid rfl, by decide, Lib.hid rfl, rfl⟩
      case round =>
        obtain ⟨k, v, hk, rfl, rfl, HV, hv, HD, rfl⟩ := hrel
        by_cases hlt : k < s.size
        · obtain ⟨b, hbk⟩ := data_at s hlt
          have hbt := (bt_data hbk).1
          have hdg := dg_of hbk
          rcases hd : isDg b
          · have e2 := Lib.hid (show numOk s 6 = false by rw [HA.out]; exact all_take_no hbk hd)
            have e1 := Lib.hid (l1V_f e2.out)
            rw [hd] at hdg
            by_cases h48 : PlainAid.bt s k < 48
            · clear hdg hbk hbt
              go_wp2
              go_ret
              rw [e1.out]
              exact ⟨rfl, rfl⟩
            · have h57 : 57 < PlainAid.bt s k := by
                rw [decide_eq_false h48] at hdg
                by_cases h : 57 < PlainAid.bt s k
                · exact h
                · rw [decide_eq_false h] at hdg; cases hdg
              clear hdg hbk hbt
              go_wp2
              go_ret
              rw [e1.out]
              exact ⟨rfl, rfl⟩
          · simp only [isDg, Bool.and_eq_true, decide_eq_true_eq] at hd
            have h48 : ¬ PlainAid.bt s k < 48 := by omega
            have h57 : ¬ 57 < PlainAid.bt s k := by omega
            have hw : IntKind.u8.wrap (PlainAid.bt s k - 48) = PlainAid.bt s k - 48 := by rw [IntKind.wrap_u8]; omega
            have HD2 := Lib.hid (show (s.data.toList.take (k + 1)).all isDg = true by
              rw [take_succ_some hbk, List.all_append, HD.out]; simp [isDg, hd.1, hd.2])
            have HV2 := Lib.hid (show 10 * v + (b.toNat - 48) = valL (s.data.toList.take (k + 1)) by rw [val_step hbk, ← HV.out])
            have hv2 : 10 * v + (b.toNat - 48) ≤ 100000000 := by rw [HV2.out]; exact val_bound hlt HD2.out h8
            have HEQ := Lib.hid (show (10 * (v : Int) + (PlainAid.bt s k - 48)) = ((10 * v + (b.toNat - 48) : Nat) : Int) by omega)
            have hlo : 0 ≤ PlainAid.bt s k - 48 ∧ PlainAid.bt s k - 48 ≤ 9 := by omega
            clear hdg hbk hbt
            go_wp2
            go_roundw
            case rel => exact ⟨k + 1, 10 * v + (b.toNat - 48), by omega, by go_num, congrArg (Value.int .i64) HEQ.out, HV2, hv2, HD2, trivial⟩
            case measure => simp [intOf]; omega
        · obtain rfl : k = s.size := by omega
          have ht : s.data.toList.take s.size = s.data.toList := List.take_of_length_le (by rw [hlen.out]; exact Nat.le_refl _)
          have e2 := Lib.hid (show numOk s 6 = true by rw [HA.out, ← ht]; exact HD.out)
          have e1 := Lib.hid (l1V_t e2.out)
          have HV3 := Lib.hid (show v = valL s.data.toList by rw [HV.out, ht])
          go_wp2
          go_ret
          rw [e1.out, ← HV3.out]
          exact ⟨rfl, rfl⟩
theorem cut_len (l sep : List UInt8) : (Lib.cut l sep).1.length ≤ l.length ∧ (Lib.cut l sep).2.1.length ≤ l.length := by
  rw [Lib.cut]
  split
  · simp; omega
  · simp
set_option maxHeartbeats 1000000 in
set_option maxRecDepth 100000 in
theorem impl_proofLine {y : ByteArray} {m : Int} {w : World} (hz : y.size ≤ 1048576) (hm : w.cell? ⟨0, 0, none⟩ = some (.int .i64 m)) (hmw : 0 < w.heap.size) :
    Calls Tryd.prog 15 #[.string y] w fun e w' => e = .returned (.tuple #[.agg #[.string (plV y).1, .int .i64 (plV y).2.1, .int .i64 (plV y).2.2], .bool (plOk y)]) ∧ Below w.heap.size w w' := by
  have HM := Lib.hid (fun (u : World) (hu : Below w.heap.size w u) => (hu.cell (p := ⟨0, 0, none⟩) hmw).trans hm)
  have HV : Hid (plV y = (⟨(Lib.cut y.data.toList [32]).1.toArray⟩, numV ⟨(Lib.cut (pcR y).data.toList [46]).1.toArray⟩ 2, numV ⟨(Lib.cut (pcR y).data.toList [46]).2.1.toArray⟩ 2)) := Lib.hid rfl
  have HK : Hid (plOk y = ((((Lib.cut y.data.toList [32]).2.2 && (Lib.cut (pcR y).data.toList [46]).2.2) && numOk ⟨(Lib.cut (pcR y).data.toList [46]).1.toArray⟩ 2) && numOk ⟨(Lib.cut (pcR y).data.toList [46]).2.1.toArray⟩ 2)) := Lib.hid rfl
  have HP : Hid (pcR y = ⟨(Lib.cut y.data.toList [32]).2.1.toArray⟩) := Lib.hid rfl
  have b0 : Below w.heap.size w (w.alloc (.cells #[.string { data := #[] }, .int .i64 0, .int .i64 0] 33)) := by (repeat' (first | (with_reducible exact Below.refl _ _) | (with_reducible assumption) | (with_reducible refine below_drewN ?_ _) | (with_reducible refine Below.drew ?_) | (with_reducible refine below_alloc ?_ _) | (with_reducible refine Below.alloc ?_ ?_ _) | (with_reducible refine Below.setCell ?_ ?_ _) | (with_reducible refine below_go ?_ (by with_reducible assumption)) | (with_reducible refine below_then (by with_reducible assumption) ?_ ?_) | go_size))
  have K0 := Blk.at_ w 33 [.string { data := #[] }, .int .i64 0, .int .i64 0] (b := w.heap.size) rfl
  have hl1 := cut_len y.data.toList [32]
  obtain ⟨⟨r1, t1, b1⟩, hc1⟩ : ∃ c, c = Lib.cut y.data.toList [32] := ⟨_, rfl⟩
  rw [← hc1] at HV HK HP hl1
  have HC1 := Lib.hid hc1
  dsimp only at HV HK HP hl1
  clear hc1 hm
  have hy : y.data.toList.length = y.size := rfl
  obtain ⟨P, hP⟩ : ∃ P, P = pcR y := ⟨_, rfl⟩
  rw [← hP] at HV HK HP
  have hps : P.size ≤ 1048576 := by rw [HP.out]; show t1.toArray.size ≤ _; rw [List.size_toArray]; omega
  have hl2 := cut_len P.data.toList [46]
  have hPy : P.data.toList.length = P.size := rfl
  obtain ⟨⟨r2, t2, b2⟩, hc2⟩ : ∃ c, c = Lib.cut P.data.toList [46] := ⟨_, rfl⟩
  rw [← hc2] at HV HK hl2
  have HC2 := Lib.hid hc2
  dsimp only at HV HK hl2
  have hr2 : (⟨r2.toArray⟩ : ByteArray).size ≤ 1048576 := by show r2.toArray.size ≤ _; rw [List.size_toArray]; omega
  have ht2 : (⟨t2.toArray⟩ : ByteArray).size ≤ 1048576 := by show t2.toArray.size ≤ _; rw [List.size_toArray]; omega
  clear hc2 hP hl1 hl2 hy hPy
  obtain ⟨n1, hn1⟩ : ∃ n, n = numV ⟨r2.toArray⟩ 2 := ⟨_, rfl⟩
  obtain ⟨n2, hn2⟩ : ∃ n, n = numV ⟨t2.toArray⟩ 2 := ⟨_, rfl⟩
  obtain ⟨b3, hb3⟩ : ∃ n, n = numOk ⟨r2.toArray⟩ 2 := ⟨_, rfl⟩
  obtain ⟨b4, hb4⟩ : ∃ n, n = numOk ⟨t2.toArray⟩ 2 := ⟨_, rfl⟩
  rw [← hn1, ← hn2] at HV
  rw [← hb3, ← hb4] at HK
  have HN1 := Lib.hid hn1
  have HN2 := Lib.hid hn2
  have HB3 := Lib.hid hb3
  have HB4 := Lib.hid hb4
  clear hn1 hn2 hb3 hb4
  go_in
  go_upto_region 1 with fail
  obtain ⟨w1, hw1⟩ : ∃ u, u = (w.alloc (.cells #[.string { data := #[] }, .int .i64 0, .int .i64 0] 33)) := ⟨_, rfl⟩
  rw [← hw1] at b0 K0 ⊢
  clear hw1
  go_wp2_with fail
  refine (Tryd.strings_Cut y { data := #[32] } m w1 (by omega) (HM.out _ b0)).mono ?_
  rw [show Lib.cut y.data.toList (⟨#[32]⟩ : ByteArray).data.toList = (r1, t1, b1) from HC1.out.symm]
  rintro e w2 ⟨rfl, k2, hk2⟩
  have hb2 : Below w1.heap.size w1 w2 := by rw [hk2]; exact below_drewN (Below.refl _ _) _
  have B2 := below_go b0 hb2
  have K2 := K0.up hb2
  rw [show (⟨t1.toArray⟩ : ByteArray) = P from HP.out.symm]
  clear hk2 hb2 K0
  go_wp2_with fail
  refine (Tryd.strings_Cut P { data := #[46] } m w2 (by omega) (HM.out _ B2)).mono ?_
  rw [show Lib.cut P.data.toList (⟨#[46]⟩ : ByteArray).data.toList = (r2, t2, b2) from HC2.out.symm]
  rintro e w3 ⟨rfl, k3, hk3⟩
  have hb3 : Below w2.heap.size w2 w3 := by rw [hk3]; exact below_drewN (Below.refl _ _) _
  have B3 := below_go B2 hb3
  have K3 := K2.up hb3
  clear hk3 hb3 K2
  go_wp2_with fail
  refine (impl_number (s := ⟨r2.toArray⟩) (by omega) (by decide)).mono ?_; rw [← HN1.out, ← HB3.out]; rintro e w' ⟨rfl, rfl⟩
  go_wp2_with fail
  refine (impl_number (s := ⟨t2.toArray⟩) (by omega) (by decide)).mono ?_; rw [← HN2.out, ← HB4.out]; rintro e w' ⟨rfl, rfl⟩
  have z0 := K3.cell 0; have z1 := K3.cell 1; have z2 := K3.cell 2
  simp only [List.getElem?_cons_zero, List.getElem?_cons_succ] at z0 z1 z2
  have f0 := K3.frozen 0
  have f1 := K3.frozen 1
  have f2 := K3.frozen 2
  have hb1 : w.heap.size < w3.heap.size := K3.lt
  rcases b1 <;> rcases b2 <;> rcases b3 <;> rcases b4
  all_goals
    go_wp2
    have Z := ((K3.set_ 0 (.string ⟨r1.toArray⟩)).set_ 1 (.int .i64 n1)).set_ 2 (.int .i64 n2)
    have y0 := Z.cell 0; have y1 := Z.cell 1; have y2 := Z.cell 2
    simp only [List.set_cons_zero, List.set_cons_succ, List.getElem?_cons_zero, List.getElem?_cons_succ] at y0 y1 y2
    clear z0 z1 z2
    have EV := HV.out
    have EK := HK.out
    rw [EV, EK]
    refine bodyPost_ret (v := .tuple #[.agg #[.string ⟨r1.toArray⟩, .int .i64 n1, .int .i64 n2], .bool _]) (by simp [results, Tryd.results15, go_sem, y0, y1, y2]; rfl) rfl ?_
    exact ⟨rfl, by (repeat' (first | (with_reducible exact Below.refl _ _) | (with_reducible assumption) | (with_reducible refine below_drewN ?_ _) | (with_reducible refine Below.drew ?_) | (with_reducible refine below_alloc ?_ _) | (with_reducible refine Below.alloc ?_ ?_ _) | (with_reducible refine Below.setCell ?_ ?_ _) | (with_reducible refine below_go ?_ (by with_reducible assumption)) | (with_reducible refine below_then (by with_reducible assumption) ?_ ?_) | go_size))⟩
end Go.Proofs.YtoheahbkopbmhaaDoor
