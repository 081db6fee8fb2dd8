/- The walks through numbers read off texts and texts cut at a byte, both sides. -/
import Derived.Test.YtoheahbkopbmhaaDoorP21r
import Derived.Test.YtoheahbkopbmhaaDoorApp2
import Derived.Test.YtoheahbkopbmhaaDoorW6c0
import Derived.Deep.DeepCutAuto
namespace Go.Proofs.YtoheahbkopbmhaaDoor
set_option linter.unusedVariables false
set_option linter.unusedSimpArgs false
open Go.ChangeShapes Go.WideShapes Go.ChangeAt Go.RowKit Go.Deep
theorem bt_data {s : ByteArray} {k : Nat} {b : UInt8} (h : s.data.toList[k]? = some b) : PlainAid.bt s k = (b.toNat : Int) ∧ k < s.size := by
  have hk := (List.getElem?_eq_some_iff.1 h).1
  have hk' : k < s.size := by simpa using hk
  refine ⟨?_, hk'⟩
  have h2 := (List.getElem?_eq_some_iff.1 h).2
  have h3 : s[k] = b := by rw [← h2]; rfl
  rw [← PlainAid.get_bt s k hk', h3]
theorem data_at (s : ByteArray) {k : Nat} (h : k < s.size) : ∃ b, s.data.toList[k]? = some b := ⟨s.data.toList[k]'(by simpa using h), List.getElem?_eq_getElem _⟩
theorem dg_of {s : ByteArray} {k : Nat} {b : UInt8} (h : s.data.toList[k]? = some b) : isDg b = (!decide (PlainAid.bt s k < 48) && !decide (57 < PlainAid.bt s k)) := by
  rw [(bt_data h).1, isDg, Bool.eq_iff_iff]
  simp
  omega
theorem all_take_no {l : List UInt8} {k : Nat} {b : UInt8} (h : l[k]? = some b) (hb : isDg b = false) : l.all isDg = false := by
  rcases q : l.all isDg
  · rfl
  · rw [List.all_eq_true] at q
    rw [q b (List.mem_of_getElem? h)] at hb; cases hb
def numOk (s : ByteArray) (most : Int) : Bool := decide ((s.size : Int) ≤ most) && canon s.data.toList
def numV (s : ByteArray) (most : Int) : Int := if numOk s most = true then (valL s.data.toList : Int) else 0
theorem numV_f {s : ByteArray} {most : Int} (h : numOk s most = false) : numV s most = 0 := if_neg (by rw [h]; simp)
theorem numV_t {s : ByteArray} {most : Int} (h : numOk s most = true) : numV s most = (valL s.data.toList : Int) := if_pos h
theorem val_step {l : List UInt8} {k : Nat} {b : UInt8} (h : l[k]? = some b) : valL (l.take (k + 1)) = 10 * valL (l.take k) + (b.toNat - 48) := by rw [take_succ_some h, valL_snoc]
theorem val_bound {s : ByteArray} {k : Nat} (hk : k ≤ s.size) (h : (s.data.toList.take k).all isDg = true) (h8 : s.size ≤ 8) : valL (s.data.toList.take k) ≤ 100000000 := by
  have hl : (s.data.toList.take k).length = k := by rw [List.length_take]; have : s.data.toList.length = s.size := rfl; omega
  have h1 := valL_lt k _ hl h
  have h2 : 10 ^ k ≤ 10 ^ 8 := Nat.pow_le_pow_right (by decide) (by omega)
  omega
set_option maxHeartbeats 2000000 in
set_option maxRecDepth 100000 in
theorem impl_number {s : ByteArray} {most : Int} {w : World} (hz : s.size ≤ 16777216) (hm : 0 ≤ most ∧ most ≤ 8) :
    Calls Tryd.prog 30 #[.string s, .int .i64 most] w fun e w' => e = .returned (.tuple #[.int .i64 (numV s most), .bool (numOk s most)]) ∧ w = w' := by
  have HQ : Hid (numOk s most = (decide ((s.size : Int) ≤ most) && (decide (1 ≤ s.data.toList.length) && (!(decide (1 < s.data.toList.length) && decide (s.data.toList[0]? = some 48)) && s.data.toList.all isDg)))) := Lib.hid rfl
  have hlen : Hid (s.data.toList.length = s.size) := Lib.hid rfl
  have hb := PlainAid.get_bt s
  by_cases h1 : s.size < 1
  · have e2 := Lib.hid (show numOk s most = false by rw [HQ.out, hlen.out, show decide (1 ≤ s.size) = false from decide_eq_false (by omega)]; simp)
    have e1 := Lib.hid (numV_f e2.out)
    have hI : (s.size : Int) < 1 := by omega
    go_in
    go_wp2
    go_ret2
    rw [e1.out, e2.out]
    exact ⟨rfl, rfl⟩
  have hI1 : ¬ (s.size : Int) < 1 := by omega
  by_cases h2 : most < (s.size : Int)
  · have e2 := Lib.hid (show numOk s most = false by rw [HQ.out, decide_eq_false (show ¬ (s.size : Int) ≤ most by omega)]; rfl)
    have e1 := Lib.hid (numV_f e2.out)
    go_in
    go_wp2
    go_ret2
    rw [e1.out, e2.out]
    exact ⟨rfl, rfl⟩
  have h8 : s.size ≤ 8 := by omega
  obtain ⟨b0, hb0⟩ := data_at s (k := 0) (by omega)
  have hbt0 := (bt_data hb0).1
  have hpos : 0 < s.size := by omega
  have HW := Lib.hid (show (s.size > 1 → b0 ≠ 48) → numOk s most = s.data.toList.all isDg from fun h => by
    rw [HQ.out, decide_eq_true (show (s.size : Int) ≤ most by omega), hlen.out, show decide (1 ≤ s.size) = true from decide_eq_true (by omega)]
    have : (decide (1 < s.size) && decide (s.data.toList[0]? = some 48)) = false := by
      by_cases h1 : 1 < s.size
      · rw [hb0, decide_eq_false (show ¬ (some b0 = some (48 : UInt8)) from fun e => h h1 (by injection e))]; simp
      · rw [decide_eq_false h1]; rfl
    rw [this]; rfl)
  have HZ := Lib.hid (show s.size > 1 → b0 = 48 → numOk s most = false from fun h h' => by
    rw [HQ.out, hlen.out, decide_eq_true (show 1 < s.size from h), hb0, h']; simp)
  by_cases h3 : (1 : Int) < (s.size : Int)
  · by_cases h4 : PlainAid.bt s 0 = 48
    · have e2 := Lib.hid (HZ.out (by omega) (UInt8.toNat_inj.1 (by rw [h4] at hbt0; have : (48 : UInt8).toNat = 48 := rfl; omega)))
      have e1 := Lib.hid (numV_f e2.out)
      clear hb0 hbt0
      go_in
      go_wp2
      go_ret2
      rw [e1.out, e2.out]
      exact ⟨rfl, rfl⟩
    · have HA := Lib.hid (HW.out (fun _ e => h4 (by rw [hbt0, e]; rfl)))
      have h4b : (PlainAid.bt s 0 == 48) = false := by simpa using h4
      clear hb0 hbt0
      go_in
      go_wp2
      go_loopw [6, 29] (fun a i wr => ∃ k v : Nat, k ≤ s.size ∧ i = .int .i64 k ∧ a = .int .i64 v ∧ Hid (v = valL (s.data.toList.take k)) ∧ v ≤ 100000000 ∧ Hid ((s.data.toList.take k).all isDg = true) ∧ w = wr) (fun _ i _ => s.size - (intOf i).toNat)
      case atStart => exact ⟨0, 0, Nat.zero_le _, rfl, rfl, Lib.hid rfl, by decide, Lib.hid rfl, rfl⟩
      case round =>
        obtain ⟨k, v, hk, rfl, rfl, HV, hv, HD, rfl⟩ := hrel
        by_cases hlt : k < s.size
        · obtain ⟨b, hbk⟩ := data_at s hlt
          have hbt := (bt_data hbk).1
          have hdg := dg_of hbk
          rcases hd : isDg b
          · have e2 := Lib.hid (show numOk s most = false by rw [HA.out]; exact all_take_no hbk hd)
            have e1 := Lib.hid (numV_f e2.out)
            rw [hd] at hdg
            by_cases h48 : PlainAid.bt s k < 48
            · clear hdg hbk hbt
              go_wp2
              go_ret2
              rw [e1.out, e2.out]
              exact ⟨rfl, rfl⟩
            · have h57 : 57 < PlainAid.bt s k := by
                rw [decide_eq_false h48] at hdg
                by_cases h : 57 < PlainAid.bt s k
                · exact h
                · rw [decide_eq_false h] at hdg; cases hdg
              clear hdg hbk hbt
              go_wp2
              go_ret2
              rw [e1.out, e2.out]
              exact ⟨rfl, rfl⟩
          · simp only [isDg, Bool.and_eq_true, decide_eq_true_eq] at hd
            have h48 : ¬ PlainAid.bt s k < 48 := by omega
            have h57 : ¬ 57 < PlainAid.bt s k := by omega
            have hw : IntKind.u8.wrap (PlainAid.bt s k - 48) = PlainAid.bt s k - 48 := by rw [IntKind.wrap_u8]; omega
            have HD2 := Lib.hid (show (s.data.toList.take (k + 1)).all isDg = true by
              rw [take_succ_some hbk, List.all_append, HD.out]; simp [isDg, hd.1, hd.2])
            have HV2 := Lib.hid (show 10 * v + (b.toNat - 48) = valL (s.data.toList.take (k + 1)) by rw [val_step hbk, ← HV.out])
            have hv2 : 10 * v + (b.toNat - 48) ≤ 100000000 := by rw [HV2.out]; exact val_bound hlt HD2.out h8
            have HEQ := Lib.hid (show (10 * (v : Int) + (PlainAid.bt s k - 48)) = ((10 * v + (b.toNat - 48) : Nat) : Int) by omega)
            have hlo : 0 ≤ PlainAid.bt s k - 48 ∧ PlainAid.bt s k - 48 ≤ 9 := by omega
            clear hdg hbk hbt
            go_wp2
            go_roundw
            case rel => exact ⟨k + 1, 10 * v + (b.toNat - 48), by omega, by go_num, congrArg (Value.int .i64) HEQ.out, HV2, hv2, HD2, trivial⟩
            case measure => simp [intOf]; omega
        · obtain rfl : k = s.size := by omega
          have ht : s.data.toList.take s.size = s.data.toList := List.take_of_length_le (by rw [hlen.out]; exact Nat.le_refl _)
          have e2 := Lib.hid (show numOk s most = true by rw [HA.out, ← ht]; exact HD.out)
          have e1 := Lib.hid (numV_t e2.out)
          have HV3 := Lib.hid (show v = valL s.data.toList by rw [HV.out, ht])
          go_wp2
          go_ret2
          rw [e1.out, e2.out, ← HV3.out]
          exact ⟨rfl, rfl⟩
  · have HA := Lib.hid (HW.out (fun h _ => absurd h (by omega)))
    clear hb0 hbt0
    go_in
    go_wp2
    go_loopw [6, 29] (fun a i wr => ∃ k v : Nat, k ≤ s.size ∧ i = .int .i64 k ∧ a = .int .i64 v ∧ Hid (v = valL (s.data.toList.take k)) ∧ v ≤ 100000000 ∧ Hid ((s.data.toList.take k).all isDg = true) ∧ w = wr) (fun _ i _ => s.size - (intOf i).toNat)
    case atStart => exact ⟨0, 0, Nat.zero_le _, rfl, rfl, Lib.hid rfl, by decide, Lib.hid rfl, rfl⟩
    case round =>
      obtain ⟨k, v, hk, rfl, rfl, HV, hv, HD, rfl⟩ := hrel
      by_cases hlt : k < s.size
      · obtain ⟨b, hbk⟩ := data_at s hlt
        have hbt := (bt_data hbk).1
        have hdg := dg_of hbk
        rcases hd : isDg b
        · have e2 := Lib.hid (show numOk s most = false by rw [HA.out]; exact all_take_no hbk hd)
          have e1 := Lib.hid (numV_f e2.out)
          rw [hd] at hdg
          by_cases h48 : PlainAid.bt s k < 48
          · clear hdg hbk hbt
            go_wp2
            go_ret2
            rw [e1.out, e2.out]
            exact ⟨rfl, rfl⟩
          · have h57 : 57 < PlainAid.bt s k := by
              rw [decide_eq_false h48] at hdg
              by_cases h : 57 < PlainAid.bt s k
              · exact h
              · rw [decide_eq_false h] at hdg; cases hdg
            clear hdg hbk hbt
            go_wp2
            go_ret2
            rw [e1.out, e2.out]
            exact ⟨rfl, rfl⟩
        · simp only [isDg, Bool.and_eq_true, decide_eq_true_eq] at hd
          have h48 : ¬ PlainAid.bt s k < 48 := by omega
          have h57 : ¬ 57 < PlainAid.bt s k := by omega
          have hw : IntKind.u8.wrap (PlainAid.bt s k - 48) = PlainAid.bt s k - 48 := by rw [IntKind.wrap_u8]; omega
          have HD2 := Lib.hid (show (s.data.toList.take (k + 1)).all isDg = true by
            rw [take_succ_some hbk, List.all_append, HD.out]; simp [isDg, hd.1, hd.2])
          have HV2 := Lib.hid (show 10 * v + (b.toNat - 48) = valL (s.data.toList.take (k + 1)) by rw [val_step hbk, ← HV.out])
          have hv2 : 10 * v + (b.toNat - 48) ≤ 100000000 := by rw [HV2.out]; exact val_bound hlt HD2.out h8
          have HEQ := Lib.hid (show (10 * (v : Int) + (PlainAid.bt s k - 48)) = ((10 * v + (b.toNat - 48) : Nat) : Int) by omega)
          have hlo : 0 ≤ PlainAid.bt s k - 48 ∧ PlainAid.bt s k - 48 ≤ 9 := by omega
          clear hdg hbk hbt
          go_wp2
          go_roundw
          case rel => exact ⟨k + 1, 10 * v + (b.toNat - 48), by omega, by go_num, congrArg (Value.int .i64) HEQ.out, HV2, hv2, HD2, trivial⟩
          case measure => simp [intOf]; omega
      · obtain rfl : k = s.size := by omega
        have ht : s.data.toList.take s.size = s.data.toList := List.take_of_length_le (by rw [hlen.out]; exact Nat.le_refl _)
        have e2 := Lib.hid (show numOk s most = true by rw [HA.out, ← ht]; exact HD.out)
        have e1 := Lib.hid (numV_t e2.out)
        have HV3 := Lib.hid (show v = valL s.data.toList by rw [HV.out, ht])
        go_wp2
        go_ret2
        rw [e1.out, e2.out, ← HV3.out]
        exact ⟨rfl, rfl⟩
theorem str_ne_empty {s : ByteArray} (h : 0 < s.size) : s.toList.isEmpty = false := by
  rw [ByteArray.toList_eq]
  have : s.data.toList.length = s.size := rfl
  rcases e : s.data.toList with _ | ⟨x, l⟩
  · rw [e] at this; simp at this; omega
  · rfl
def l21Ok (s : ByteArray) : Bool := decide (1 ≤ s.size ∧ s.size ≤ 7) && s.data.toList.all isDg
def l21V (s : ByteArray) : Int := if l21Ok s = true then (valL s.data.toList : Int) else -1
theorem l21V_f {s : ByteArray} (h : l21Ok s = false) : l21V s = -1 := if_neg (by rw [h]; simp)
theorem l21V_t {s : ByteArray} (h : l21Ok s = true) : l21V s = (valL s.data.toList : Int) := if_pos h
theorem ext_list (s : ByteArray) (a b : Nat) : (s.extract a b).data.toList = (s.data.toList.drop a).take (b - a) := by rw [Lib.extract_data]
theorem spl_hit {c : UInt8} {D : List UInt8} {f k : Nat} (hf : f ≤ k) (hk : D[k]? = some c) (hn : ∀ j, f ≤ j → j < k → D[j]? ≠ some c) : spl c (D.drop f) = (D.drop f).take (k - f) :: spl c (D.drop (k + 1)) := by
  have h1 : (D.drop f)[k - f]? = some c := by rw [List.getElem?_drop, show f + (k - f) = k by omega]; exact hk
  have e := take_drop_at h1
  conv => lhs; rw [e]
  rw [spl_app _ _ (take_clean (fun j hj => by rw [List.getElem?_drop]; exact hn _ (by omega) (by omega))), List.drop_drop, show f + (k - f + 1) = k + 1 by omega]
theorem spl_last {c : UInt8} {D : List UInt8} {f : Nat} (hn : ∀ j, f ≤ j → j < D.length → D[j]? ≠ some c) : spl c (D.drop f) = [D.drop f] := spl_clean _ (not_mem_at fun j hj => by
  rw [List.getElem?_drop] at hj
  have := (List.getElem?_eq_some_iff.1 hj).1
  exact hn _ (by omega) this hj)
set_option maxHeartbeats 2000000 in
set_option maxRecDepth 100000 in
theorem spec_l1Split {s : ByteArray} {c : UInt8} {z : Int} {w : World} (hz : s.size ≤ 1048576) (hc : z = (c.toNat : Int)) :
    Calls Tryd.prog 9 #[.string s, .int .u8 z] w fun e w' => ∃ A' c', e = .returned (.slice A' (splB c s).length c') ∧ Owned strE 1 9 w' w.heap.size A' (splB c s).length c' (splB c s) ∧ Below w.heap.size w w' := by
  subst hc
  have hb := PlainAid.get_bt s
  have hlen : Hid (s.data.toList.length = s.size) := Lib.hid rfl
  go_in
  go_wp2
  go_loopw [5, 6, 7] (fun v f i wr => ∃ (k g m : Nat) (A' : Option Addr) (c' : Nat) (O : List ByteArray), k ≤ s.size ∧ g ≤ k ∧ m ≤ k ∧ i = .int .i64 k ∧ f = .int .i64 g ∧ v = .slice A' m c' ∧ Hid (Owned strE 1 9 wr w.heap.size A' m c' O) ∧ Hid (spl c s.data.toList = O.map (·.data.toList) ++ spl c (s.data.toList.drop g)) ∧ Hid (∀ j, g ≤ j → j < k → s.data.toList[j]? ≠ some c) ∧ Below w.heap.size w wr) (fun _ _ i _ => s.size - (intOf i).toNat)
  case atStart => exact ⟨0, 0, 0, none, 0, [], Nat.zero_le _, Nat.le_refl _, Nat.le_refl _, rfl, rfl, rfl, Lib.hid (Owned.nil strE_len _ _ _), Lib.hid rfl, Lib.hid (fun j h1 h2 => absurd h2 (by omega)), Below.refl _ _⟩
  case round =>
    obtain ⟨k, g, m, A1, c1, O, hk, hgk, hmk, rfl, rfl, rfl, HO, HS, HN, hbr⟩ := hrel
    rename World => wr
    have hszr := hbr.size
    by_cases hlt : k < s.size
    · obtain ⟨b, hbk⟩ := data_at s hlt
      have hbt := (bt_data hbk).1
      by_cases hbc : b = c
      · have heq : (PlainAid.bt s k == (c.toNat : Int)) = true := by rw [hbt, hbc]; simp
        have heq2 : PlainAid.bt s k = (c.toNat : Int) := by rw [hbt, hbc]
        have HB2 := Lib.hid (spl_hit hgk (by rw [hbk, hbc]) HN.out)
        have HS2 := Lib.hid (show spl c s.data.toList = (O ++ [s.extract g k]).map (·.data.toList) ++ spl c (s.data.toList.drop (k + 1)) by
          rw [HS.out, HB2.out, List.map_append, List.map_cons, List.map_nil, ext_list]; simp)
        have hI1 : (g : Int) ≤ (k : Int) := by omega
        have hI2 : (k : Int) ≤ (s.size : Int) := by omega
        clear hbk hbt
        go_wp2_with (first | (at_builtin; go_must ((refine wpList_append_recs Tryd.elStr strE_one rfl (.tmp 19) (.tmp 24) rfl rfl (HO.out.alloc _) rfl (own_lit1_at' strE_len _ 9 (s.extract g k) rfl (Nat.le_refl _)).recs rfl ?_ (by decide) ?_ ?_; (focus (first | omega | (simp only [World.size_alloc]; done) | (simp only [World.size_alloc]; omega) | (simp; done) | (simp; omega))); (simp; omega); intro A3 c3 w6 ho6 hg6 hl6; have hb6 : Below w.heap.size w w6 := (hbr.alloc hszr _).trans (grown_base hg6 (by simp; omega) (fun z hz => (HO.out.range z hz).1))))))
        go_roundw
        case rel => exact ⟨k + 1, k + 1, m + 1, A3, c3, O ++ [s.extract g k], by omega, Nat.le_refl _, by omega, by go_num, by go_num, by go_num, Lib.hid ho6, HS2, Lib.hid (fun j h1 h2 => absurd h2 (by omega)), hb6⟩
        case measure => simp [intOf]; omega
      · have hne0 : ¬ PlainAid.bt s k = (c.toNat : Int) := fun e => hbc (UInt8.toNat_inj.1 (by rw [hbt] at e; omega))
        have heq : (PlainAid.bt s k == (c.toNat : Int)) = false := by simpa using hne0
        have HN2 := Lib.hid (show ∀ j, g ≤ j → j < k + 1 → s.data.toList[j]? ≠ some c from fun j h1 h2 => by
          by_cases e : j < k
          · exact HN.out j h1 e
          · obtain rfl : j = k := by omega
            rw [hbk]; intro e2; injection e2 with e2; exact hbc e2)
        clear hbk hbt
        go_wp2
        go_roundw
        case rel => exact ⟨k + 1, g, m, A1, c1, O, by omega, by omega, by omega, by go_num, rfl, rfl, HO, HS, HN2, hbr⟩
        case measure => simp [intOf]; omega
    · obtain rfl : k = s.size := by omega
      have HL := Lib.hid (spl_last (c := c) (D := s.data.toList) (f := g) (fun j h1 h2 => HN.out j h1 (by rw [← hlen.out]; exact h2)))
      have HF := Lib.hid (show splB c s = O ++ [s.extract g s.size] by
        rw [splB, HS.out, HL.out, List.map_append, List.map_map]
        have : ((fun l : List UInt8 => (⟨l.toArray⟩ : ByteArray)) ∘ fun x : ByteArray => x.data.toList) = id := by
          funext x; apply ByteArray.ext; simp
        rw [this, List.map_id, List.map_cons, List.map_nil]
        congr 2
        apply ByteArray.ext
        rw [← Array.toList_inj]
        rw [ext_list, List.take_of_length_le (by rw [List.length_drop, hlen.out]; exact Nat.le_refl _)])
      have hI1 : (g : Int) ≤ (s.size : Int) := by omega
      go_wp2_with (first | (at_builtin; go_must ((refine wpList_append_recs Tryd.elStr strE_one rfl (.tmp 28) (.tmp 32) rfl rfl (HO.out.alloc _) rfl (own_lit1_at' strE_len _ 9 (s.extract g s.size) rfl (Nat.le_refl _)).recs rfl ?_ (by decide) ?_ ?_; (focus (first | omega | (simp only [World.size_alloc]; done) | (simp only [World.size_alloc]; omega) | (simp; done) | (simp; omega))); (simp; omega); intro A3 c3 w6 ho6 hg6 hl6; have hb6 : Below w.heap.size w w6 := (hbr.alloc hszr _).trans (grown_base hg6 (by simp; omega) (fun z hz => (HO.out.range z hz).1))))))
      go_ret
      have hl := ho6.len
      rw [← HF.out] at ho6 hl
      rw [hl]
      exact ⟨_, _, rfl, ho6, hb6⟩
end Go.Proofs.YtoheahbkopbmhaaDoor
