/- The walk through the list of all changes, the reference's side. -/
import Derived.Test.YtmdmnjjlpefigaaW2b
import Derived.Test.YtmdmnjjlpefigaaP19
namespace Go.Proofs.Ytmdmnjjlpefigaa
set_option linter.unusedVariables false
set_option linter.unusedSimpArgs false
open Go.ChangeShapes Go.WideShapes Go.ChangeAt Go.RowKit Go.Deep
theorem ins_at {α : Type} {M : List α} {y : α} {q : Nat} (h : q ≤ M.length) : (M.take q ++ y :: M.drop q)[q]? = some y := by
  rw [List.getElem?_append_right (by rw [List.length_take]; omega), List.length_take, Nat.min_eq_left h, Nat.sub_self, List.getElem?_cons_zero]
theorem ins_before {α : Type} {M : List α} {y : α} {q : Nat} (h : q < M.length) : (M.take (q + 1) ++ y :: M.drop (q + 1))[q]? = M[q]? := by
  rw [List.getElem?_append_left (by rw [List.length_take]; omega), List.getElem?_take, if_pos (by omega)]
theorem ins_set {α : Type} {M : List α} {y z : α} {q : Nat} (h : q ≤ M.length) : (M.take q ++ y :: M.drop q).set q z = M.take q ++ z :: M.drop q := by
  rw [List.set_append_right _ _ (by rw [List.length_take]; omega), List.length_take, Nat.min_eq_left h, Nat.sub_self, List.set_cons_zero]
theorem ins_down {α : Type} {M : List α} {y z : α} {q : Nat} (hz : M[q]? = some z) : (M.take (q + 1) ++ y :: M.drop (q + 1)).set (q + 1) z = M.take q ++ z :: M.drop q := by
  have h := (List.getElem?_eq_some_iff.1 hz).1
  rw [ins_set (by omega), take_succ_some hz, List.append_assoc]
  congr 1
  rw [List.drop_eq_getElem_cons h, (List.getElem?_eq_some_iff.1 hz).2]; rfl
theorem ins_len {α : Type} {M : List α} {y : α} {q : Nat} (h : q ≤ M.length) : (M.take q ++ y :: M.drop q).length = M.length + 1 := by
  rw [List.length_append, List.length_cons, List.length_take, List.length_drop]; omega
theorem ins_perm {α : Type} {M : List α} {y : α} {q : Nat} : (M.take q ++ y :: M.drop q).Perm (M ++ [y]) := by
  refine (List.perm_middle).trans ?_
  rw [List.take_append_drop]
  exact (List.perm_append_singleton y M).symm
theorem filt_hit {f : ByteArray → Bool} {g : List Int → ByteArray} {T : List (List Int)} {j : Nat} {r : List Int} (hr : T[j]? = some r) (h : f (g r) = true) : ((T.take (j + 1)).map g).filter f = ((T.take j).map g).filter f ++ [g r] := by
  rw [take_succ_some hr, List.map_append, List.filter_append]
  simp [h]
theorem filt_miss {f : ByteArray → Bool} {g : List Int → ByteArray} {T : List (List Int)} {j : Nat} {r : List Int} (hr : T[j]? = some r) (h : f (g r) = false) : ((T.take (j + 1)).map g).filter f = ((T.take j).map g).filter f := by
  rw [take_succ_some hr, List.map_append, List.filter_append]
  simp [h]
set_option maxHeartbeats 2000000 in
set_option maxRecDepth 100000 in
theorem spec_l2All {n : Nat} {w : World} (hn : n ≤ 8) :
    Calls Try.prog 157 #[.int .i64 n] w fun e w' => ∃ A c L, e = .returned (.slice A L.length c) ∧ Owned strE 1 9 w' w.heap.size A L.length c L ∧ L.Perm (chsRaw n) ∧ Below w.heap.size w w' := by
  have hlen := fromK_le (k := n) hn 1
  have HR := Lib.hid (fromK_row n 1)
  have HC : Hid (chsRaw n = ((fromK 1 n).map ofPl).filter fun c => goodChange n c) := Lib.hid rfl
  go_in
  go_wp2_with fail
  refine (spec_l2From n n 1 w hn hn (by omega) (Nat.le_refl _)).mono ?_; rintro e w1 ⟨vs, A1, c1, rfl, L1, hb1⟩
  obtain ⟨T, hT⟩ : ∃ T, T = fromK 1 n := ⟨_, rfl⟩
  rw [← hT] at hlen HR HC L1 ⊢
  clear hT
  go_wp2
  go_loopw [3, 11] (fun v i wr => ∃ (j : Nat) (M : List ByteArray) (A' : Option Addr) (c' : Nat), j ≤ T.length ∧ i = .int .i64 j ∧ v = .slice A' M.length c' ∧ M.length ≤ j ∧ Hid (M.Perm (((T.take j).map ofPl).filter fun c => goodChange n c)) ∧ Hid (Owned strE 1 9 wr w1.heap.size A' M.length c' M) ∧ Below w1.heap.size w1 wr) (fun _ i _ => T.length - (intOf i).toNat)
  case atStart => exact ⟨0, [], none, 0, Nat.zero_le _, rfl, rfl, Nat.le_refl _, Lib.hid (by simp), Lib.hid (Owned.nil strE_len _ _ _), Below.refl _ _⟩
  case round =>
    obtain ⟨j, M, A', c', hj, rfl, rfl, hm, HP, HO, hb⟩ := hrel
    rename World => wo
    by_cases hlt : j < T.length
    · obtain ⟨b3, o3, v, r, rfl, hbb, hr, hv, hc, ho⟩ := (L1.up hb).at_ hlt
      have hrr := HR.out r (List.mem_of_getElem? hr)
      have hrb : ∀ x ∈ r, 0 ≤ x ∧ x ≤ 9 := fun x hx => by have := hrr.2 x hx; omega
      have hrl : r.length ≤ 8 := by omega
      have hsz := hb.size
      have hos := ofPl_size hrl
      have HRr := Lib.hid hr
      clear hr hv hrr
      go_wp2_with fail
      refine (spec_l2Of rfl ho.recs hrl hrb).mono ?_; rintro e w2 ⟨rfl, hb2⟩
      obtain ⟨s, hs⟩ : ∃ s, s = ofPl r := ⟨_, rfl⟩
      rw [← hs] at hos ⊢
      have HS := Lib.hid hs
      clear hs ho hc hrb
      go_wp2_with fail
      refine (spec_l2Change (by omega) (by unfold I64; omega)).mono ?_; rintro e w' ⟨rfl, rfl⟩
      have hbt := hb.trans (hb2.mono hsz)
      have hsz2 := hb2.size
      rcases hg : goodChange n s
      · have e1 := Lib.hid (filt_miss (f := fun c => goodChange n c) (g := ofPl) HRr.out (by rw [← HS.out]; exact hg))
        go_wp2
        go_roundw
        case rel => exact ⟨j + 1, M, A', c', by omega, by go_num, rfl, by omega, Lib.hid (by rw [e1.out]; exact HP.out), Lib.hid (HO.out.up hb2), hbt⟩
        case measure => simp [intOf]; omega
      · have e1 := Lib.hid (filt_hit (f := fun c => goodChange n c) (g := ofPl) HRr.out (by rw [← HS.out]; exact hg))
        have HO2 := Lib.hid (HO.out.up hb2)
        go_wp2_with (first | (at_builtin; go_must ((refine wpList_append_rec Try.elStr rfl (.tmp 23) (.tmp 25) rfl rfl (HO2.out.alloc _) s rfl (Box.at_ _ [.string s] _ ?_) (strE_one _) ?_ (by decide) ?_ ?_; (focus (first | omega | (simp only [World.size_alloc]; done) | (simp only [World.size_alloc]; omega) | (simp; done) | (simp; omega))); (focus (first | omega | (simp only [World.size_alloc]; done) | (simp only [World.size_alloc]; omega) | (simp; done) | (simp; omega))); (focus (first | omega | (simp only [World.size_alloc]; done) | (simp only [World.size_alloc]; omega) | (simp; done) | (simp; omega))); intro A3 c3 w3 ho3 hg3 hb3))))
        have hb3' : Below w1.heap.size w1 w3 := (hbt.alloc (by omega) _).trans hb3
        have h0 : Hid (Owned strE 1 9 w3 w1.heap.size A3 (M.length + 1) c3 (M.take M.length ++ s :: M.drop M.length)) := Lib.hid (by rw [List.take_of_length_le (Nat.le_refl _), List.drop_length]; exact ho3)
        clear ho3 hg3
        go_loopw [7] (fun k wr => ∃ (q : Nat) (y : ByteArray), q ≤ M.length ∧ k = .int .i64 q ∧ Hid (Owned strE 1 9 wr w1.heap.size A3 (M.length + 1) c3 (M.take q ++ y :: M.drop q)) ∧ Below w1.heap.size w1 wr) (fun k _ => (intOf k).toNat)
        case atStart => exact ⟨M.length, s, Nat.le_refl _, rfl, h0, hb3'⟩
        case round =>
          obtain ⟨q, y, hq, rfl, HQ, hbq⟩ := hrel
          obtain ⟨g, rfl, _, lg, hcell, hfz⟩ := HQ.out.at_ (by omega)
          have cy := hcell q y 0 _ (ins_at hq) rfl
          have fq := hfz q
          have pt := Lib.hid (HQ.out.put (j := 0) (x := s) (u := .string s) (ins_at hq) (by decide) rfl)
          simp only [Nat.mul_one, Nat.add_zero] at cy
          have PT : Hid (Owned strE 1 9 (wr.setCell ⟨g, q, none⟩ (.string s)) w1.heap.size (some ⟨g, 0, none⟩) (M.length + 1) c3 (M.take q ++ s :: M.drop q)) := Lib.hid (by have h := pt.out.1; simp only [Nat.mul_one, Nat.add_zero] at h; rw [ins_set hq] at h; exact h)
          have PB : Below w1.heap.size w1 (wr.setCell ⟨g, q, none⟩ (.string s)) := hbq.setCell (HQ.out.at_own).1 _
          have il := Lib.hid (ins_len (y := s) hq)
          have EP : Hid ((M.take q ++ s :: M.drop q).Perm (((T.take (j + 1)).map ofPl).filter fun c => goodChange n c)) := Lib.hid (by rw [e1.out, ← HS.out]; exact ins_perm.trans (HP.out.append_right [s]))
          rcases q with _ | q
          · clear hcell hfz pt
            go_wp2
            go_roundw
            case rel => exact ⟨j + 1, M.take 0 ++ s :: M.drop 0, _, c3, by omega, by go_num, by rw [il.out], by rw [il.out]; omega, EP, by rw [il.out]; exact PT, PB⟩
            case measure => simp [intOf]; omega
          · obtain ⟨z, hz⟩ := some_of_lt (l := M) (k := q) (by omega)
            have cz := hcell q z 0 _ ((ins_before (by omega)).trans hz) rfl
            simp only [Nat.mul_one, Nat.add_zero] at cz
            have HZ := Lib.hid (ins_down (y := y) hz)
            clear hcell hfz pt hz
            rcases hgt : less s z
            · obtain ⟨l1, l2⟩ := less_no hgt
              rcases l2 with l2 | ⟨l2, l3⟩
              all_goals
                go_wp2
                go_roundw
                case rel => exact ⟨j + 1, M.take (q + 1) ++ s :: M.drop (q + 1), _, c3, by omega, by go_num, by rw [il.out], by rw [il.out]; omega, EP, by rw [il.out]; exact PT, PB⟩
                case measure => simp [intOf]; omega
            · obtain ⟨l1, l2, l3⟩ := less_yes hgt
              have PZ := Lib.hid (HQ.out.put (j := 0) (x := z) (u := .string z) (ins_at hq) (by decide) rfl)
              have PZ2 : Hid (Owned strE 1 9 (wr.setCell ⟨g, q + 1, none⟩ (.string z)) w1.heap.size (some ⟨g, 0, none⟩) (M.length + 1) c3 (M.take q ++ z :: M.drop q)) := Lib.hid (by have h := PZ.out.1; simp only [Nat.mul_one, Nat.add_zero] at h; rw [HZ.out] at h; exact h)
              have PZ3 : Below w1.heap.size w1 (wr.setCell ⟨g, q + 1, none⟩ (.string z)) := hbq.setCell (HQ.out.at_own).1 _
              clear PZ
              go_wp2
              go_roundw
              case rel => exact ⟨q, z, by omega, rfl, PZ2, PZ3⟩
              case measure => simp [intOf]
    · obtain rfl : j = T.length := by omega
      go_wp2
      go_ret
      have h := HP.out
      rw [List.take_of_length_le (Nat.le_refl _), ← HC.out] at h
      exact ⟨_, _, M, rfl, HO.out.base_le hb1.size, h, below_go hb1 hb⟩
end Go.Proofs.Ytmdmnjjlpefigaa
