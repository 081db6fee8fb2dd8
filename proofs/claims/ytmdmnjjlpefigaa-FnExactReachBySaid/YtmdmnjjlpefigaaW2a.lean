/- The walks through all changes of a stage, the reference's side. -/
import Derived.Test.YtmdmnjjlpefigaaP2a
import Derived.Test.YtmdmnjjlpefigaaApp2
namespace Go.Proofs.Ytmdmnjjlpefigaa
set_option linter.unusedVariables false
set_option linter.unusedSimpArgs false
open Go.ChangeShapes Go.WideShapes Go.ChangeAt Go.RowKit Go.Deep
theorem own_lit1 {α : Type} {e : α → List Value} {s : Nat} (he : ∀ x, (e x).length = s) (w : World) (E : TypeId) (x : α) {base : Nat} (hb : base ≤ w.heap.size) : Owned e s E (w.alloc (.cells ⟨e x⟩ E)) base (some ⟨w.heap.size, 0, none⟩) 1 1 [x] :=
  ⟨he, rfl, by simpa using World.ownsRow_lit (e := E) (base := base) (size := s) w ⟨e x⟩ 1 hb (by unfold maxLen; omega) (by simp [he])⟩
set_option maxHeartbeats 1000000 in
set_option maxRecDepth 100000 in
theorem spec_l2From : ∀ (k n p : Nat) (w : World), k ≤ 8 → n ≤ 8 → n + 1 = p + k → 1 ≤ p →
    Calls Try.prog 186 #[.int .i64 n, .int .i64 p] w fun e w' => ∃ vs A c, e = .returned (.slice A (fromK p k).length c) ∧ LT intE 1 3 103 vs w' w.heap.size A (fromK p k).length c (fromK p k) ∧ Below w.heap.size w w' := by
  intro k
  induction k using Nat.strongRecOn with
  | ind k ih =>
    intro n p w hk hn8 hn hp
    by_cases h0 : k = 0
    · subst h0
      have hI : (n : Int) < (p : Int) := by omega
      have hl : LT intE 1 3 103 [(none, 0, 0)] (w.alloc (.cells #[.slice none 0 0] 103)) w.heap.size (some ⟨w.heap.size, 0, none⟩) 1 1 [[]] := ⟨rfl, own_lit1 slcE_len w 103 (none, 0, 0) (Nat.le_refl _), fun j v r hv hr => by
        have hj : j = 0 := by have := (List.getElem?_eq_some_iff.1 hv).1; simp at this; exact this
        subst hj
        simp at hv hr
        subst hv hr
        exact Owned.nil intE_len _ _ _⟩
      go_in
      go_wp2
      go_ret
      exact ⟨_, _, _, rfl, hl, by (repeat' (first | (with_reducible exact Below.refl _ _) | (with_reducible assumption) | (with_reducible refine below_drewN ?_ _) | (with_reducible refine Below.drew ?_) | (with_reducible refine below_alloc ?_ _) | (with_reducible refine Below.alloc ?_ ?_ _) | (with_reducible refine Below.setCell ?_ ?_ _) | (with_reducible refine below_go ?_ (by with_reducible assumption)) | (with_reducible refine below_then (by with_reducible assumption) ?_ ?_) | go_size))⟩
    · obtain ⟨q, rfl⟩ : ∃ q, k = q + 1 := ⟨k - 1, by omega⟩
      have hI : ¬ (n : Int) < (p : Int) := by omega
      have IH := Lib.hid (ih q (by omega))
      have IH2 := Lib.hid (fun m (hm : m + 1 = q) => ih m (by omega))
      have hlen := Lib.hid (fromK_le (k := q) (by omega) (p + 1))
      have hrow := Lib.hid (fromK_row q (p + 1))
      have hT : Hid (fromK p (q + 1) = (fromK (p + 1) q).map (fun r => (p : Int) :: r) ++ (if q = 0 then [] else fromK (p + 2) (q - 1))) := Lib.hid (by rcases q with _ | q <;> simp [fromK])
      clear ih
      go_in
      go_wp2_with fail
      rw [show ((p : Int) + 1) = ((p + 1 : Nat) : Int) by omega]
      refine (IH.out n (p + 1) w (by omega) (by omega) (by omega) (by omega)).mono ?_; rintro e w1 ⟨vs1, A1, c1, rfl, L1, hb1⟩
      have HW1 := hb1.size
      go_wp2
      go_loopw [5, 17] (fun v i wr => ∃ (j : Nat) (us : List Hd) (A' : Option Addr) (c' : Nat), j ≤ (fromK (p + 1) q).length ∧ i = .int .i64 j ∧ v = .slice A' j c' ∧ Hid (LT intE 1 3 103 us wr w1.heap.size A' j c' (((fromK (p + 1) q).take j).map fun r => (p : Int) :: r)) ∧ Below w1.heap.size w1 wr) (fun _ i _ => (fromK (p + 1) q).length - (intOf i).toNat)
      case atStart => exact ⟨0, [], none, 0, Nat.zero_le _, rfl, rfl, Lib.hid (LT.nil _ _), Below.refl _ _⟩
      case round =>
        obtain ⟨j, us, A', c', hj, rfl, rfl, HL, hb⟩ := hrel
        by_cases hlt : j < (fromK (p + 1) q).length
        · obtain ⟨b3, o3, v, r, rfl, hbb, hr, hv, hc, ho⟩ := (L1.up hb).at_ hlt
          have hrl := hrow.out r (List.mem_of_getElem? hr)
          have HR := Lib.hid hr
          have HO := Lib.hid ho
          have hsz := hb.size
          have hl := hlen.out
          clear hr hv ho
          go_wp2_with (first | (at_builtin; ((refine wpList_append_recs Try.elInt intE_one rfl (.tmp 23) (.tmp 24) rfl rfl (own_lit1 intE_len _ _ (p : Int) (base := wr.heap.size) (Nat.le_refl _)) rfl (HO.out.recs.alloc _) rfl ?_ (by decide) ?_ ?_; (focus (first | omega | (simp only [World.size_alloc]; done) | (simp only [World.size_alloc]; omega) | (simp; done) | (simp; omega))); (focus (first | omega | (simp only [World.size_alloc]; done) | (simp only [World.size_alloc]; omega) | (simp; done) | (simp; omega))); intro A2 c2 w2 ho2 hg2 hl2; have hb2 := lit_app hg2; have HL2 := Lib.hid (HL.out.up hb2); have hsz2 := hb2.size))) | (at_builtin; go_must ((refine wpList_append_recs Try.elInts slcE_one rfl (.tmp 21) (.tmp 26) rfl rfl (HL2.out.top.alloc _) rfl (own_lit1 slcE_len _ _ ((A2, 1 + r.length, c2) : Hd) (Nat.le_refl _)).recs rfl ?_ (by decide) ?_ ?_; (focus (first | omega | (simp only [World.size_alloc]; done) | (simp only [World.size_alloc]; omega) | (simp; done) | (simp; omega))); (focus (first | omega | (simp only [World.size_alloc]; done) | (simp only [World.size_alloc]; omega) | (simp; done) | (simp; omega))); intro A3 c3 w3 ho3 hg3 hl3))))
          have hL3 := (HL2.out.alloc (.cells #[.slice A2 (1 + r.length) c2] 103)).add (by decide) ((ho2.base_le hsz).alloc _) ho3 hg3
          have hb3 : Below w1.heap.size w1 w3 := ((hb.trans (hb2.mono hsz)).alloc (by omega) _).trans (grown_base hg3 (by simp; omega) (fun k hk => (HL2.out.top.blk hk).1))
          go_roundw
          case rel => exact ⟨j + 1, _, A3, c3, by omega, by go_num, by go_num, Lib.hid (by rw [take_succ_some HR.out, List.map_append]; exact hL3), hb3⟩
          case measure => simp [intOf]; omega
        · obtain rfl : j = (fromK (p + 1) q).length := by omega
          have e1 := Lib.hid (show ((fromK (p + 1) q).take (fromK (p + 1) q).length).map (fun r => (p : Int) :: r) = (fromK (p + 1) q).map fun r => (p : Int) :: r by rw [List.take_of_length_le (Nat.le_refl _)])
          have hsz := hb.size
          rcases Nat.eq_zero_or_pos q with hq | hq
          · subst hq
            have hI2 : ¬ (p : Int) < (n : Int) := by omega
            have e2 := Lib.hid (show fromK p (0 + 1) = (fromK (p + 1) 0).map (fun r => (p : Int) :: r) by rw [hT.out]; simp)
            have e3 := Lib.hid (show (fromK (p + 1) 0).length = 1 from rfl)
            go_wp2
            go_ret
            have hl := HL.out
            rw [e1.out, ← e2.out] at hl
            exact ⟨_, _, _, rfl, hl.base_le HW1, below_go hb1 hb⟩
          · obtain ⟨m, rfl⟩ : ∃ m, q = m + 1 := ⟨q - 1, by omega⟩
            have hI2 : (p : Int) < (n : Int) := by omega
            go_wp2_with fail
            rw [show ((p : Int) + 2) = ((p + 2 : Nat) : Int) by omega]
            refine (IH2.out m rfl n (p + 2) wr (by omega) (by omega) (by omega) (by omega)).mono ?_; rintro e w4 ⟨vs4, A4, c4, rfl, L4, hb4⟩
            have HL4 := Lib.hid (HL.out.up hb4)
            have hl2 := Lib.hid (fromK_le (k := m) (by omega) (p + 2))
            have hl3 := hl2.out
            have hl1 := hlen.out
            have hsz4 := hb4.size
            have e2 := Lib.hid (show fromK p (m + 1 + 1) = (fromK (p + 1) (m + 1)).map (fun r => (p : Int) :: r) ++ fromK (p + 2) m by rw [hT.out, if_neg (by omega)]; rfl)
            have e3 := Lib.hid (show (fromK p (m + 1 + 1)).length = (fromK (p + 1) (m + 1)).length + (fromK (p + 2) m).length by rw [e2.out, List.length_append, List.length_map])
            go_wp2_with (first | (at_builtin; go_must ((refine wpList_append_recs Try.elInts slcE_one rfl (.tmp 32) (.tmp 36) rfl rfl HL4.out.top rfl L4.top.recs L4.top.len ?_ (by decide) ?_ ?_; (focus (first | omega | (simp only [World.size_alloc]; done) | (simp only [World.size_alloc]; omega) | (simp; done) | (simp; omega))); (focus (first | omega | (simp only [World.size_alloc]; done) | (simp only [World.size_alloc]; omega) | (simp; done) | (simp; omega))); intro A5 c5 w5 ho5 hg5 hl5))))
            go_ret
            have hL5 := HL4.out.join (by decide) (L4.base_le hsz) ho5 hg5
            rw [e1.out, ← e2.out, ← e3.out] at hL5
            rw [e3.out]
            rw [e3.out] at hL5
            exact ⟨_, _, _, rfl, hL5.base_le HW1, below_go hb1 ((hb.trans (hb4.mono hsz)).trans (grown_base hg5 (by omega) (fun k hk => (HL4.out.top.blk hk).1)))⟩
end Go.Proofs.Ytmdmnjjlpefigaa
