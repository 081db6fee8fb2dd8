/- Texts 4 of 7 that the claim leans on: plain laws and the walks' contracts, in order. -/
import Derived.Test.YtidolgonmimicaaGreatMParts3
import Derived.Deep.Cut
import Derived.Test.YtidolgonmimicaaGreatRows
import Derived.StillTailTactics
import Derived.Laws.BytesArg
import Derived.Deep.RegionHeld3
import Derived.Maps.RangeWalk
import Derived.Sort.KeysCollected
/- The walks through the order of a row and the rows of a course. -/
namespace Go.Proofs.YtidolgonmimicaaGreat
set_option linter.unusedVariables false
set_option linter.unusedSimpArgs false
open Go.ChangeShapes Go.WideShapes Go.ChangeAt Go.RowKit Go.Deep
theorem rAt_row {n : Nat} {a : ByteArray} (h : RowN n a) (l : List ByteArray) : ∀ k, RowN n (rAt a l k)
  | 0 => h
  | k + 1 => by rw [rAt]; exact (rAt_row h l k).apply _
theorem rowsL_row {n : Nat} {a : ByteArray} (h : RowN n a) (l : List ByteArray) (m : Nat) : ∀ s ∈ rowsL a l m, RowN n s := fun s hs => by
  obtain ⟨k, _, rfl⟩ := List.mem_map.1 hs
  exact rAt_row h l k
theorem bytes_ne' {y s : ByteArray} (h : ¬ y = s) : (y.toList == s.toList) = false := by
  rw [beq_eq_false_iff_ne]; exact fun e => h (toList_inj e)
set_option maxHeartbeats 1000000 in
set_option maxRecDepth 100000 in
theorem spec_l1Order {a : ByteArray} {n : Nat} {w : World} (hg : RowN n a) :
    Calls Tryz.prog 138 #[.string a] w fun e w' => ∃ k : Nat, e = .returned (.int .i64 k) ∧ 1 ≤ k ∧ k ≤ fact n ∧ w = w' := by
  obtain ⟨h3, h8⟩ := hg.st
  have h40 : fact n ≤ 40320 := fact_le8 h8
  have hsz := hg.2
  have HG := Lib.hid hg
  clear hg
  go_in
  go_wp2
  go_loopw [3, 4] (fun v p wr => ∃ k : Nat, 1 ≤ k ∧ v = .int .i64 k ∧ p = .string (pwS n a k) ∧ Hid (∀ j, 1 ≤ j → j < k → pwS n a j ≠ roundsS n) ∧ w = wr) (fun v _ _ => 40321 - (intOf v).toNat)
  case atStart => exact ⟨1, Nat.le_refl _, rfl, by rw [pw_one HG.out], Lib.hid (fun j h1 h2 => absurd h1 (by omega)), rfl⟩
  case round =>
    obtain ⟨k, hk, rfl, rfl, HK, rfl⟩ := hrel
    have hlf : k ≤ fact n := pwL_le HG.out HK.out
    have hle : k ≤ 40320 := Nat.le_trans hlf h40
    have hpN := pw_row HG.out k
    have HPS := Lib.hid (show pwS n a (k + 1) = timesS (pwS n a k) a from rfl)
    have hft := rowN_fits hpN HG.out
    obtain ⟨p, hp⟩ : ∃ p, p = pwS n a k := ⟨_, rfl⟩
    have HP := Lib.hid hp
    rw [← hp] at hpN hft
    rw [← hp]
    have hps : p.size ≤ 16777216 := by rw [hpN.2]; omega
    by_cases he : p = roundsS n
    · have hbe : (p.toList == (roundsS n).toList) = true := by rw [he]; simp
      clear hp he
      go_wp2_with (go_at_call 90; refine (spec_l1Rounds h8).mono ?_; rintro e w' ⟨rfl, rfl⟩)
      go_ret
      exact ⟨k, rfl, hk, hlf, rfl⟩
    · have hbe := bytes_ne' he
      have HN := Lib.hid he
      clear hp he
      go_wp2_with (first | (go_at_call 90; refine (spec_l1Rounds h8).mono ?_; rintro e w' ⟨rfl, rfl⟩) | (go_at_call 118; refine (spec_l1Times hps (by omega) hft).mono ?_; rintro e w' ⟨rfl, rfl⟩))
      go_roundw
      case rel => exact ⟨k + 1, by omega, by go_num, by rw [HPS.out, ← HP.out], Lib.hid (fun j h1 h2 => by
          by_cases e : j = k
          · rw [e, ← HP.out]; exact HN.out
          · exact HK.out j h1 (by omega)), trivial⟩
      case measure => simp [intOf]; omega
set_option maxHeartbeats 1000000 in
set_option maxRecDepth 100000 in
theorem spec_l4Head {A : Option Addr} {n c st : Nat} {nm : ByteArray} {l : List ByteArray} {w : World} (hn : l.length = n) (h : Strs w A l) (hz : n ≤ 1048576) (hs : ∀ s ∈ l, s.size ≤ 16777216) (h8 : st ≤ 8) :
    Calls Tryz.prog 228 #[.agg #[.string nm, .int .i64 (st : Int), .slice A n c]] w fun e w' => e = .returned (.string (rAt (roundsS st) l n)) ∧ Below w.heap.size w w' := by
  have b0 : Below w.heap.size w (w.alloc (.cells ⟨[.string nm, .int .i64 (st : Int), .slice A n c]⟩ 25)) := by (repeat' (first | (with_reducible exact Below.refl _ _) | (with_reducible assumption) | (with_reducible refine below_drewN ?_ _) | (with_reducible refine Below.drew ?_) | (with_reducible refine below_alloc ?_ _) | (with_reducible refine Below.alloc ?_ ?_ _) | (with_reducible refine Below.setCell ?_ ?_ _) | (with_reducible refine below_go ?_ (by with_reducible assumption)) | (with_reducible refine below_then (by with_reducible assumption) ?_ ?_) | go_size))
  have K0 := Blk.at_ w 25 [.string nm, .int .i64 (st : Int), .slice A n c] (b := w.heap.size) rfl
  have HS := Lib.hid hs
  have HN := Lib.hid hn
  have hr8 : (roundsS st).size ≤ 8 := by rw [rounds_size st (by omega)]; exact h8
  clear hs hn
  go_in
  go_upto_region 1 with fail
  obtain ⟨w0, hw0⟩ : ∃ u, u = w.alloc (.cells #[.string nm, .int .i64 (st : Int), .slice A n c] 25) := ⟨_, rfl⟩
  rw [← hw0] at b0 K0 ⊢
  clear hw0
  have H0 := h.up b0
  have k1 := K0.cell 1; have k2 := K0.cell 2
  simp only [List.getElem?_cons_zero, List.getElem?_cons_succ] at k1 k2
  go_region_held3 (fun u => u.cell? ⟨w.heap.size, 1, none⟩ = some (.int .i64 (st : Int)) ∧ u.cell? ⟨w.heap.size, 2, none⟩ = some (.slice A n c)) (first | exact ⟨k1d, k2d⟩ | exact ⟨k1, k2⟩) (first | (go_at_call 90; refine (spec_l1Rounds h8).mono ?_; rintro e w' ⟨rfl, rfl⟩) | (go_at_call 192; refine (spec_l4Lead hr8 HN.out H0.drew (by omega) HS.out).mono ?_; rintro e w1 ⟨A1, c1, rfl, ho, hbd⟩; have hb1 := below_of_drew hbd; have L0 := K0.up hb1; have k1d := L0.cell 1; have k2d := L0.cell 2; simp only [List.getElem?_cons_zero, List.getElem?_cons_succ] at k1d k2d))
  go_wp2
  go_ret
  exact ⟨rfl, below_go b0 hb1⟩
end Go.Proofs.YtidolgonmimicaaGreat
/- The parts of a touch, and the whole of them: the reference's side. -/
namespace Go.Proofs.YtidolgonmimicaaGreat
set_option linter.unusedVariables false
set_option linter.unusedSimpArgs false
open Go.ChangeShapes Go.WideShapes Go.ChangeAt Go.RowKit Go.Deep
set_option maxHeartbeats 1000000 in
set_option maxRecDepth 100000 in
theorem spec_l1OrderO {a : ByteArray} {n : Nat} {w : World} (hg : RowN n a) :
    Calls Tryz.prog 138 #[.string a] w fun e w' => ∃ k : Nat, e = .returned (.int .i64 k) ∧ IsOrd n a k ∧ k ≤ 40320 ∧ w = w' := by
  obtain ⟨h3, h8⟩ := hg.st
  have h40 : fact n ≤ 40320 := fact_le8 h8
  have hsz := hg.2
  have HG := Lib.hid hg
  clear hg
  go_in
  go_wp2
  go_loopw [3, 4] (fun v p wr => ∃ k : Nat, 1 ≤ k ∧ v = .int .i64 k ∧ p = .string (pwS n a k) ∧ Hid (∀ j, 1 ≤ j → j < k → pwS n a j ≠ roundsS n) ∧ w = wr) (fun v _ _ => 40321 - (intOf v).toNat)
  case atStart => exact ⟨1, Nat.le_refl _, rfl, by rw [pw_one HG.out], Lib.hid (fun j h1 h2 => absurd h1 (by omega)), rfl⟩
  case round =>
    obtain ⟨k, hk, rfl, rfl, HK, rfl⟩ := hrel
    have hlf : k ≤ fact n := pwL_le HG.out HK.out
    have hle : k ≤ 40320 := Nat.le_trans hlf h40
    have hpN := pw_row HG.out k
    have HPS := Lib.hid (show pwS n a (k + 1) = timesS (pwS n a k) a from rfl)
    have hft := rowN_fits hpN HG.out
    obtain ⟨p, hp⟩ : ∃ p, p = pwS n a k := ⟨_, rfl⟩
    have HP := Lib.hid hp
    rw [← hp] at hpN hft
    rw [← hp]
    have hps : p.size ≤ 16777216 := by rw [hpN.2]; omega
    by_cases he : p = roundsS n
    · have hbe : (p.toList == (roundsS n).toList) = true := by rw [he]; simp
      have HIS := Lib.hid (show IsOrd n a k from ⟨hk, by rw [← hp]; exact he, HK.out⟩)
      clear hp he
      go_wp2_with (go_at_call 90; refine (spec_l1Rounds h8).mono ?_; rintro e w' ⟨rfl, rfl⟩)
      go_ret
      exact ⟨k, rfl, HIS.out, hle, rfl⟩
    · have hbe := bytes_ne' he
      have HN := Lib.hid he
      clear hp he
      go_wp2_with (first | (go_at_call 90; refine (spec_l1Rounds h8).mono ?_; rintro e w' ⟨rfl, rfl⟩) | (go_at_call 118; refine (spec_l1Times hps (by omega) hft).mono ?_; rintro e w' ⟨rfl, rfl⟩))
      go_roundw
      case rel => exact ⟨k + 1, by omega, by go_num, by rw [HPS.out, ← HP.out], Lib.hid (fun j h1 h2 => by
          by_cases e : j = k
          · rw [e, ← HP.out]; exact HN.out
          · exact HK.out j h1 (by omega)), trivial⟩
      case measure => simp [intOf]; omega
set_option maxHeartbeats 2000000 in
theorem spec_TouchEndG {A : Option Addr} {n c st : Nat} {nm : ByteArray} {l : List ByteArray} {kb ks t : ByteArray} {w : World} (hn : l.length = n) (h : Strs w A l) (hz : n ≤ 1048576) (hs : ∀ s ∈ l, s.size ≤ 16777216) (hnm : nm.size ≤ 16777216) (h9 : st ≤ 1000) (hkb : kb.size ≤ 16777216) (hks : ks.size ≤ 16777216) (ht : t.size ≤ 16777216) (hcap : n ≤ c) :
    Calls Tryz.prog 38 #[.agg #[.string nm, .int .i64 st, .slice A n c], .agg #[.string kb, .string ks], .string t] w fun e w' => e = .returned (.tuple #[.string (teV nm st l kb ks t), .bool (goodF nm (st : Int) l kb ks t)]) ∧ Below w.heap.size w w' := by
  have b0 : Below w.heap.size w ((w.alloc (.cells ⟨[.string nm, .int .i64 st, .slice A n c]⟩ 25)).alloc (.cells ⟨[.string kb, .string ks]⟩ 27)) := by (repeat' (first | (with_reducible exact Below.refl _ _) | (with_reducible assumption) | (with_reducible refine below_drewN ?_ _) | (with_reducible refine Below.drew ?_) | (with_reducible refine below_alloc ?_ _) | (with_reducible refine Below.alloc ?_ ?_ _) | (with_reducible refine Below.setCell ?_ ?_ _) | (with_reducible refine below_go ?_ (by with_reducible assumption)) | (with_reducible refine below_then (by with_reducible assumption) ?_ ?_) | go_size))
  have K0 := (Blk.at_ w 25 [.string nm, .int .i64 st, .slice A n c] (b := w.heap.size) rfl).alloc (.cells ⟨[.string kb, .string ks]⟩ 27)
  have J0 := Blk.at_ (w.alloc (.cells ⟨[.string nm, .int .i64 st, .slice A n c]⟩ 25)) 27 [.string kb, .string ks] (b := w.heap.size + 1) (by simp)
  have hI : I64 (st : Int) := ⟨by omega, by omega⟩
  have H0 := h.up b0
  have HT := Lib.hid (@teV_t nm st l kb ks t)
  have HF := Lib.hid (@teV_f nm st l kb ks t)
  have HG : Hid (goodF nm st l kb ks t = (goodK nm (st : Int) l kb ks && goodT t)) := Lib.hid rfl
  go_in
  go_wp2_with fail
  refine (spec_l9Asked (nm := nm) (st := (st : Int)) hn H0 hz hs hnm hI hkb hks ht).mono ?_; rintro e w1 ⟨rfl, hb1⟩
  have K1 := K0.up hb1
  have J1 := J0.up hb1
  have H1 := H0.up hb1
  have B1 := below_go b0 hb1
  clear K0 J0 H0 h b0 hb1
  rcases hg : goodF nm st l kb ks t
  · have e2 := Lib.hid hg
    go_wp2
    go_ret2
    rw [HF.out e2.out, e2.out]
    exact ⟨rfl, B1⟩
  · have e2 := Lib.hid hg
    have hgg := hg
    rw [HG.out, Bool.and_eq_true] at hgg
    have k0 := K1.cell 0; have k1 := K1.cell 1; have k2 := K1.cell 2; have j0 := J1.cell 0; have j1 := J1.cell 1
    simp only [List.getElem?_cons_zero, List.getElem?_cons_succ] at k0 k1 k2 j0 j1
    go_wp2_with fail
    refine (spec_l9EndP (t := t) hn H1 hgg.1 hgg.2 hcap).mono ?_; rintro e w2 ⟨rfl, hb2⟩
    go_wp2
    go_ret2
    rw [HT.out e2.out, e2.out]
    exact ⟨rfl, below_go B1 hb2⟩
set_option maxHeartbeats 2000000 in
theorem spec_PartEnd {A : Option Addr} {n c st : Nat} {nm : ByteArray} {l : List ByteArray} {kb ks t : ByteArray} {w : World} (hn : l.length = n) (h : Strs w A l) (hz : n ≤ 1048576) (hs : ∀ s ∈ l, s.size ≤ 16777216) (hnm : nm.size ≤ 16777216) (h9 : st ≤ 1000) (hkb : kb.size ≤ 16777216) (hks : ks.size ≤ 16777216) (ht : t.size ≤ 16777216) (hcap : n ≤ c) :
    Calls Tryz.prog 48 #[.agg #[.string nm, .int .i64 st, .slice A n c], .agg #[.string kb, .string ks], .string t] w fun e w' => e = .returned (.tuple #[.string (teV nm st l kb ks t), .bool (goodF nm (st : Int) l kb ks t)]) ∧ Below w.heap.size w w' := by
  have b0 : Below w.heap.size w ((w.alloc (.cells ⟨[.string nm, .int .i64 st, .slice A n c]⟩ 25)).alloc (.cells ⟨[.string kb, .string ks]⟩ 27)) := by (repeat' (first | (with_reducible exact Below.refl _ _) | (with_reducible assumption) | (with_reducible refine below_drewN ?_ _) | (with_reducible refine Below.drew ?_) | (with_reducible refine below_alloc ?_ _) | (with_reducible refine Below.alloc ?_ ?_ _) | (with_reducible refine Below.setCell ?_ ?_ _) | (with_reducible refine below_go ?_ (by with_reducible assumption)) | (with_reducible refine below_then (by with_reducible assumption) ?_ ?_) | go_size))
  have H0 := h.up b0
  clear h
  go_in
  go_wp2_with fail
  refine (spec_TouchEndG (nm := nm) hn H0 hz hs hnm h9 hkb hks ht hcap).mono ?_; rintro e w1 ⟨rfl, hb1⟩
  go_wp2
  go_ret2
  exact ⟨rfl, below_go b0 hb1⟩
set_option maxHeartbeats 2000000 in
theorem spec_PartsIn {A : Option Addr} {n c st : Nat} {nm : ByteArray} {l : List ByteArray} {kb ks t : ByteArray} {w : World} (hn : l.length = n) (h : Strs w A l) (hz : n ≤ 1048576) (hs : ∀ s ∈ l, s.size ≤ 16777216) (hnm : nm.size ≤ 16777216) (h9 : st ≤ 1000) (hkb : kb.size ≤ 16777216) (hks : ks.size ≤ 16777216) (ht : t.size ≤ 16777216) (hcap : n ≤ c) :
    Calls Tryz.prog 46 #[.agg #[.string nm, .int .i64 st, .slice A n c], .agg #[.string kb, .string ks], .string t] w fun e w' => ∃ m : Nat, e = .returned (.tuple #[.int .i64 (m : Int), .bool (goodF nm (st : Int) l kb ks t)]) ∧ PaP nm st l kb ks t m ∧ Below w.heap.size w w' := by
  have b0 : Below w.heap.size w ((w.alloc (.cells ⟨[.string nm, .int .i64 st, .slice A n c]⟩ 25)).alloc (.cells ⟨[.string kb, .string ks]⟩ 27)) := by (repeat' (first | (with_reducible exact Below.refl _ _) | (with_reducible assumption) | (with_reducible refine below_drewN ?_ _) | (with_reducible refine Below.drew ?_) | (with_reducible refine below_alloc ?_ _) | (with_reducible refine Below.alloc ?_ ?_ _) | (with_reducible refine Below.setCell ?_ ?_ _) | (with_reducible refine below_go ?_ (by with_reducible assumption)) | (with_reducible refine below_then (by with_reducible assumption) ?_ ?_) | go_size))
  have K0 := (Blk.at_ w 25 [.string nm, .int .i64 st, .slice A n c] (b := w.heap.size) rfl).alloc (.cells ⟨[.string kb, .string ks]⟩ 27)
  have J0 := Blk.at_ (w.alloc (.cells ⟨[.string nm, .int .i64 st, .slice A n c]⟩ 25)) 27 [.string kb, .string ks] (b := w.heap.size + 1) (by simp)
  have hI : I64 (st : Int) := ⟨by omega, by omega⟩
  have H0 := h.up b0
  have HP : Hid (∀ m, PaP nm st l kb ks t m = (m ≤ 40320 ∧ (goodF nm (st : Int) l kb ks t = true → IsOrd st (hdAt st l kb ks t t.size) m) ∧ (goodF nm (st : Int) l kb ks t = false → m = 0))) := Lib.hid (fun m => rfl)
  have HG : Hid (goodF nm st l kb ks t = (goodK nm (st : Int) l kb ks && goodT t)) := Lib.hid rfl
  obtain ⟨gf, hgf⟩ : ∃ u, u = goodF nm (st : Int) l kb ks t := ⟨_, rfl⟩
  have HGF := Lib.hid hgf
  rw [← hgf] at HP HG ⊢
  clear hgf
  go_in
  go_wp2_with fail
  refine (spec_l9Asked (nm := nm) (st := (st : Int)) hn H0 hz hs hnm hI hkb hks ht).mono ?_; rw [← HGF.out]; rintro e w1 ⟨rfl, hb1⟩
  have K1 := K0.up hb1
  have J1 := J0.up hb1
  have H1 := H0.up hb1
  have B1 := below_go b0 hb1
  clear K0 J0 H0 h b0 hb1
  rcases gf
  · go_wp2
    go_ret2
    exact ⟨0, rfl, by rw [HP.out]; exact ⟨by omega, fun e => (by cases e), fun _ => rfl⟩, B1⟩
  · have hgg := HG.out
    rw [eq_comm, Bool.and_eq_true] at hgg
    have k0 := K1.cell 0; have k1 := K1.cell 1; have k2 := K1.cell 2; have j0 := J1.cell 0; have j1 := J1.cell 1
    simp only [List.getElem?_cons_zero, List.getElem?_cons_succ] at k0 k1 k2 j0 j1
    go_wp2_with fail
    refine (spec_l9EndP (t := t) hn H1 hgg.1 hgg.2 hcap).mono ?_; rintro e w2 ⟨rfl, hb2⟩
    have h38 := (goodK_all hgg.1).1
    have HRW : Hid (RowN st (hdAt st l kb ks t t.size)) := Lib.hid (hdAt_good h38.1 h38.2 l kb ks t t.size)
    go_wp2_with fail
    refine (spec_l1OrderO HRW.out).mono ?_; rintro e w3 ⟨m, rfl, ho, hm, rfl⟩
    go_wp2
    go_ret2
    exact ⟨m, rfl, by rw [HP.out]; exact ⟨hm, fun _ => ho, fun e => (by cases e)⟩, below_go B1 hb2⟩
set_option maxHeartbeats 2000000 in
set_option maxRecDepth 100000 in
theorem spec_l12Whole {A : Option Addr} {n c st : Nat} {nm : ByteArray} {l : List ByteArray} {kb ks : ByteArray} {t : ByteArray} {w : World} (hn : l.length = n) (h : Strs w A l) (hk : goodK nm (st : Int) l kb ks = true) (hg : goodT t = true) (hcap : n ≤ c) :
    Calls Tryz.prog 136 #[.agg #[.string nm, .int .i64 st, .slice A n c], .agg #[.string kb, .string ks], .string t] w fun e w' => ∃ m : Nat, e = .returned (.string (repT t m)) ∧ m ≤ 40320 ∧ IsOrd st (hdAt st l kb ks t t.size) m ∧ Below w.heap.size w w' := by
  have b0 : Below w.heap.size w ((w.alloc (.cells ⟨[.string nm, .int .i64 st, .slice A n c]⟩ 25)).alloc (.cells ⟨[.string kb, .string ks]⟩ 27)) := by (repeat' (first | (with_reducible exact Below.refl _ _) | (with_reducible assumption) | (with_reducible refine below_drewN ?_ _) | (with_reducible refine Below.drew ?_) | (with_reducible refine below_alloc ?_ _) | (with_reducible refine Below.alloc ?_ ?_ _) | (with_reducible refine Below.setCell ?_ ?_ _) | (with_reducible refine below_go ?_ (by with_reducible assumption)) | (with_reducible refine below_then (by with_reducible assumption) ?_ ?_) | go_size))
  have h38 := (goodK_all hk).1
  have HRW : Hid (RowN st (hdAt st l kb ks t t.size)) := Lib.hid (hdAt_good h38.1 h38.2 l kb ks t t.size)
  have ht60 := (goodT_t hg).2.1
  go_in
  go_wp2_with fail
  refine (spec_l9EndP (t := t) hn (h.up b0) hk hg hcap).mono ?_; rintro e w1 ⟨rfl, hb1⟩
  have B1 := below_go b0 hb1
  clear h b0 hb1
  go_wp2_with fail
  refine (spec_l1OrderO HRW.out).mono ?_; rintro e w2 ⟨M, rfl, ho, hM, rfl⟩
  have HO := Lib.hid ho
  have HZ := Lib.hid (rep_size t)
  have HS := Lib.hid (rep_succ t)
  clear ho
  go_wp2
  go_loopw [7, 8] (fun v i wr => ∃ j : Nat, j ≤ M ∧ v = .string (repT t j) ∧ i = .int .i64 ((M - j : Nat) : Int) ∧ w1 = wr) (fun _ i _ => (intOf i).toNat)
  case atStart => exact ⟨0, Nat.zero_le _, rfl, rfl, rfl⟩
  case round =>
    obtain ⟨j, hj, rfl, rfl, rfl⟩ := hrel
    by_cases hlt : j < M
    · have hI : (0 : Int) < ((M - j : Nat) : Int) := by omega
      have hwr : IntKind.i64.wrap (((M - j : Nat) : Int) - 1) = ((M - (j + 1) : Nat) : Int) := by rw [wrap_id (by omega)]; omega
      have hsz : (repT t j).size ≤ 2419200 := by
        rw [HZ.out]; exact Nat.mul_le_mul (show j ≤ 40320 by omega) ht60
      go_wp2
      go_roundw
      case rel => exact ⟨j + 1, by omega, by rw [HS.out], by go_num, trivial⟩
      case measure => simp [intOf]; omega
    · obtain rfl : j = M := by omega
      have hI : ¬ (0 : Int) < ((j - j : Nat) : Int) := by omega
      go_wp2
      go_ret
      exact ⟨j, rfl, hM, HO.out, B1⟩
set_option maxHeartbeats 2000000 in
set_option maxRecDepth 100000 in
theorem spec_WholeOf {A : Option Addr} {n c st : Nat} {nm : ByteArray} {l : List ByteArray} {kb ks t : ByteArray} {w : World} (hn : l.length = n) (h : Strs w A l) (hz : n ≤ 1048576) (hs : ∀ s ∈ l, s.size ≤ 16777216) (hnm : nm.size ≤ 16777216) (h9 : st ≤ 1000) (hkb : kb.size ≤ 16777216) (hks : ks.size ≤ 16777216) (ht : t.size ≤ 16777216) (hcap : n ≤ c) :
    Calls Tryz.prog 44 #[.agg #[.string nm, .int .i64 st, .slice A n c], .agg #[.string kb, .string ks], .string t] w fun e w' => WhR nm st l kb ks t w e w' := by
  have b0 : Below w.heap.size w ((w.alloc (.cells ⟨[.string nm, .int .i64 st, .slice A n c]⟩ 25)).alloc (.cells ⟨[.string kb, .string ks]⟩ 27)) := by (repeat' (first | (with_reducible exact Below.refl _ _) | (with_reducible assumption) | (with_reducible refine below_drewN ?_ _) | (with_reducible refine Below.drew ?_) | (with_reducible refine below_alloc ?_ _) | (with_reducible refine Below.alloc ?_ ?_ _) | (with_reducible refine Below.setCell ?_ ?_ _) | (with_reducible refine below_go ?_ (by with_reducible assumption)) | (with_reducible refine below_then (by with_reducible assumption) ?_ ?_) | go_size))
  have K0 := (Blk.at_ w 25 [.string nm, .int .i64 st, .slice A n c] (b := w.heap.size) rfl).alloc (.cells ⟨[.string kb, .string ks]⟩ 27)
  have J0 := Blk.at_ (w.alloc (.cells ⟨[.string nm, .int .i64 st, .slice A n c]⟩ 25)) 27 [.string kb, .string ks] (b := w.heap.size + 1) (by simp)
  have hI : I64 (st : Int) := ⟨by omega, by omega⟩
  have H0 := h.up b0
  have HG : Hid (goodF nm st l kb ks t = (goodK nm (st : Int) l kb ks && goodT t)) := Lib.hid rfl
  obtain ⟨gf, hgf⟩ : ∃ u, u = goodF nm (st : Int) l kb ks t := ⟨_, rfl⟩
  have HGF := Lib.hid hgf
  rw [← hgf] at HG
  clear hgf
  go_in
  go_wp2_with fail
  refine (spec_l9Asked hn H0 hz hs hnm hI hkb hks ht).mono ?_; rw [← HGF.out]; rintro e w1 ⟨rfl, hb1⟩
  have K1 := K0.up hb1
  have J1 := J0.up hb1
  have H1 := H0.up hb1
  have B1 := below_go b0 hb1
  clear K0 J0 H0 h b0 hb1
  rcases gf
  · have HN := Lib.hid (show WhP nm st l kb ks t ⟨#[]⟩ false from ⟨0, ⟨by omega, fun e => (by rw [← HGF.out] at e; cases e), fun _ => rfl⟩, by rw [← HGF.out]; rfl, rfl⟩)
    go_wp2
    go_ret2
    exact WhR.mk _ _ rfl HN.out B1
  · have hgg := HG.out
    rw [eq_comm, Bool.and_eq_true] at hgg
    have k0 := K1.cell 0; have k1 := K1.cell 1; have k2 := K1.cell 2; have j0 := J1.cell 0; have j1 := J1.cell 1
    simp only [List.getElem?_cons_zero, List.getElem?_cons_succ] at k0 k1 k2 j0 j1
    go_wp2_with fail
    refine (spec_l12Whole (t := t) hn H1 hgg.1 hgg.2 hcap).mono ?_; rintro e w2 ⟨m, rfl, hm, ho, hb2⟩
    have HO := Lib.hid ho
    have HPA := Lib.hid (show PaP nm st l kb ks t m from ⟨hm, fun _ => ho, fun e => (by rw [← HGF.out] at e; cases e)⟩)
    have hsz : (repT t m).size ≤ 16777216 := by
      rw [rep_size]; exact Nat.le_trans (Nat.mul_le_mul hm (goodT_t hgg.2).2.1) (by decide)
    have hgr := goodT_rep hgg.2 ho.1
    have B2 := below_go B1 hb2
    have K2 := K1.up hb2
    have J2 := J1.up hb2
    have H2 := H1.up hb2
    clear ho k0 k1 k2 j0 j1
    have k0 := K2.cell 0; have k1 := K2.cell 1; have k2 := K2.cell 2; have j0 := J2.cell 0; have j1 := J2.cell 1
    simp only [List.getElem?_cons_zero, List.getElem?_cons_succ] at k0 k1 k2 j0 j1
    by_cases h60 : m * t.size ≤ 60
    · have HY := Lib.hid (show WhP nm st l kb ks t (repT t m) true from ⟨m, HPA.out, by rw [← HGF.out, decide_eq_true h60]; rfl, rfl⟩)
      rw [decide_eq_true h60] at hgr
      have HGR := Lib.hid hgr
      clear hgr h60
      go_wp2_with fail
      refine (spec_l9Good hsz).mono ?_; rw [HGR.out]; rintro e w3 ⟨rfl, rfl⟩
      go_wp2_with fail
      refine (spec_l12Whole (t := t) hn H2 hgg.1 hgg.2 hcap).mono ?_; rintro e w4 ⟨m4, rfl, hm4, ho4, hb4⟩
      obtain rfl : m4 = m := ho4.uniq HO.out
      go_wp2
      go_ret2
      exact WhR.mk _ _ rfl HY.out (below_go B2 hb4)
    · have HN := Lib.hid (show WhP nm st l kb ks t ⟨#[]⟩ false from ⟨m, HPA.out, by rw [← HGF.out, decide_eq_false h60]; rfl, rfl⟩)
      rw [decide_eq_false h60] at hgr
      have HGR := Lib.hid hgr
      clear hgr h60
      go_wp2_with fail
      refine (spec_l9Good hsz).mono ?_; rw [HGR.out]; rintro e w3 ⟨rfl, rfl⟩
      go_wp2
      go_ret2
      exact WhR.mk _ _ rfl HN.out B2
end Go.Proofs.YtidolgonmimicaaGreat
/- The set of a row's parts: the program's side. -/
namespace Go.Proofs.YtidolgonmimicaaGreat
set_option linter.unusedVariables false
set_option linter.unusedSimpArgs false
open Go.ChangeShapes Go.WideShapes Go.ChangeAt Go.RowKit Go.Deep
theorem recs_grown12 {α : Type} {e : α → List Value} {s b o : Nat} {w w' : World} {l : List α} {row : Option Nat} (h : Recs e s w (some ⟨b, o, none⟩) l) (hg : w.grownBy w' row) (hne : some b ≠ row) : Recs e s w' (some ⟨b, o, none⟩) l := by
  refine ⟨h.1, h.2.1, fun hn => ?_⟩
  obtain ⟨b', o', hA, hb, hc⟩ := h.2.2 hn
  injection hA with hA
  injection hA with e1 e2 _
  subst e1 e2
  exact ⟨b, o, rfl, Nat.lt_of_lt_of_le hb hg.size, fun j u hu => (hg.cell_far ⟨b, o + j, none⟩ hb hne).trans (hc j u hu)⟩
set_option maxHeartbeats 2000000 in
set_option maxRecDepth 100000 in
theorem impl_partSet {a x : ByteArray} {n : Nat} {w : World} (ha : RowN n a) (hx : RowN n x) :
    Calls Tryz.prog 202 #[.string a, .string x] w fun e w' => ∃ (m : Nat) (A' : Option Addr) (c' : Nat) (L : List ByteArray), e = .returned (.slice A' m c') ∧ IsOrd n a m ∧ m ≤ 40320 ∧ Owned strE 1 9 w' w.heap.size A' m c' L ∧ L.Perm (cosL n a m x) ∧ Srt L ∧ Below w.heap.size w w' := by
  have h38 := ha.st
  have HA := Lib.hid ha
  have HX := Lib.hid hx
  have hxz : x.size ≤ 16777216 := by rw [hx.2]; omega
  have HOE := Lib.hid (Owned.empty (base := w.heap.size) (E := 9) strE_len w (Nat.le_refl _))
  have b0 : Below w.heap.size w (w.alloc (.cells #[] 9)) := by (repeat' (first | (with_reducible exact Below.refl _ _) | (with_reducible assumption) | (with_reducible refine below_drewN ?_ _) | (with_reducible refine Below.drew ?_) | (with_reducible refine below_alloc ?_ _) | (with_reducible refine Below.alloc ?_ ?_ _) | (with_reducible refine Below.setCell ?_ ?_ _) | (with_reducible refine below_go ?_ (by with_reducible assumption)) | (with_reducible refine below_then (by with_reducible assumption) ?_ ?_) | go_size))
  go_in
  go_wp2_with fail
  refine (impl_powersO HA.out).mono ?_; rintro e w1 ⟨m, A1, c1, rfl, ho, hm, hO, hb1⟩
  have B1 := below_go b0 hb1
  have HO0 := Lib.hid (HOE.out.up hb1)
  obtain ⟨g, rfl, g0, g1, _⟩ := hO.at_ (by have := ho.1; omega)
  have g0' : w.heap.size + 1 ≤ g := by simpa using g0
  have R1 := Lib.hid hO.recs
  have HL1 := Lib.hid hO.len
  have HM := Lib.hid ho
  have HC : Hid (cosL n a m x = (pwL n a m).map fun p => timesS p x) := Lib.hid rfl
  have HPW := Lib.hid (fun j => pw_row HA.out j)
  have HPA := Lib.hid (fun (j : Nat) (hj : j < m) => show (pwL n a m)[j]? = some (pwS n a j) from by rw [pwL, List.getElem?_map, List.getElem?_range hj]; rfl)
  obtain ⟨PL, hPL⟩ : ∃ u, u = pwL n a m := ⟨_, rfl⟩
  rw [← hPL] at R1 HL1 HC HPA
  clear ho hO hPL hb1
  go_wp2
  go_loopw [5, 12] (fun v i wr => ∃ (k : Nat) (A' : Option Addr) (c' : Nat), k ≤ m ∧ v = .slice A' k c' ∧ i = .int .i64 k ∧ Hid (Owned strE 1 9 wr w.heap.size A' k c' ((PL.take k).map fun p => timesS p x)) ∧ Hid (Below w.heap.size w wr) ∧ Hid (Strs wr (some ⟨g, 0, none⟩) PL) ∧ Hid (∀ z, (Value.slice A' k c').ownBlock = some z → z = w.heap.size ∨ w1.heap.size ≤ z) ∧ w1.heap.size ≤ wr.heap.size) (fun _ i _ => m - (intOf i).toNat)
  case atStart => exact ⟨0, _, _, Nat.zero_le _, rfl, rfl, HO0, Lib.hid B1, R1, Lib.hid (fun z hz => by simp [Value.ownBlock] at hz; omega), Nat.le_refl _⟩
  case round =>
    obtain ⟨k, A4, c4, hk, rfl, rfl, HO, HB, HR, HK, hwz⟩ := hrel
    rename World => wr
    have hsz := HB.out.size
    by_cases hlt : k < m
    · have hI : (k : Int) < (m : Int) := by omega
      obtain ⟨b1, o1, p, hA, _, hp, hcp⟩ := HR.out.at_str (k := k) (by rw [HL1.out]; exact hlt)
      injection hA with hA
      injection hA with e1 e2 _
      subst e1 e2
      simp only [Nat.zero_add] at hcp
      have hpr : RowN n p := by
        have h1 := HPA.out k hlt
        rw [h1] at hp
        injection hp with hp
        rw [← hp]; exact HPW.out k
      have hpz : p.size ≤ 16777216 := by rw [hpr.2]; omega
      have hft := rowN_fits hpr HX.out
      have HT := Lib.hid (show (PL.take (k + 1)).map (fun p => timesS p x) = (PL.take k).map (fun p => timesS p x) ++ [timesS p x] from by rw [take_succ_some hp, List.map_append]; rfl)
      clear hp hpr
      go_wp2_with fail
      refine (impl_times hpz hxz hft).mono ?_; rintro e w5 ⟨rfl, hb5⟩
      have HO5 := Lib.hid (HO.out.up hb5)
      have HB5 := Lib.hid (below_go HB.out hb5)
      have HR5 := Lib.hid (HR.out.up hb5)
      have hwz5 : w1.heap.size ≤ w5.heap.size := by have := hb5.size; omega
      have hs5 := HB5.out.size
      obtain ⟨y, hy⟩ : ∃ u, u = timesS p x := ⟨_, rfl⟩
      rw [← hy] at HT ⊢
      clear hy hb5
      go_wp2_with (first | (at_builtin; go_must ((refine wpList_append_recs Tryz.elStr strE_one rfl (.tmp 16) (.tmp 20) rfl rfl (HO5.out.alloc _) rfl (own_lit1_at' strE_len _ 9 y rfl (Nat.le_refl _)).recs rfl ?_ (by decide) ?_ ?_; (focus (first | omega | (simp only [World.size_alloc]; done) | (simp only [World.size_alloc]; omega) | (simp; done) | (simp; omega))); (focus (first | omega | (simp only [World.size_alloc]; done) | (simp only [World.size_alloc]; omega) | (simp; done) | (simp; omega))); intro A6 c6 w6 ho6 hg6 hl6))))
      have hb6 : Below w.heap.size w w6 := (HB5.out.alloc hs5 _).trans (grown_base hg6 (by simp; omega) (fun z hz => (HO5.out.range z hz).1))
      have HR6 := Lib.hid (recs_grown12 (HR5.out.alloc (.cells ⟨strE y⟩ 9)) hg6 (fun e => by rcases HK.out _ e.symm with q | q <;> omega))
      have hs6 := hb6.size
      have hs6' := hg6.size
      simp at hs6'
      go_roundw
      case rel => exact ⟨k + 1, A6, c6, by omega, rfl, by go_num, Lib.hid (by rw [HT.out]; exact ho6), Lib.hid hb6, HR6, Lib.hid (fun z hz => by
        rcases hl6 z hz with q | q
        · exact HK.out z q
        · simp at q; omega), by omega⟩
      case measure => simp [intOf]; omega
    · obtain rfl : k = m := by omega
      have hI : ¬ (k : Int) < (k : Int) := by omega
      have hc : (PL.take k).map (fun p => timesS p x) = cosL n a k x := by rw [HC.out, List.take_of_length_le (by rw [HL1.out]; omega)]
      have HO2 := HO.out
      rw [hc] at HO2
      have hm1 := HM.out.1
      obtain ⟨g4, rfl, q0, q1, _⟩ := HO2.at_ (by omega)
      have HOO := Lib.hid HO2
      clear HO2 hc
      go_wp2_with fail
      refine (sort_strs HOO.out (by omega)).mono ?_; rintro e w7 ⟨rfl, L7, ho7, hp7, hs7, hg7⟩
      have HB7 := Lib.hid (HB.out.grown hg7 HB.out.size (fun j hj => by injection hj with hj; omega))
      go_wp2
      go_ret
      exact ⟨_, _, _, L7, rfl, HM.out, hm, ho7, hp7, hs7, HB7.out⟩
end Go.Proofs.YtidolgonmimicaaGreat
/- The least rows of the parts' sets: the program's side. -/
namespace Go.Proofs.YtidolgonmimicaaGreat
set_option linter.unusedVariables false
set_option linter.unusedSimpArgs false
open Go.ChangeShapes Go.WideShapes Go.ChangeAt Go.RowKit Go.Deep
theorem least_head {n m : Nat} {e x : ByteArray} {L : List ByteArray} (hp : L.Perm (cosL n e m x)) (hs : Srt L) (hm : 1 ≤ m) : L[0]? = some (leastS n e m x) := by
  have h : L = (cosL n e m x).mergeSort leS := srt_unique hs (List.pairwise_mergeSort leS_trans leS_total _) (hp.trans (List.mergeSort_perm _ leS).symm)
  have hl : L.length = m := by rw [hp.length_eq, cosL, List.length_map, pwL_len]
  rw [leastS, ← h]
  rcases L with _ | ⟨y, r⟩
  · simp at hl; omega
  · rfl
set_option maxHeartbeats 2000000 in
set_option maxRecDepth 100000 in
theorem impl_leastOnes {a : ByteArray} {n N c M : Nat} {A : Option Addr} {R : List ByteArray} {w : World} (ha : RowN n a) (hM : IsOrd n a M) (hR : ∀ x ∈ R, RowN n x) (hN : R.length = N) (h : Strs w A R) (hz : N ≤ 1048576) :
    Calls Tryz.prog 133 #[.string a, .slice A N c] w fun e w' => ∃ (A' : Option Addr) (c' : Nat), e = .returned (.slice A' N c') ∧ Owned strE 1 9 w' w.heap.size A' N c' (R.map (leastS n a M)) ∧ Below w.heap.size w w' := by
  have HA := Lib.hid ha
  have HM := Lib.hid hM
  have HR := Lib.hid hR
  have HNL := Lib.hid hN
  have HOE := Lib.hid (Owned.empty (base := w.heap.size) (E := 9) strE_len w (Nat.le_refl _))
  have HI := Lib.hid h
  have b0 : Below w.heap.size w (w.alloc (.cells #[] 9)) := by (repeat' (first | (with_reducible exact Below.refl _ _) | (with_reducible assumption) | (with_reducible refine below_drewN ?_ _) | (with_reducible refine Below.drew ?_) | (with_reducible refine below_alloc ?_ _) | (with_reducible refine Below.alloc ?_ ?_ _) | (with_reducible refine Below.setCell ?_ ?_ _) | (with_reducible refine below_go ?_ (by with_reducible assumption)) | (with_reducible refine below_then (by with_reducible assumption) ?_ ?_) | go_size))
  clear h hR
  go_in
  go_wp2
  go_loopw [5, 11] (fun v i wr => ∃ (k : Nat) (A' : Option Addr) (c' : Nat), k ≤ N ∧ v = .slice A' k c' ∧ i = .int .i64 k ∧ Hid (Owned strE 1 9 wr w.heap.size A' k c' ((R.take k).map (leastS n a M))) ∧ Hid (Below w.heap.size w wr)) (fun _ i _ => N - (intOf i).toNat)
  case atStart => exact ⟨0, _, _, Nat.zero_le _, rfl, rfl, HOE, Lib.hid b0⟩
  case round =>
    obtain ⟨k, A4, c4, hk, rfl, rfl, HO, HB⟩ := hrel
    rename World => wr
    have hsz := HB.out.size
    by_cases hlt : k < N
    · have hI : (k : Int) < (N : Int) := by omega
      obtain ⟨b1, o1, x, hA, _, hx, hcx⟩ := (HI.out.below HB.out (Nat.le_refl _)).at_str (k := k) (by rw [HNL.out]; exact hlt)
      subst hA
      have HX := Lib.hid (HR.out x (List.mem_of_getElem? hx))
      have HT := Lib.hid (show (R.take (k + 1)).map (leastS n a M) = (R.take k).map (leastS n a M) ++ [leastS n a M x] from by rw [take_succ_some hx, List.map_append]; rfl)
      clear hx
      go_wp2_with fail
      refine (impl_partSet HA.out HX.out).mono ?_; rintro e w5 ⟨m, A5, c5, L, rfl, hO, hm, ho5, hp, hs, hb5⟩
      obtain rfl : m = M := hO.uniq HM.out
      have hh := least_head hp hs hO.1
      have hpos : 0 < m := hO.1
      obtain ⟨g, rfl, _, _, gc, _⟩ := ho5.at_ hpos
      have cg := gc 0 _ 0 _ hh rfl
      simp only [Nat.mul_one, Nat.add_zero, Nat.zero_mul] at cg
      have HO5 := Lib.hid (HO.out.up hb5)
      have HB5 := Lib.hid (below_go HB.out hb5)
      have hs5 := HB5.out.size
      have hmI : (0 : Int) < (m : Int) := by omega
      obtain ⟨y, hy⟩ : ∃ u, u = leastS n a m x := ⟨_, rfl⟩
      rw [← hy] at HT cg
      clear hy hb5 gc hh ho5 hO hp hs
      go_wp2_with (first | (at_builtin; go_must ((refine wpList_append_recs Tryz.elStr strE_one rfl (.tmp 15) (.tmp 21) rfl rfl (HO5.out.alloc _) rfl (own_lit1_at' strE_len _ 9 y rfl (Nat.le_refl _)).recs rfl ?_ (by decide) ?_ ?_; (focus (first | omega | (simp only [World.size_alloc]; done) | (simp only [World.size_alloc]; omega) | (simp; done) | (simp; omega))); (focus (first | omega | (simp only [World.size_alloc]; done) | (simp only [World.size_alloc]; omega) | (simp; done) | (simp; omega))); intro A6 c6 w6 ho6 hg6 hl6))))
      have hb6 : Below w.heap.size w w6 := (HB5.out.alloc hs5 _).trans (grown_base hg6 (by simp; omega) (fun z hz => (HO5.out.range z hz).1))
      go_roundw
      case rel => exact ⟨k + 1, A6, c6, by omega, rfl, by go_num, Lib.hid (by rw [HT.out]; exact ho6), Lib.hid hb6⟩
      case measure => simp [intOf]; omega
    · obtain rfl : k = N := by omega
      have hI : ¬ (k : Int) < (k : Int) := by omega
      have hc : (R.take k).map (leastS n a M) = R.map (leastS n a M) := by rw [List.take_of_length_le (by rw [HNL.out]; omega)]
      have HO2 := HO.out
      rw [hc] at HO2
      have HO3 := Lib.hid HO2
      clear HO2 hc
      go_wp2
      go_ret
      exact ⟨_, _, rfl, HO3.out, HB.out⟩
end Go.Proofs.YtidolgonmimicaaGreat
/- The rows of a touch, the program's side. -/
namespace Go.Proofs.YtidolgonmimicaaGreat
set_option linter.unusedVariables false
set_option linter.unusedSimpArgs false
open Go.ChangeShapes Go.WideShapes Go.ChangeAt Go.RowKit Go.Deep
theorem rowsL_cut (a : ByteArray) (l : List ByteArray) (n : Nat) : (rowsL a l (n + 1)).take n = rowsL a l n := by
  rw [rowsL_succ, List.take_append_of_le_length (by rw [rowsL_len]; exact Nat.le_refl _), List.take_of_length_le (by rw [rowsL_len]; exact Nat.le_refl _)]
theorem hdsL_cut (st : Nat) (l : List ByteArray) (b s t : ByteArray) (n : Nat) : (hdsL st l b s t (n + 1)).take n = hdsL st l b s t n := by
  rw [hdsL_succ, List.take_append_of_le_length (by rw [hdsL_len]; exact Nat.le_refl _), List.take_of_length_le (by rw [hdsL_len]; exact Nat.le_refl _)]
theorem Recs.front {α : Type} {e : α → List Value} {s : Nat} {w : World} {g : Nat} {l : List α} (h : Recs e s w (some ⟨g, 0, none⟩) l) (n : Nat) (hn : n ≤ l.length) : Recs e s w (some ⟨g, 0, none⟩) (l.take n) := by
  have := h.part 0 n (Nat.zero_le _) hn
  simpa using this
set_option maxHeartbeats 1000000 in
set_option maxRecDepth 100000 in
theorem impl_leadRows {A : Option Addr} {n c : Nat} {nm a : ByteArray} {st : Int} {l : List ByteArray} {w : World} (ha : a.size ≤ 8) (hn : l.length = n) (h : Strs w A l) (hz : n ≤ 1048576) (hs : ∀ s ∈ l, s.size ≤ 16777216) (hg : ∀ s ∈ l, isDash s = true ∨ validD s = true) :
    Calls Tryz.prog 104 #[.agg #[.string nm, .int .i64 st, .slice A n c], .string a] w fun e w' => ∃ A' c', e = .returned (.slice A' n c') ∧ Strs w' A' (rowsL a l n) ∧ Below w.heap.size w w' := by
  have b0 : Below w.heap.size w (w.alloc (.cells ⟨[.string nm, .int .i64 st, .slice A n c]⟩ 25)) := by (repeat' (first | (with_reducible exact Below.refl _ _) | (with_reducible assumption) | (with_reducible refine below_drewN ?_ _) | (with_reducible refine Below.drew ?_) | (with_reducible refine below_alloc ?_ _) | (with_reducible refine Below.alloc ?_ ?_ _) | (with_reducible refine Below.setCell ?_ ?_ _) | (with_reducible refine below_go ?_ (by with_reducible assumption)) | (with_reducible refine below_then (by with_reducible assumption) ?_ ?_) | go_size))
  have K0 := Blk.at_ w 25 [.string nm, .int .i64 st, .slice A n c] (b := w.heap.size) rfl
  have HG := Lib.hid hg
  have HS := Lib.hid hs
  clear hg hs
  go_in
  go_wp2_with fail
  obtain ⟨w0, hw0⟩ : ∃ u, u = (w.alloc (.cells #[.string nm, .int .i64 st, .slice A n c] 25)) := ⟨_, rfl⟩
  rw [← hw0] at b0 K0 ⊢
  clear hw0
  have H0 := Lib.hid (h.up b0)
  have carry : Hid (∀ u : World, Below w0.heap.size w0 u → u.cell? ⟨w.heap.size, 2, none⟩ = some (.slice A n c)) := Lib.hid (fun u hu => by
    have L0 := K0.up hu
    simpa using L0.cell 2)
  clear h K0
  have hwk : IntKind.i64.wrap (n : Int) = (n : Int) := wrap_id (by omega)
  have hle3 : (0 : Int) ≤ (n : Int) := by omega
  go_region_held3 (fun u => u.cell? ⟨w.heap.size, 2, none⟩ = some (.slice A n c)) (first | exact carry.out _ hb1 | exact carry.out _ (Below.refl _ _) | exact carry.out _ (Below.refl _ _).drew) (first | (go_at_call 191; ((refine (impl_rowsUnder ha hn H0.out.drew (by omega) HS.out HG.out).mono ?_); rintro e w1 ⟨A1, c1, rfl, ho, hbd⟩; have hb1 := below_of_drew hbd; have hcp := ho.cap; have hcI : (n : Int) ≤ (c1 : Int) := (by omega); obtain ⟨g, rfl, _⟩ := ho.at_ (by omega))))
  go_wp2
  go_ret
  exact ⟨_, _, rfl, by have q := ho.recs.front n (by rw [rowsL_len]; omega); rw [rowsL_cut] at q; exact q, below_go b0 hb1⟩
set_option maxHeartbeats 1000000 in
set_option maxRecDepth 100000 in
theorem impl_leadsFrom {A : Option Addr} {n c st : Nat} {nm : ByteArray} {l : List ByteArray} {kb ks : ByteArray} {t : ByteArray} {B : Option Addr} {m d : Nat} {w : World} (hn : l.length = n) (h : Strs w A l) (hk : goodK nm (st : Int) l kb ks = true) (hB : Strs w B (hdsL st l kb ks t m)) (hm : m ≤ 60) :
    Calls Tryz.prog 134 #[.agg #[.string nm, .int .i64 st, .slice A n c], .slice B m d] w fun e w' => ∃ A' m' c', e = .returned (.slice A' m' c') ∧ m' = m * n ∧ Owned strE 1 9 w' w.heap.size A' m' c' (tRows st l kb ks t m) ∧ Below w.heap.size w w' := by
  have b0 : Below w.heap.size w (w.alloc (.cells ⟨[.string nm, .int .i64 st, .slice A n c]⟩ 25)) := by (repeat' (first | (with_reducible exact Below.refl _ _) | (with_reducible assumption) | (with_reducible refine below_drewN ?_ _) | (with_reducible refine Below.drew ?_) | (with_reducible refine below_alloc ?_ _) | (with_reducible refine Below.alloc ?_ ?_ _) | (with_reducible refine Below.setCell ?_ ?_ _) | (with_reducible refine below_go ?_ (by with_reducible assumption)) | (with_reducible refine below_then (by with_reducible assumption) ?_ ?_) | go_size))
  have K0 := Blk.at_ w 25 [.string nm, .int .i64 st, .slice A n c] (b := w.heap.size) rfl
  obtain ⟨h8, h40, hgl, _⟩ := goodK_all hk
  have hn40 : n ≤ 40 := by omega
  have HS := Lib.hid (fun (s' : ByteArray) (hs' : s' ∈ l) => show s'.size ≤ 16777216 from by have := goodChange_small (hgl s' hs'); omega)
  have HG := Lib.hid (fun (x : ByteArray) (hx : x ∈ l) => good_valid (hgl x hx))
  clear hgl
  have HD := Lib.hid (fun k => hdAt_good h8.1 h8.2 l kb ks t k)
  go_in
  go_wp2_with fail
  obtain ⟨w1, hw1⟩ : ∃ u, u = (w.alloc (.cells #[.string nm, .int .i64 st, .slice A n c] 25)) := ⟨_, rfl⟩
  have sz1 : w1.heap.size = w.heap.size + 1 := by rw [hw1]; simp
  rw [← hw1] at b0 K0 ⊢
  clear hw1
  have H0 := Lib.hid (h.up b0)
  have HB := Lib.hid (hB.up b0)
  have carry : Hid (∀ u : World, Below w1.heap.size w1 u → u.cell? ⟨w.heap.size, 0, none⟩ = some (.string nm) ∧ u.cell? ⟨w.heap.size, 1, none⟩ = some (.int .i64 st) ∧ u.cell? ⟨w.heap.size, 2, none⟩ = some (.slice A n c)) := Lib.hid (fun u hu => by
    have L0 := K0.up hu
    exact ⟨by simpa using L0.cell 0, by simpa using L0.cell 1, by simpa using L0.cell 2⟩)
  clear h hB K0
  have HE : Hid (Owned strE 1 9 (w1.alloc (.cells #[] 9)) w1.heap.size (some ⟨w.heap.size + 1, 0, none⟩) 0 0 (tRows st l kb ks t 0)) := Lib.hid (by rw [← sz1]; exact Owned.empty (E := 9) strE_len w1 (Nat.le_refl _))
  clear sz1
  go_wp2
  go_loopw [5, 11] (fun v i wr => ∃ (k : Nat) (A' : Option Addr) (q c' : Nat), k ≤ m ∧ i = .int .i64 k ∧ v = .slice A' q c' ∧ q = k * n ∧ Owned strE 1 9 wr w1.heap.size A' q c' (tRows st l kb ks t k) ∧ Below w1.heap.size w1 wr) (fun _ i _ => m - (intOf i).toNat)
  case atStart => exact ⟨0, _, 0, _, Nat.zero_le _, rfl, rfl, by omega, HE.out, by (repeat' (first | (with_reducible exact Below.refl _ _) | (with_reducible assumption) | (with_reducible refine below_drewN ?_ _) | (with_reducible refine Below.drew ?_) | (with_reducible refine below_alloc ?_ _) | (with_reducible refine Below.alloc ?_ ?_ _) | (with_reducible refine Below.setCell ?_ ?_ _) | (with_reducible refine below_go ?_ (by with_reducible assumption)) | (with_reducible refine below_then (by with_reducible assumption) ?_ ?_) | go_size))⟩
  case round =>
    obtain ⟨k, A', q, c', hk1, rfl, rfl, hq, ho, hb⟩ := hrel
    have HO := Lib.hid ho
    have HM := Lib.hid hq
    have hmb : q ≤ 2400 := by rw [hq]; exact Nat.le_trans (Nat.mul_le_mul (show k ≤ 60 by omega) hn40) (by decide)
    have hsz := hb.size
    clear ho hq
    by_cases hlt : k < m
    · obtain ⟨b3, o3, y, rfl, hbb, hy, hcy⟩ := (HB.out.below hb (Nat.le_refl _)).at_str (k := k) (by rw [hdsL_len]; exact hlt)
      rw [hdsL_at hlt] at hy
      injection hy with hy
      subst hy
      obtain ⟨c0, c1, c2⟩ := carry.out _ hb
      have p2 := HD.out k
      have z1 : (hdAt st l kb ks t k).size ≤ 8 := by rw [p2.2]; omega
      have HT := Lib.hid (tRows_succ st l kb ks t k)
      clear p2
      go_wp2_with fail
      refine (impl_leadRows z1 hn (H0.out.below hb (Nat.le_refl _)) (by omega) HS.out HG.out).mono ?_; rintro e w2 ⟨A2, c3, rfl, hr2, hb2⟩
      have HO1 := Lib.hid (HO.out.up hb2)
      have hsz1 := hb2.size
      have hl2 : (rowsL (hdAt st l kb ks t k) l n).length = n := by rw [rowsL_len]
      go_wp2_with (first | (at_builtin; go_must ((refine wpList_append_recs Tryz.elStr strE_one rfl (.tmp 15) (.tmp 18) rfl rfl HO1.out rfl hr2 hl2 ?_ (by decide) ?_ ?_; (focus (first | omega | (simp only [World.size_alloc]; done) | (simp only [World.size_alloc]; omega) | (simp; done) | (simp; omega))); (focus (first | omega | (simp only [World.size_alloc]; done) | (simp only [World.size_alloc]; omega) | (simp; done) | (simp; omega))); intro A3 c4 w3 ho3 hg3 hn3))))
      go_roundw
      case rel => exact ⟨k + 1, A3, q + n, c4, by omega, by go_num, by go_num, by rw [HM.out, Nat.succ_mul], by rw [HT.out]; subst hn; exact ho3, (hb.trans (hb2.mono hsz)).trans ((grown_base hg3 (by omega) (fun z hz => (HO.out.range z hz).1)))⟩
      case measure => simp [intOf]; omega
    · obtain rfl : k = m := by omega
      go_wp2
      go_ret
      exact ⟨_, _, _, rfl, HM.out, HO.out.base_le b0.size, below_go b0 hb⟩
set_option maxHeartbeats 2000000 in
set_option maxRecDepth 100000 in
theorem impl_touchRows {A : Option Addr} {n c st : Nat} {nm : ByteArray} {l : List ByteArray} {kb ks : ByteArray} {t : ByteArray} {w : World} (hn : l.length = n) (h : Strs w A l) (hk : goodK nm (st : Int) l kb ks = true) (hg : goodT t = true) :
    Calls Tryz.prog 143 #[.agg #[.string nm, .int .i64 st, .slice A n c], .agg #[.string kb, .string ks], .string t] w fun e w' => ∃ A' m' c', e = .returned (.tuple #[.slice A' m' c', .bool (decide (t.size * n ≤ 800))]) ∧ (t.size * n ≤ 800 → m' = t.size * n ∧ Owned strE 1 9 w' w.heap.size A' m' c' (tRows st l kb ks t t.size)) ∧ (¬ t.size * n ≤ 800 → A' = none ∧ m' = 0 ∧ c' = 0) ∧ Below w.heap.size w w' := by
  have b0 : Below w.heap.size w ((w.alloc (.cells ⟨[.string nm, .int .i64 st, .slice A n c]⟩ 25)).alloc (.cells ⟨[.string kb, .string ks]⟩ 27)) := by (repeat' (first | (with_reducible exact Below.refl _ _) | (with_reducible assumption) | (with_reducible refine below_drewN ?_ _) | (with_reducible refine Below.drew ?_) | (with_reducible refine below_alloc ?_ _) | (with_reducible refine Below.alloc ?_ ?_ _) | (with_reducible refine Below.setCell ?_ ?_ _) | (with_reducible refine below_go ?_ (by with_reducible assumption)) | (with_reducible refine below_then (by with_reducible assumption) ?_ ?_) | go_size))
  have K0 := (Blk.at_ w 25 [.string nm, .int .i64 st, .slice A n c] (b := w.heap.size) rfl).alloc (.cells ⟨[.string kb, .string ks]⟩ 27)
  have K1 := Blk.at_ (w.alloc (.cells ⟨[.string nm, .int .i64 st, .slice A n c]⟩ 25)) 27 [.string kb, .string ks] (b := w.heap.size + 1) (by simp)
  obtain ⟨h8, h40, _⟩ := goodK_all hk
  obtain ⟨ht1, ht60, _⟩ := goodT_t hg
  have hn40 : n ≤ 40 := by omega
  have hmul : t.size * n ≤ 2400 := Nat.le_trans (Nat.mul_le_mul ht60 hn40) (by decide)
  have hmI : ((t.size * n : Nat) : Int) = (t.size : Int) * (n : Int) := by push_cast; rfl
  have hwr : IntKind.i64.wrap ((t.size : Int) * (n : Int)) = (t.size : Int) * (n : Int) := wrap_id (by omega)
  go_in
  by_cases hle : t.size * n ≤ 800
  · have hI : ¬ (800 : Int) < (t.size : Int) * (n : Int) := by omega
    have ED := Lib.hid (decide_eq_true hle)
    clear hmI
    go_wp2_with fail
    obtain ⟨w0, hw0⟩ : ∃ u, u = ((w.alloc (.cells #[.string nm, .int .i64 st, .slice A n c] 25)).alloc (.cells #[.string kb, .string ks] 27)) := ⟨_, rfl⟩
    rw [← hw0] at b0 K0 K1 ⊢
    clear hw0
    have H0 := Lib.hid (h.up b0)
    have carry : Hid (∀ u : World, Below w0.heap.size w0 u → (u.cell? ⟨w.heap.size, 0, none⟩ = some (.string nm) ∧ u.cell? ⟨w.heap.size, 1, none⟩ = some (.int .i64 st) ∧ u.cell? ⟨w.heap.size, 2, none⟩ = some (.slice A n c)) ∧ u.cell? ⟨w.heap.size + 1, 0, none⟩ = some (.string kb) ∧ u.cell? ⟨w.heap.size + 1, 1, none⟩ = some (.string ks)) := Lib.hid (fun u hu => by
      have L0 := K0.up hu; have L1 := K1.up hu
      exact ⟨⟨by simpa using L0.cell 0, by simpa using L0.cell 1, by simpa using L0.cell 2⟩, by simpa using L1.cell 0, by simpa using L1.cell 1⟩)
    clear h K0 K1
    have hwk : IntKind.i64.wrap (t.size : Int) = (t.size : Int) := wrap_id (by omega)
    have hle3 : (0 : Int) ≤ (t.size : Int) := by omega
    go_region_held3 (fun u => (u.cell? ⟨w.heap.size, 0, none⟩ = some (.string nm) ∧ u.cell? ⟨w.heap.size, 1, none⟩ = some (.int .i64 st) ∧ u.cell? ⟨w.heap.size, 2, none⟩ = some (.slice A n c)) ∧ u.cell? ⟨w.heap.size + 1, 0, none⟩ = some (.string kb) ∧ u.cell? ⟨w.heap.size + 1, 1, none⟩ = some (.string ks)) (first | exact carry.out _ C2 | exact carry.out _ hb1 | exact carry.out _ (Below.refl _ _) | exact carry.out _ (Below.refl _ _).drew) (first | (go_at_call 134; ((refine (impl_leadsFrom hn (H0.out.up hb1) hk hR1 ht60).mono ?_); rintro e w2 ⟨A2, m2, c2, rfl, hm2, ho2, hb2⟩; have C2 := Below.step' hb1 (Nat.le_refl _) hb2)) | (go_at_call 131; ((refine (impl_heads hn H0.out.drew hk hg).mono ?_); rintro e w1 ⟨A1, c1, rfl, ho, hbd⟩; have hb1 := below_of_drew hbd; have hcp := ho.cap; have hcI : (t.size : Int) ≤ (c1 : Int) := (by omega); obtain ⟨g, rfl, _⟩ := ho.at_ (by omega); have hR1 : Strs w1 (some ⟨g, 0, none⟩) (hdsL st l kb ks t t.size) := (by have q := ho.recs.front t.size (by rw [hdsL_len]; omega); rw [hdsL_cut] at q; exact q))))
    subst hm2
    go_wp2
    go_ret2
    rw [ED.out]
    exact ⟨_, _, _, rfl, fun _ => ⟨rfl, ho2.base_le (below_go b0 hb1).size⟩, fun hc => absurd hle hc, below_go (below_go b0 hb1) hb2⟩
  · have hI : (800 : Int) < (t.size : Int) * (n : Int) := by omega
    have ED := Lib.hid (decide_eq_false hle)
    clear hmI
    go_wp2
    go_ret2
    rw [ED.out]
    exact ⟨none, 0, 0, rfl, fun hc => absurd hc hle, fun _ => ⟨rfl, rfl, rfl⟩, b0⟩
set_option maxHeartbeats 1000000 in
theorem impl_TouchRows {A : Option Addr} {n c : Nat} {nm : ByteArray} {st : Int} {l : List ByteArray} {kb ks : ByteArray} {t : ByteArray} {w : World} (hn : l.length = n) (h : Strs w A l) (hz : n ≤ 1048576) (hs : ∀ s ∈ l, s.size ≤ 16777216) (hnm : nm.size ≤ 16777216) (hst : I64 st) (hkb : kb.size ≤ 16777216) (hks : ks.size ≤ 16777216) (ht : t.size ≤ 16777216) :
    Calls Tryz.prog 52 #[.agg #[.string nm, .int .i64 st, .slice A n c], .agg #[.string kb, .string ks], .string t] w fun e w' => ∃ A' m' c', e = .returned (.tuple #[.slice A' m' c', .bool (rowsOk nm st l kb ks t)]) ∧ (rowsOk nm st l kb ks t = true → m' = t.size * n ∧ Owned strE 1 9 w' w.heap.size A' m' c' (tRows st.toNat l kb ks t t.size)) ∧ (rowsOk nm st l kb ks t = false → A' = none ∧ m' = 0 ∧ c' = 0) ∧ Below w.heap.size w w' := by
  have b0 : Below w.heap.size w ((w.alloc (.cells ⟨[.string nm, .int .i64 st, .slice A n c]⟩ 25)).alloc (.cells ⟨[.string kb, .string ks]⟩ 27)) := by (repeat' (first | (with_reducible exact Below.refl _ _) | (with_reducible assumption) | (with_reducible refine below_drewN ?_ _) | (with_reducible refine Below.drew ?_) | (with_reducible refine below_alloc ?_ _) | (with_reducible refine Below.alloc ?_ ?_ _) | (with_reducible refine Below.setCell ?_ ?_ _) | (with_reducible refine below_go ?_ (by with_reducible assumption)) | (with_reducible refine below_then (by with_reducible assumption) ?_ ?_) | go_size))
  have K0 := (Blk.at_ w 25 [.string nm, .int .i64 st, .slice A n c] (b := w.heap.size) rfl).alloc (.cells ⟨[.string kb, .string ks]⟩ 27)
  have K1 := Blk.at_ (w.alloc (.cells ⟨[.string nm, .int .i64 st, .slice A n c]⟩ 25)) 27 [.string kb, .string ks] (b := w.heap.size + 1) (by simp)
  have HQ : Hid (rowsOk nm st l kb ks t = (goodF nm st l kb ks t && decide (t.size * l.length ≤ 800))) := Lib.hid rfl
  go_in
  go_wp2_with fail
  obtain ⟨w0, hw0⟩ : ∃ u, u = ((w.alloc (.cells #[.string nm, .int .i64 st, .slice A n c] 25)).alloc (.cells #[.string kb, .string ks] 27)) := ⟨_, rfl⟩
  rw [← hw0] at b0 K0 K1 ⊢
  clear hw0
  refine (impl_goodFor hn (h.up b0) hz hs hnm hst hkb hks ht).mono ?_; rintro e w1 ⟨rfl, hb1⟩
  have hB1 := below_go b0 hb1
  rcases hf : goodF nm st l kb ks t
  · have e1 := Lib.hid (show rowsOk nm st l kb ks t = false by rw [HQ.out, hf]; rfl)
    go_wp2
    go_ret2
    rw [e1.out]
    exact ⟨none, 0, 0, rfl, fun h => (by cases h), fun _ => ⟨rfl, rfl, rfl⟩, hB1⟩
  · obtain ⟨hk, hg⟩ := goodF_t' hf
    obtain ⟨m, rfl⟩ : ∃ m : Nat, st = (m : Int) := ⟨st.toNat, by
      have := (goodM_t (goodK_t hk).1).2.1
      omega⟩
    have L0 := K0.up hb1; have L1 := K1.up hb1
    have k0 := L0.cell 0; have k1 := L0.cell 1; have k2 := L0.cell 2; have q0 := L1.cell 0; have q1 := L1.cell 1
    simp only [List.getElem?_cons_zero, List.getElem?_cons_succ] at k0 k1 k2 q0 q1
    have e1 := Lib.hid (show rowsOk nm m l kb ks t = decide (t.size * n ≤ 800) by rw [HQ.out, hf, hn]; rfl)
    go_wp2_with fail
    refine (impl_touchRows hn (h.up hB1) hk hg).mono ?_; rintro e w2 ⟨A2, m2, c2, rfl, hy2, hn2, hb2⟩
    have HY := Lib.hid hy2
    have HN := Lib.hid hn2
    clear hy2 hn2
    go_wp2
    go_ret2
    rw [e1.out]
    refine ⟨_, _, _, rfl, fun hc => ?_, fun hc => HN.out (of_decide_eq_false hc), below_go hB1 hb2⟩
    obtain ⟨y1, y2⟩ := HY.out (of_decide_eq_true hc)
    exact ⟨y1, y2.base_le hB1.size⟩
end Go.Proofs.YtidolgonmimicaaGreat
/- A round block of a part's touch: the program's side. -/
namespace Go.Proofs.YtidolgonmimicaaGreat
set_option linter.unusedVariables false
set_option linter.unusedSimpArgs false
open Go.ChangeShapes Go.WideShapes Go.ChangeAt Go.RowKit Go.Deep
theorem dec_str (x y : ByteArray) : decide (x = y) = (x.toList == y.toList) := by
  rcases h : (x.toList == y.toList)
  · exact decide_eq_false (fun e => by subst e; simp at h)
  · have h1 : x.toList = y.toList := by simpa using h
    exact decide_eq_true (ba_ext (by rw [← ByteArray.toList_eq, ← ByteArray.toList_eq]; exact h1))
set_option maxHeartbeats 1000000 in
set_option maxRecDepth 100000 in
theorem impl_comesRound {A : Option Addr} {n c st : Nat} {nm : ByteArray} {l : List ByteArray} {kb ks : ByteArray} {t : ByteArray} {w : World} (hn : l.length = n) (h : Strs w A l) (hk : goodK nm (st : Int) l kb ks = true) (hg : goodT t = true) :
    Calls Tryz.prog 142 #[.agg #[.string nm, .int .i64 st, .slice A n c], .agg #[.string kb, .string ks], .string t] w fun e w' => e = .returned (.bool (decide (hdAt st l kb ks t t.size = roundsS st))) ∧ Below w.heap.size w w' := by
  have b0 : Below w.heap.size w ((w.alloc (.cells ⟨[.string nm, .int .i64 st, .slice A n c]⟩ 25)).alloc (.cells ⟨[.string kb, .string ks]⟩ 27)) := by (repeat' (first | (with_reducible exact Below.refl _ _) | (with_reducible assumption) | (with_reducible refine below_drewN ?_ _) | (with_reducible refine Below.drew ?_) | (with_reducible refine below_alloc ?_ _) | (with_reducible refine Below.alloc ?_ ?_ _) | (with_reducible refine Below.setCell ?_ ?_ _) | (with_reducible refine below_go ?_ (by with_reducible assumption)) | (with_reducible refine below_then (by with_reducible assumption) ?_ ?_) | go_size))
  have K0 := (Blk.at_ w 25 [.string nm, .int .i64 st, .slice A n c] (b := w.heap.size) rfl).alloc (.cells ⟨[.string kb, .string ks]⟩ 27)
  have K1 := Blk.at_ (w.alloc (.cells ⟨[.string nm, .int .i64 st, .slice A n c]⟩ 25)) 27 [.string kb, .string ks] (b := w.heap.size + 1) (by simp)
  have h8 := (goodK_all hk).1.2
  go_in
  go_wp2_with fail
  obtain ⟨w0, hw0⟩ : ∃ u, u = ((w.alloc (.cells #[.string nm, .int .i64 st, .slice A n c] 25)).alloc (.cells #[.string kb, .string ks] 27)) := ⟨_, rfl⟩
  rw [← hw0] at b0 K0 K1 ⊢
  clear hw0
  have H0 := Lib.hid (h.up b0)
  have carry : Hid (∀ u : World, Below w0.heap.size w0 u → (u.cell? ⟨w.heap.size, 0, none⟩ = some (.string nm) ∧ u.cell? ⟨w.heap.size, 1, none⟩ = some (.int .i64 st) ∧ u.cell? ⟨w.heap.size, 2, none⟩ = some (.slice A n c)) ∧ u.cell? ⟨w.heap.size + 1, 0, none⟩ = some (.string kb) ∧ u.cell? ⟨w.heap.size + 1, 1, none⟩ = some (.string ks)) := Lib.hid (fun u hu => by
    have L0 := K0.up hu; have L1 := K1.up hu
    exact ⟨⟨by simpa using L0.cell 0, by simpa using L0.cell 1, by simpa using L0.cell 2⟩, by simpa using L1.cell 0, by simpa using L1.cell 1⟩)
  clear h K0 K1
  go_region_held3 (fun u => (u.cell? ⟨w.heap.size, 0, none⟩ = some (.string nm) ∧ u.cell? ⟨w.heap.size, 1, none⟩ = some (.int .i64 st) ∧ u.cell? ⟨w.heap.size, 2, none⟩ = some (.slice A n c)) ∧ u.cell? ⟨w.heap.size + 1, 0, none⟩ = some (.string kb) ∧ u.cell? ⟨w.heap.size + 1, 1, none⟩ = some (.string ks)) (first | exact carry.out _ hb1 | exact carry.out _ (Below.refl _ _) | exact carry.out _ (Below.refl _ _).drew) (first | (go_at_call 140; ((refine (impl_touchEnd hn H0.out.drew hk hg).mono ?_); rintro e w1 ⟨rfl, hbd⟩; have hb1 := below_of_drew hbd)) | (go_at_call 105; ((refine (impl_rounds h8).mono ?_); rintro e w' ⟨rfl, rfl⟩)))
  all_goals
    go_wp2
    go_ret
    rw [dec_str]
    exact ⟨rfl, below_go b0 hb1⟩
set_option maxHeartbeats 1000000 in
theorem impl_IsRound {A : Option Addr} {n c st : Nat} {nm : ByteArray} {l : List ByteArray} {kb ks t : ByteArray} {w : World} (hn : l.length = n) (h : Strs w A l) (hz : n ≤ 1048576) (hs : ∀ s ∈ l, s.size ≤ 16777216) (hnm : nm.size ≤ 16777216) (h9 : st ≤ 1000) (hkb : kb.size ≤ 16777216) (hks : ks.size ≤ 16777216) (ht : t.size ≤ 16777216) :
    Calls Tryz.prog 51 #[.agg #[.string nm, .int .i64 st, .slice A n c], .agg #[.string kb, .string ks], .string t] w fun e w' => e = .returned (.tuple #[.bool (goodF nm (st : Int) l kb ks t && decide (hdAt st l kb ks t t.size = roundsS st)), .bool (goodF nm (st : Int) l kb ks t)]) ∧ Below w.heap.size w w' := by
  have b0 : Below w.heap.size w ((w.alloc (.cells ⟨[.string nm, .int .i64 st, .slice A n c]⟩ 25)).alloc (.cells ⟨[.string kb, .string ks]⟩ 27)) := by (repeat' (first | (with_reducible exact Below.refl _ _) | (with_reducible assumption) | (with_reducible refine below_drewN ?_ _) | (with_reducible refine Below.drew ?_) | (with_reducible refine below_alloc ?_ _) | (with_reducible refine Below.alloc ?_ ?_ _) | (with_reducible refine Below.setCell ?_ ?_ _) | (with_reducible refine below_go ?_ (by with_reducible assumption)) | (with_reducible refine below_then (by with_reducible assumption) ?_ ?_) | go_size))
  have K0 := (Blk.at_ w 25 [.string nm, .int .i64 st, .slice A n c] (b := w.heap.size) rfl).alloc (.cells ⟨[.string kb, .string ks]⟩ 27)
  have J0 := Blk.at_ (w.alloc (.cells ⟨[.string nm, .int .i64 st, .slice A n c]⟩ 25)) 27 [.string kb, .string ks] (b := w.heap.size + 1) (by simp)
  have hI : I64 (st : Int) := ⟨by omega, by omega⟩
  have H0 := h.up b0
  have HG : Hid (goodF nm st l kb ks t = (goodK nm (st : Int) l kb ks && goodT t)) := Lib.hid rfl
  go_in
  go_wp2_with fail
  refine (impl_goodFor (nm := nm) (st := (st : Int)) hn H0 hz hs hnm hI hkb hks ht).mono ?_; rintro e w1 ⟨rfl, hb1⟩
  have K1 := K0.up hb1
  have J1 := J0.up hb1
  have H1 := H0.up hb1
  have B1 := below_go b0 hb1
  clear K0 J0 H0 h b0 hb1
  rcases hg : goodF nm st l kb ks t
  · have e2 := Lib.hid hg
    go_wp2
    go_ret2
    rw [e2.out]
    exact ⟨rfl, B1⟩
  · have e2 := Lib.hid hg
    have hgg := hg
    rw [HG.out, Bool.and_eq_true] at hgg
    have k0 := K1.cell 0; have k1 := K1.cell 1; have k2 := K1.cell 2; have j0 := J1.cell 0; have j1 := J1.cell 1
    simp only [List.getElem?_cons_zero, List.getElem?_cons_succ] at k0 k1 k2 j0 j1
    go_wp2_with fail
    refine (impl_comesRound (t := t) hn H1 hgg.1 hgg.2).mono ?_; rintro e w2 ⟨rfl, hb2⟩
    go_wp2
    go_ret2
    rw [e2.out, Bool.true_and]
    exact ⟨rfl, below_go B1 hb2⟩
end Go.Proofs.YtidolgonmimicaaGreat
/- Every row has an order. -/
namespace Go.Proofs.YtidolgonmimicaaGreat
set_option linter.unusedVariables false
set_option linter.unusedSimpArgs false
open Go.ChangeShapes Go.WideShapes Go.ChangeAt Go.RowKit Go.Deep
theorem IsOrd.ex {n : Nat} {q : ByteArray} (hq : RowN n q) : ∃ m, IsOrd n q m := by
  have key : ∀ m, (∀ k, 1 ≤ k → k < m → pwS n q k ≠ roundsS n) ∨ ∃ j, IsOrd n q j := by
    intro m
    induction m with
    | zero => exact Or.inl fun k _ h => absurd h (by omega)
    | succ m ih =>
      rcases ih with h | h
      · by_cases h1 : 1 ≤ m
        · by_cases e : pwS n q m = roundsS n
          · exact Or.inr ⟨m, h1, e, h⟩
          · refine Or.inl fun k k1 k2 => ?_
            rcases Nat.lt_or_ge k m with z | z
            · exact h k k1 z
            · obtain rfl : k = m := by omega
              exact e
        · exact Or.inl fun k k1 k2 => absurd k2 (by omega)
      · exact Or.inr h
  rcases key (fact n + 1) with h | h
  · have := pwL_le hq h
    omega
  · exact h
end Go.Proofs.YtidolgonmimicaaGreat
/- The rows that stand for the parts: the program's side. -/
namespace Go.Proofs.YtidolgonmimicaaGreat
set_option linter.unusedVariables false
set_option linter.unusedSimpArgs false
open Go.ChangeShapes Go.WideShapes Go.ChangeAt Go.RowKit Go.Deep
set_option maxHeartbeats 2000000 in
set_option maxRecDepth 100000 in
theorem impl_PartRows {A : Option Addr} {n c st : Nat} {nm : ByteArray} {l : List ByteArray} {kb ks t : ByteArray} {w : World} (hn : l.length = n) (h : Strs w A l) (hz : n ≤ 1048576) (hs : ∀ s ∈ l, s.size ≤ 16777216) (hnm : nm.size ≤ 16777216) (h9 : st ≤ 1000) (hkb : kb.size ≤ 16777216) (hks : ks.size ≤ 16777216) (ht : t.size ≤ 16777216) :
    Calls Tryz.prog 49 #[.agg #[.string nm, .int .i64 st, .slice A n c], .agg #[.string kb, .string ks], .string t] w fun e w' => ∃ A' m' c', e = .returned (.tuple #[.slice A' m' c', .bool (rowsOk nm (st : Int) l kb ks t)]) ∧ (rowsOk nm (st : Int) l kb ks t = true → m' = t.size * n ∧ ∃ M, IsOrd st (hdAt st l kb ks t t.size) M ∧ Owned strE 1 9 w' w.heap.size A' m' c' ((tRows st l kb ks t t.size).map (leastS st (hdAt st l kb ks t t.size) M))) ∧ (rowsOk nm (st : Int) l kb ks t = false → A' = none ∧ m' = 0 ∧ c' = 0) ∧ Below w.heap.size w w' := by
  have b0 : Below w.heap.size w ((w.alloc (.cells ⟨[.string nm, .int .i64 st, .slice A n c]⟩ 25)).alloc (.cells ⟨[.string kb, .string ks]⟩ 27)) := by (repeat' (first | (with_reducible exact Below.refl _ _) | (with_reducible assumption) | (with_reducible refine below_drewN ?_ _) | (with_reducible refine Below.drew ?_) | (with_reducible refine below_alloc ?_ _) | (with_reducible refine Below.alloc ?_ ?_ _) | (with_reducible refine Below.setCell ?_ ?_ _) | (with_reducible refine below_go ?_ (by with_reducible assumption)) | (with_reducible refine below_then (by with_reducible assumption) ?_ ?_) | go_size))
  have K0 := (Blk.at_ w 25 [.string nm, .int .i64 st, .slice A n c] (b := w.heap.size) rfl).alloc (.cells ⟨[.string kb, .string ks]⟩ 27)
  have J0 := Blk.at_ (w.alloc (.cells ⟨[.string nm, .int .i64 st, .slice A n c]⟩ 25)) 27 [.string kb, .string ks] (b := w.heap.size + 1) (by simp)
  have hI : I64 (st : Int) := ⟨by omega, by omega⟩
  have H0 := h.up b0
  have HQ : Hid (rowsOk nm (st : Int) l kb ks t = (goodF nm (st : Int) l kb ks t && decide (t.size * l.length ≤ 800))) := Lib.hid rfl
  have HG : Hid (goodF nm st l kb ks t = (goodK nm (st : Int) l kb ks && goodT t)) := Lib.hid rfl
  clear h
  go_in
  go_wp2_with fail
  refine (impl_TouchRows (nm := nm) (st := (st : Int)) hn H0 hz hs hnm hI hkb hks ht).mono ?_; rintro e w1 ⟨A1, m1, c1, rfl, hy, hno, hb1⟩
  have K1 := K0.up hb1
  have J1 := J0.up hb1
  have H1 := H0.up hb1
  have B1 := below_go b0 hb1
  have hs0 := b0.size
  clear K0 J0 H0
  rcases hg : rowsOk nm (st : Int) l kb ks t
  · have e2 := Lib.hid hg
    obtain ⟨rfl, rfl, rfl⟩ := hno hg
    clear hy hno
    go_wp2
    go_ret2
    rw [e2.out]
    exact ⟨none, 0, 0, rfl, (fun e => by cases e), fun _ => ⟨rfl, rfl, rfl⟩, B1⟩
  · have e2 := Lib.hid hg
    obtain ⟨hm1, ho⟩ := hy hg
    have hgg := hg
    rw [HQ.out, HG.out, Bool.and_eq_true, Bool.and_eq_true, decide_eq_true_iff] at hgg
    have h38 := (goodK_all hgg.1.1).1
    have HRW : Hid (RowN st (hdAt st l kb ks t t.size)) := Lib.hid (hdAt_good h38.1 h38.2 l kb ks t t.size)
    obtain ⟨M, hM⟩ := IsOrd.ex HRW.out
    have HM := Lib.hid hM
    have hstn : ((st : Int)).toNat = st := by omega
    rw [hstn] at ho
    have HO := Lib.hid ho
    have HTR := Lib.hid (tRows_row (l := l) (b := kb) (s := ks) (u := t) h38.1 h38.2 t.size)
    have hmz : m1 ≤ 1048576 := by rw [hm1, ← hn]; omega
    have HM1 := Lib.hid hm1
    clear hy hno ho hM hm1
    have k0 := K1.cell 0; have k1 := K1.cell 1; have k2 := K1.cell 2; have j0 := J1.cell 0; have j1 := J1.cell 1
    simp only [List.getElem?_cons_zero, List.getElem?_cons_succ] at k0 k1 k2 j0 j1
    go_wp2_with fail
    refine (impl_touchEnd (t := t) hn H1 hgg.1.1 hgg.1.2).mono ?_; rintro e w2 ⟨rfl, hb2⟩
    have R2 := Lib.hid ((HO.out.up hb2).recs)
    have B2 := below_go B1 hb2
    go_wp2_with fail
    refine (impl_leastOnes HRW.out HM.out HTR.out HO.out.len R2.out hmz).mono ?_; rintro e w3 ⟨A3, c3, rfl, ho3, hb3⟩
    have hs2 := B2.size
    go_wp2
    go_ret2
    rw [e2.out]
    exact ⟨A3, m1, c3, rfl, fun _ => ⟨HM1.out, M, HM.out, ho3.base_le hs2⟩, (fun e => by cases e), below_go B2 hb3⟩
end Go.Proofs.YtidolgonmimicaaGreat
/- What the functions of chapter 11 answer, as plain functions; the law of false lead heads. -/
namespace Go.Proofs.YtidolgonmimicaaGreat
set_option linter.unusedVariables false
set_option linter.unusedSimpArgs false
open Go.ChangeShapes Go.WideShapes Go.ChangeAt Go.RowKit Go.Deep
def rowOk (st : Nat) (f : ByteArray) : Bool := goodRow f && (f.size == st)
theorem rowOk_t {st : Nat} {f : ByteArray} (h : rowOk st f = true) : RowN st f := by
  rw [rowOk, Bool.and_eq_true] at h
  exact ⟨h.1, by simpa using h.2⟩
theorem rowOk_of {st : Nat} {f : ByteArray} (h : RowN st f) : rowOk st f = true := by
  rw [rowOk, h.1, h.2]; simp
def fhOk (nm : ByteArray) (st : Nat) (l : List ByteArray) (f : ByteArray) : Bool := goodM nm (st : Int) l && rowOk st f
noncomputable def fhV (nm : ByteArray) (st : Nat) (l : List ByteArray) (f : ByteArray) : Bool := fhOk nm st l f && inL (falL (leadL st l)) f
noncomputable def shV (nm : ByteArray) (st : Nat) (l : List ByteArray) (f : ByteArray) : List ByteArray := if fhOk nm st l f = true then meetL (leadL st l) ((leadL st l).map (timesS f)) else []
noncomputable def fhsOk (nm : ByteArray) (st : Nat) (l : List ByteArray) : Bool := goodM nm (st : Int) l && decide ((falS (leadL st l)).length ≤ 800)
noncomputable def fhsV (nm : ByteArray) (st : Nat) (l : List ByteArray) : List ByteArray := if fhsOk nm st l = true then falS (leadL st l) else []
noncomputable def sfOk (na : ByteArray) (sa : Nat) (la : List ByteArray) (nb : ByteArray) (sb : Nat) (lb : List ByteArray) : Bool := (fhsOk na sa la && fhsOk nb sb lb) && decide (sa = sb)
noncomputable def sfV (na : ByteArray) (sa : Nat) (la : List ByteArray) (nb : ByteArray) (sb : Nat) (lb : List ByteArray) : Bool := sfOk na sa la nb sb lb && decide (falS (leadL sa la) = falS (leadL sb lb))
def ltV (nm : ByteArray) (st : Nat) (l : List ByteArray) : Bool := goodM nm (st : Int) l && nodupB (leadL st l)
theorem fal_len (L : List ByteArray) : (falL L).length = L.length * L.length := by
  have : ∀ M : List ByteArray, (M.flatMap fun r => L.map fun s => timesS r (turnS s)).length = M.length * L.length := by
    intro M
    induction M with
    | nil => simp
    | cons a M ih => rw [List.flatMap_cons, List.length_append, ih, List.length_map, List.length_cons, Nat.succ_mul, Nat.add_comm]
  exact this L
section
variable {nm : ByteArray} {st : Nat} {l : List ByteArray} {f : ByteArray}
theorem fhOk_t (h : fhOk nm st l f = true) : goodM nm (st : Int) l = true ∧ RowN st f ∧ (3 ≤ st ∧ st ≤ 8) ∧ 1 ≤ l.length := by
  rw [fhOk, Bool.and_eq_true] at h
  have h1 := rowOk_t h.2
  exact ⟨h.1, h1, h1.st, (goodM_t h.1).2.2.1.1⟩
theorem fhOk_turn (h : fhOk nm st l f = true) : fhOk nm st l (turnS f) = true := by
  obtain ⟨h1, h2, _⟩ := fhOk_t h
  rw [fhOk, h1, rowOk_of (turn_rowN h2)]; rfl
theorem fhV_turn (h : fhOk nm st l f = true) : fhV nm st l (turnS f) = fhV nm st l f := by
  obtain ⟨h1, h2, h3, _⟩ := fhOk_t h
  rw [fhV, fhV, fhOk_turn h, h, Bool.true_and, Bool.true_and, Bool.eq_iff_iff, inL_iff, inL_iff]
  exact falL_turn_iff (leadL_row h3.1 h3.2 l) h2
theorem fhV_sh (h : fhOk nm st l f = true) : fhV nm st l f = decide (0 < (shV nm st l f).length) := by
  obtain ⟨h1, h2, h3, _⟩ := fhOk_t h
  rw [fhV, shV, h, Bool.true_and, if_pos rfl, Bool.eq_iff_iff, inL_iff, decide_eq_true_iff, ← meet_iff (leadL_row h3.1 h3.2 l) h2, List.length_pos_iff]
theorem fhs_in (h : fhOk nm st l f = true) (g : fhsOk nm st l = true) : inL (fhsV nm st l) f = fhV nm st l f := by
  rw [fhV, h, Bool.true_and, fhsV, if_pos g, Bool.eq_iff_iff, inL_iff, inL_iff, falS_mem]
theorem fhs_rounds (h : fhOk nm st l f = true) (g : fhsOk nm st l = true) : inL (fhsV nm st l) (roundsS st) = true := by
  obtain ⟨h1, h2, h3, h4⟩ := fhOk_t h
  rw [fhsV, if_pos g, inL_iff, falS_mem]
  exact falL_rounds (leadL_row h3.1 h3.2 l) (fun e => by
    have := leadL_len st l
    rw [e] at this
    simp at this; omega)
end
end Go.Proofs.YtidolgonmimicaaGreat
/- The laws' own conversions of []string: copying, comparing, counting, marking. -/
namespace Go.Proofs.YtidolgonmimicaaGreat
set_option linter.unusedVariables false
set_option linter.unusedSimpArgs false
open Go.ChangeShapes Go.WideShapes Go.ChangeAt Go.RowKit Go.Deep
theorem bytes_same {a b : ByteArray} (h : (a.toList == b.toList) = true) : a = b := by
  have h1 : a.toList = b.toList := by simpa using h
  rw [ByteArray.toList_eq, ByteArray.toList_eq] at h1
  cases a; cases b
  congr 1
  exact Array.ext' h1
/-- The room that a list of texts takes. -/
def szS (l : List ByteArray) : Int := (l.map fun s => (s.size : Int)).sum + l.length
theorem szS_nil : szS [] = 0 := rfl
theorem szS_cons (s : ByteArray) (l : List ByteArray) : szS (s :: l) = (s.size : Int) + szS l + 1 := by simp only [szS, List.map_cons, List.sum_cons, List.length_cons]; omega
theorem szS_len : ∀ (l : List ByteArray), (l.length : Int) ≤ szS l
  | [] => by simp [szS]
  | s :: l => by have := szS_len l; rw [szS_cons, List.length_cons]; omega
theorem szS_each : ∀ (l : List ByteArray) (s : ByteArray), s ∈ l → (s.size : Int) ≤ szS l
  | x :: l, s, h => by
    rw [szS_cons]
    have h0 := szS_len l
    rcases List.mem_cons.1 h with rfl | h
    · omega
    · have := szS_each l s h
      omega
/-- The digits of k ahead of a text. -/
def dgt (n : Nat) : ByteArray := strOfNums [48 + (n : Int) % 10]
theorem dgt_size (n : Nat) : (dgt n).size = 1 := rfl
def mkD (k : Nat) (out : ByteArray) : ByteArray := if k = 0 then out else mkD (k / 10) (dgt k ++ out)
termination_by k
decreasing_by omega
theorem mkD_0 (out : ByteArray) : mkD 0 out = out := by rw [mkD, if_pos rfl]
theorem mkD_pos {k : Nat} (h : 0 < k) (out : ByteArray) : mkD k out = mkD (k / 10) (dgt k ++ out) := by rw [mkD, if_neg (by omega)]
def markT (k : Nat) : ByteArray := ⟨#[109]⟩ ++ mkD k ByteArray.empty
def markS (k0 : Int) (j : Nat) : ByteArray := markT (k0 + (j : Int)).toNat
end Go.Proofs.YtidolgonmimicaaGreat
/- The reference's comparison of two lists of texts; the laws' comparison of equal ones. -/
namespace Go.Proofs.YtidolgonmimicaaGreat
set_option linter.unusedVariables false
set_option linter.unusedSimpArgs false
open Go.ChangeShapes Go.WideShapes Go.ChangeAt Go.RowKit Go.Deep
set_option maxRecDepth 100000 in
theorem spec_sameS (A C : Option Addr) (n n' c d : Nat) (l m : List ByteArray) (w : World) (hn : l.length = n) (hn' : m.length = n') (h : Recs strE 1 w A l) (g : Recs strE 1 w C m) (hz : n ≤ 16777216) (hz' : n' ≤ 16777216) :
    Calls Tryz.prog 112 #[.slice A n c, .slice C n' d] w fun e w' => e = .returned (.bool (decide (l = m))) ∧ Below w.heap.size w w' := by
  subst hn hn'
  by_cases hl : l.length = m.length
  · have HL := Lib.hid hl
    rw [← hl]
    clear hl
    go_in
    go_wp2
    go_loopw [13] (fun i wr => ∃ k : Nat, k ≤ l.length ∧ i = .int .i64 k ∧ Hid (∀ j, j < k → l[j]? = m[j]?) ∧ Below w.heap.size w wr) (fun i _ => l.length - (intOf i).toNat)
    case atStart => exact ⟨0, Nat.zero_le _, rfl, Lib.hid (fun j hj => absurd hj (by omega)), Below.refl _ _⟩
    case round =>
      obtain ⟨k, hk, rfl, HT, hb⟩ := hrel
      by_cases hlt : k < l.length
      · obtain ⟨b1, o1, x, rfl, _, hx, hcx⟩ := (h.below hb (Nat.le_refl _)).at_str hlt
        obtain ⟨b2, o2, y, rfl, _, hy, hcy⟩ := (g.below hb (Nat.le_refl _)).at_str (by rw [← HL.out]; exact hlt)
        have HX := Lib.hid hx
        have HY := Lib.hid hy
        clear hx hy h g
        rcases hne : (x.toList == y.toList)
        · have he := Lib.hid hne
          go_wp2
          go_quiet (fail)
          go_wp2
          go_ret
          refine ⟨ret_bool ?_, by (repeat' (first | (with_reducible exact Below.refl _ _) | (with_reducible assumption) | (with_reducible refine below_drewN ?_ _) | (with_reducible refine Below.drew ?_) | (with_reducible refine below_alloc ?_ _) | (with_reducible refine Below.alloc ?_ ?_ _) | (with_reducible refine Below.setCell ?_ ?_ _) | (with_reducible refine below_go ?_ (by with_reducible assumption)) | (with_reducible refine below_then (by with_reducible assumption) ?_ ?_) | go_size))⟩
          have hd : l ≠ m := fun e => by
            have h1 := HX.out
            rw [e, HY.out] at h1
            injection h1 with h1
            have h2 := he.out
            rw [h1] at h2
            simp at h2
          simp [hd]
        · have he := Lib.hid hne
          go_wp2
          go_quiet (fail)
          go_wp2
          go_roundw
          case rel => exact ⟨k + 1, by omega, by go_num, Lib.hid (upto_succ HT.out (by rw [HX.out, HY.out, bytes_same he.out])), by (repeat' (first | (with_reducible exact Below.refl _ _) | (with_reducible assumption) | (with_reducible refine below_drewN ?_ _) | (with_reducible refine Below.drew ?_) | (with_reducible refine below_alloc ?_ _) | (with_reducible refine Below.alloc ?_ ?_ _) | (with_reducible refine Below.setCell ?_ ?_ _) | (with_reducible refine below_go ?_ (by with_reducible assumption)) | (with_reducible refine below_then (by with_reducible assumption) ?_ ?_) | go_size))⟩
          case measure => simp [intOf]; omega
      · go_wp2
        go_ret
        refine ⟨ret_bool ?_, hb⟩
        have hd : l = m := eq_of_upto (fun j hj => HT.out j hj) (by omega) (by have := HL.out; omega)
        simp [hd]
  · have hne : ((l.length : Int) != (m.length : Int)) = true := by simp; omega
    have hd : l ≠ m := fun e => hl (by rw [e])
    have HD := Lib.hid hd
    clear hd hl
    go_in
    go_wp2
    go_ret
    refine ⟨ret_bool ?_, by (repeat' (first | (with_reducible exact Below.refl _ _) | (with_reducible assumption) | (with_reducible refine below_drewN ?_ _) | (with_reducible refine Below.drew ?_) | (with_reducible refine below_alloc ?_ _) | (with_reducible refine Below.alloc ?_ ?_ _) | (with_reducible refine Below.setCell ?_ ?_ _) | (with_reducible refine below_go ?_ (by with_reducible assumption)) | (with_reducible refine below_then (by with_reducible assumption) ?_ ?_) | go_size))⟩
    simp [HD.out]
set_option maxRecDepth 100000 in
theorem laws_qSameS {A B : Option Addr} {n c d : Nat} {l : List ByteArray} {w : World} (hn : l.length = n) (h : Strs w A l) (g : Strs w B l) (hz : n ≤ 16777216) :
    Calls Tryz.prog 17 #[.slice A n c, .slice B n d] w fun e w' => e = .returned (.bool true) ∧ Below w.heap.size w w' := by
  subst hn
  go_in
  go_wp2
  go_loopw [13] (fun i wr => ∃ k : Nat, k ≤ l.length ∧ i = .int .i64 k ∧ Below w.heap.size w wr) (fun i _ => l.length - (intOf i).toNat)
  case atStart => exact ⟨0, Nat.zero_le _, rfl, Below.refl _ _⟩
  case round =>
    obtain ⟨k, hk, rfl, hb⟩ := hrel
    by_cases hlt : k < l.length
    · obtain ⟨b1, o1, x, rfl, _, hx, hcx⟩ := (h.below hb (Nat.le_refl _)).at_str hlt
      obtain ⟨b2, o2, y, rfl, _, hy, hcy⟩ := (g.below hb (Nat.le_refl _)).at_str hlt
      rw [hx] at hy
      injection hy with hy
      subst hy
      clear hx h g
      go_wp2
      go_quiet (fail)
      go_wp2
      go_roundw
      case rel => exact ⟨k + 1, by omega, by go_num, below_drewN hb _⟩
      case measure => simp [intOf]; omega
    · go_wp2
      go_ret
      exact ⟨rfl, hb⟩
end Go.Proofs.YtidolgonmimicaaGreat
/- A literal of one element as a row of the call's own (where the library's sort is not on the road). -/
namespace Go.Proofs.YtidolgonmimicaaGreat
set_option linter.unusedVariables false
set_option linter.unusedSimpArgs false
open Go.ChangeShapes Go.WideShapes Go.ChangeAt Go.RowKit Go.Deep
end Go.Proofs.YtidolgonmimicaaGreat
/- The walks of chapter 11, the reference's side: false lead heads. -/
namespace Go.Proofs.YtidolgonmimicaaGreat
set_option linter.unusedVariables false
set_option linter.unusedSimpArgs false
open Go.ChangeShapes Go.WideShapes Go.ChangeAt Go.RowKit Go.Deep
theorem leadL_n {st n : Nat} {l : List ByteArray} (hn : l.length = n) : leadL st l = rowsL (roundsS st) l n := by rw [leadL, hn]
theorem goodM_st {nm : ByteArray} {st : Nat} {l : List ByteArray} (h : goodM nm (st : Int) l = true) : (3 ≤ st ∧ st ≤ 8) ∧ 1 ≤ l.length ∧ l.length ≤ 40 := by
  have := goodM_t h
  omega
theorem meetL_succ {L M : List ByteArray} {k : Nat} {x : ByteArray} (h : L[k]? = some x) : meetL (L.take (k + 1)) M = if inL M x = true then meetL (L.take k) M ++ [x] else meetL (L.take k) M := by
  rw [meetL, meetL, take_succ_some h, List.filter_append]
  by_cases hx : inL M x = true <;> simp [hx]
theorem meetL_len (L M : List ByteArray) (k : Nat) : (meetL (L.take k) M).length ≤ k := by
  rw [meetL]
  exact Nat.le_trans (List.length_filter_le ..) (List.length_take_le ..)
/-- The products of one row by the first k turned rows. -/
noncomputable def prodL (r : ByteArray) (L : List ByteArray) (k : Nat) : List ByteArray := (L.take k).map fun s => timesS r (turnS s)
theorem prodL_succ {r : ByteArray} {L : List ByteArray} {k : Nat} {s : ByteArray} (h : L[k]? = some s) : prodL r L (k + 1) = prodL r L k ++ [timesS r (turnS s)] := by
  rw [prodL, prodL, take_succ_some h, List.map_append]; rfl
theorem prodL_all (r : ByteArray) (L : List ByteArray) : prodL r L L.length = L.map fun s => timesS r (turnS s) := by rw [prodL, List.take_length]
/-- The products of the first k rows. -/
noncomputable def falTo (L : List ByteArray) (k : Nat) : List ByteArray := (L.take k).flatMap fun r => L.map fun s => timesS r (turnS s)
theorem falTo_succ {L : List ByteArray} {k : Nat} {r : ByteArray} (h : L[k]? = some r) : falTo L (k + 1) = falTo L k ++ prodL r L L.length := by
  rw [falTo, falTo, take_succ_some h, List.flatMap_append, prodL_all]; simp
theorem falTo_all (L : List ByteArray) : falTo L L.length = falL L := by rw [falTo, List.take_length]; rfl
theorem falTo_zero (L : List ByteArray) : falTo L 0 = [] := rfl
theorem prodL_zero (r : ByteArray) (L : List ByteArray) : prodL r L 0 = [] := rfl
theorem spec_l11Lead {A : Option Addr} {n c st : Nat} {nm : ByteArray} {l : List ByteArray} {a : ByteArray} {w : World} (ha : a.size ≤ 8) (hn : l.length = n) (h : Strs w A l) (hz : n ≤ 1048576) (hs : ∀ s ∈ l, s.size ≤ 16777216) :
    Calls Tryz.prog 109 #[.agg #[.string nm, .int .i64 st, .slice A n c], .string a] w fun e w' => ∃ A' c', e = .returned (.slice A' n c') ∧ Owned strE 1 9 w' w.heap.size A' n c' (rowsL a l n) ∧ Below w.heap.size w w' := by
  have b0 : Below w.heap.size w (w.alloc (.cells ⟨[.string nm, .int .i64 st, .slice A n c]⟩ 25)) := by (repeat' (first | (with_reducible exact Below.refl _ _) | (with_reducible assumption) | (with_reducible refine below_drewN ?_ _) | (with_reducible refine Below.drew ?_) | (with_reducible refine below_alloc ?_ _) | (with_reducible refine Below.alloc ?_ ?_ _) | (with_reducible refine Below.setCell ?_ ?_ _) | (with_reducible refine below_go ?_ (by with_reducible assumption)) | (with_reducible refine below_then (by with_reducible assumption) ?_ ?_) | go_size))
  go_in
  go_wp2_with fail
  refine (spec_l4Lead ha hn (h.up b0) (by omega) hs).mono ?_; rintro e w1 ⟨A1, c1, rfl, ho, hb1⟩
  go_wp2
  go_ret
  exact ⟨_, _, rfl, ho.base_le (by simp), below_go b0 hb1⟩
set_option maxHeartbeats 1000000 in
set_option maxRecDepth 100000 in
theorem spec_IsLeadTrue {A : Option Addr} {n c st : Nat} {nm : ByteArray} {l : List ByteArray} {w : World} (hn : l.length = n) (h : Strs w A l) (hz : n ≤ 1048576) (hs : ∀ s ∈ l, s.size ≤ 16777216) (hnm : nm.size ≤ 16777216) (h9 : st ≤ 1000) :
    Calls Tryz.prog 29 #[.agg #[.string nm, .int .i64 st, .slice A n c]] w fun e w' => e = .returned (.tuple #[.bool (ltV nm st l), .bool (goodM nm (st : Int) l)]) ∧ Below w.heap.size w w' := by
  have b0 : Below w.heap.size w (w.alloc (.cells ⟨[.string nm, .int .i64 st, .slice A n c]⟩ 25)) := by (repeat' (first | (with_reducible exact Below.refl _ _) | (with_reducible assumption) | (with_reducible refine below_drewN ?_ _) | (with_reducible refine Below.drew ?_) | (with_reducible refine below_alloc ?_ _) | (with_reducible refine Below.alloc ?_ ?_ _) | (with_reducible refine Below.setCell ?_ ?_ _) | (with_reducible refine below_go ?_ (by with_reducible assumption)) | (with_reducible refine below_then (by with_reducible assumption) ?_ ?_) | go_size))
  have K0 := Blk.at_ w 25 [.string nm, .int .i64 st, .slice A n c] (b := w.heap.size) rfl
  have HS := Lib.hid hs
  have HQ : Hid (ltV nm st l = (goodM nm (st : Int) l && nodupB (leadL st l))) := Lib.hid rfl
  have hI : I64 (st : Int) := ⟨by omega, by omega⟩
  have H0 := h.up b0
  go_in
  go_wp2_with fail
  refine (spec_l4Good hn H0 hz HS.out hnm hI).mono ?_; rintro e w1 ⟨rfl, hb1⟩
  have K1 := K0.up hb1
  have H1 := H0.up hb1
  have B1 := below_go b0 hb1
  clear K0 H0 h b0 hb1
  rcases hg : goodM nm (st : Int) l
  · have e1 := Lib.hid (show ltV nm st l = false by rw [HQ.out, hg]; rfl)
    go_wp2
    go_ret2
    rw [e1.out, hg]
    exact ⟨rfl, B1⟩
  · have e1 := Lib.hid (show ltV nm st l = nodupB (leadL st l) by rw [HQ.out, hg]; rfl)
    have h38 := (goodM_st hg).1
    have hr8 : (roundsS st).size ≤ 8 := by rw [rounds_size st (by omega)]; exact h38.2
    have HR := Lib.hid (leadL_row h38.1 h38.2 l)
    have k0 := K1.cell 0; have k1 := K1.cell 1; have k2 := K1.cell 2
    simp only [List.getElem?_cons_zero, List.getElem?_cons_succ] at k0 k1 k2
    go_upto_region 3 with fail
    refine wp_region_still_tail 4 (by kernel_rfl) (by kernel_rfl) ?_
    simp only [List.take_succ_cons, List.take_zero, List.drop_succ_cons, List.drop_zero]
    repeat still_step
    still_call (turnC (spec_l1Rounds h38.2))
    repeat still_step
    refine wpStill_nil ?_
    change wpList _ _ _ _ _ w1.drew
    go_wp2_with fail
    refine (spec_l11Lead hr8 hn H1.drew hz HS.out).mono ?_; rintro e w2 ⟨A2, c2, rfl, ho, hbd⟩
    have hb2 := below_of_drew hbd
    rw [← leadL_n hn] at ho
    go_wp2_with fail
    refine (spec_l7True (by rw [leadL_len]; exact hn) ho.recs (by omega) (fun s hs => by have h1 := (HR.out s hs).2; omega)).mono ?_; rintro e w3 ⟨rfl, hb3⟩
    go_wp2
    go_ret2
    rw [e1.out, hg]
    exact ⟨rfl, below_go (below_go B1 hb2) hb3⟩
set_option maxHeartbeats 1000000 in
set_option maxRecDepth 100000 in
theorem spec_l11Shared {A : Option Addr} {n c st : Nat} {nm : ByteArray} {l : List ByteArray} {f : ByteArray} {w : World} (hn : l.length = n) (h : Strs w A l) (hz : n ≤ 1048576) (hs : ∀ s ∈ l, s.size ≤ 16777216) (hnm : nm.size ≤ 16777216) (h9 : st ≤ 1000) (hg : goodM nm (st : Int) l = true) (hf : RowN st f) :
    Calls Tryz.prog 102 #[.agg #[.string nm, .int .i64 st, .slice A n c], .string f] w fun e w' => ∃ A' m c', e = .returned (.slice A' m c') ∧ Owned strE 1 9 w' w.heap.size A' m c' (meetL (leadL st l) ((leadL st l).map (timesS f))) ∧ m ≤ 40 ∧ Below w.heap.size w w' := by
  have b0 : Below w.heap.size w (w.alloc (.cells ⟨[.string nm, .int .i64 st, .slice A n c]⟩ 25)) := by (repeat' (first | (with_reducible exact Below.refl _ _) | (with_reducible assumption) | (with_reducible refine below_drewN ?_ _) | (with_reducible refine Below.drew ?_) | (with_reducible refine below_alloc ?_ _) | (with_reducible refine Below.alloc ?_ ?_ _) | (with_reducible refine Below.setCell ?_ ?_ _) | (with_reducible refine below_go ?_ (by with_reducible assumption)) | (with_reducible refine below_then (by with_reducible assumption) ?_ ?_) | go_size))
  have K0 := Blk.at_ w 25 [.string nm, .int .i64 st, .slice A n c] (b := w.heap.size) rfl
  have HS := Lib.hid hs
  have hgs := goodM_st hg
  have h38 := hgs.1
  have hr8 : (roundsS st).size ≤ 8 := by rw [rounds_size st (by omega)]; exact h38.2
  have hf8 : f.size ≤ 8 := by rw [hf.2]; exact h38.2
  have HR := Lib.hid (leadL_row h38.1 h38.2 l)
  have H0 := h.up b0
  have hM : rowsL f l n = (leadL st l).map (timesS f) := by rw [rowsL_times hf, ← leadL_n hn]
  obtain ⟨M, hM1⟩ : ∃ u, u = (leadL st l).map (timesS f) := ⟨_, rfl⟩
  obtain ⟨L, hL1⟩ : ∃ u, u = leadL st l := ⟨_, rfl⟩
  have hLn : L.length = n := by rw [hL1, leadL_len]; exact hn
  have hMn : M.length = n := by rw [hM1, List.length_map, ← hL1]; exact hLn
  rw [← hM1] at hM ⊢
  rw [← hL1] at HR ⊢
  have HL1 := Lib.hid hL1
  have HM1 := Lib.hid hM
  have HLn := Lib.hid hLn
  have HMn := Lib.hid hMn
  have hn40 : n ≤ 40 := by omega
  clear hL1 hM1 hM hLn hMn hgs hg hf
  go_in
  go_wp2_with fail
  refine (spec_l11Lead hf8 hn H0 hz HS.out).mono ?_; rintro e w1 ⟨A1, c1, rfl, ho1, hb1⟩
  rw [HM1.out] at ho1
  have K1 := K0.up hb1
  have H1 := H0.up hb1
  have B1 := below_go b0 hb1
  clear K0 H0 h b0 hb1
  have k0 := K1.cell 0; have k1 := K1.cell 1; have k2 := K1.cell 2
  simp only [List.getElem?_cons_zero, List.getElem?_cons_succ] at k0 k1 k2
  go_upto_region 3 with fail
  go_region_held3 (fun u => u.cell? ⟨w.heap.size, 0, none⟩ = some (.string nm) ∧ u.cell? ⟨w.heap.size, 1, none⟩ = some (.int .i64 (st : Int)) ∧ u.cell? ⟨w.heap.size, 2, none⟩ = some (.slice A n c)) (first | exact ⟨k0d, k1d, k2d⟩ | exact ⟨k0, k1, k2⟩) (first | (go_at_call 90; refine (spec_l1Rounds h38.2).mono ?_; rintro e w' ⟨rfl, rfl⟩) | (go_at_call 109; refine (spec_l11Lead hr8 hn H1.drew hz HS.out).mono ?_; rintro e w2 ⟨A2, c2, rfl, ho2, hbd⟩; have hb2 := below_of_drew hbd; have K2 := K1.up hb2; have k0d := K2.cell 0; have k1d := K2.cell 1; have k2d := K2.cell 2; simp only [List.getElem?_cons_zero, List.getElem?_cons_succ] at k0d k1d k2d))
  rw [← leadL_n hn, ← HL1.out] at ho2
  have B2 := below_go B1 hb2
  have R1 := Lib.hid (ho1.recs.up hb2)
  have R2 := Lib.hid ho2.recs
  clear K1 H1 ho1 ho2 hbd hb2 k0 k1 k2
  go_wp2
  go_loopw [6, 18] (fun v i wr => ∃ (k m : Nat) (A' : Option Addr) (c' : Nat), k ≤ n ∧ i = .int .i64 k ∧ v = .slice A' m c' ∧ m ≤ k ∧ Hid (Owned strE 1 9 wr w2.heap.size A' m c' (meetL (L.take k) M)) ∧ Below w2.heap.size w2 wr) (fun _ i _ => n - (intOf i).toNat)
  case atStart => exact ⟨0, 0, none, 0, Nat.zero_le _, rfl, rfl, Nat.le_refl _, Lib.hid (Owned.nil strE_len _ _ _), Below.refl _ _⟩
  case round =>
    obtain ⟨k, m, A3, c3, hk, rfl, rfl, hmk, HO, hb⟩ := hrel
    rename World => wr
    have hszr := hb.size
    by_cases hlt : k < n
    · obtain ⟨b1, o1, x, rfl, _, hx, hcx⟩ := (R2.out.below hb (Nat.le_refl _)).at_str (k := k) (by rw [HLn.out]; exact hlt)
      have hxz : x.size ≤ 8 := by have h1 := (HR.out x (List.mem_of_getElem? hx)).2; omega
      have HMS := Lib.hid (meetL_succ (M := M) hx)
      have R1' := R1.out.below hb (Nat.le_refl _)
      clear hx
      go_wp2_with fail
      refine (spec_l1HasS HMn.out R1' (by omega)).mono ?_; rintro e w' ⟨rfl, rfl⟩
      rcases hin : inL M x
      · have e1 := Lib.hid (show meetL (L.take (k + 1)) M = meetL (L.take k) M by rw [HMS.out, hin]; simp)
        go_wp2
        go_roundw
        case rel => exact ⟨k + 1, m, A3, c3, by omega, by go_num, rfl, by omega, by rw [e1.out]; exact HO, hb⟩
        case measure => simp [intOf]; omega
      · have e1 := Lib.hid (show meetL (L.take (k + 1)) M = meetL (L.take k) M ++ [x] by rw [HMS.out, hin]; simp)
        go_wp2_with (first | (at_builtin; go_must ((refine wpList_append_recs Tryz.elStr strE_one rfl (.tmp 25) (.tmp 27) rfl rfl (HO.out.alloc _) rfl (own_lit1_at' strE_len _ 9 x rfl (Nat.le_refl _)).recs rfl ?_ (by decide) ?_ ?_; (focus (first | omega | (simp only [World.size_alloc]; done) | (simp only [World.size_alloc]; omega) | (simp; done) | (simp; omega))); (focus (first | omega | (simp only [World.size_alloc]; done) | (simp only [World.size_alloc]; omega) | (simp; done) | (simp; omega))); intro A4 c4 w6 ho6 hg6 hl6; have hb6 : Below w2.heap.size w2 w6 := (hb.alloc hszr _).trans (grown_base hg6 (by simp; omega) (fun z hz => (HO.out.range z hz).1))))))
        go_roundw
        case rel => exact ⟨k + 1, m + 1, A4, c4, by omega, by go_num, rfl, by omega, by rw [e1.out]; exact Lib.hid ho6, hb6⟩
        case measure => simp [intOf]; omega
    · obtain rfl : k = n := by omega
      have e1 := Lib.hid (show meetL (L.take k) M = meetL L M by rw [List.take_of_length_le (by rw [HLn.out]; omega)])
      go_wp2
      go_ret
      refine ⟨_, _, _, rfl, by rw [← e1.out]; exact HO.out.base_le B2.size, by omega, below_go B2 hb⟩
set_option maxHeartbeats 1000000 in
set_option maxRecDepth 100000 in
theorem spec_l11Asked {A : Option Addr} {n c st : Nat} {nm : ByteArray} {l : List ByteArray} {f : ByteArray} {w : World} (hn : l.length = n) (h : Strs w A l) (hz : n ≤ 1048576) (hs : ∀ s ∈ l, s.size ≤ 16777216) (hnm : nm.size ≤ 16777216) (h9 : st ≤ 1000) (hf : f.size ≤ 16777216) :
    Calls Tryz.prog 101 #[.agg #[.string nm, .int .i64 st, .slice A n c], .string f] w fun e w' => e = .returned (.bool (fhOk nm st l f)) ∧ Below w.heap.size w w' := by
  have b0 : Below w.heap.size w (w.alloc (.cells ⟨[.string nm, .int .i64 st, .slice A n c]⟩ 25)) := by (repeat' (first | (with_reducible exact Below.refl _ _) | (with_reducible assumption) | (with_reducible refine below_drewN ?_ _) | (with_reducible refine Below.drew ?_) | (with_reducible refine below_alloc ?_ _) | (with_reducible refine Below.alloc ?_ ?_ _) | (with_reducible refine Below.setCell ?_ ?_ _) | (with_reducible refine below_go ?_ (by with_reducible assumption)) | (with_reducible refine below_then (by with_reducible assumption) ?_ ?_) | go_size))
  have K0 := Blk.at_ w 25 [.string nm, .int .i64 st, .slice A n c] (b := w.heap.size) rfl
  have HQ : Hid (fhOk nm st l f = (goodM nm (st : Int) l && (goodRow f && (f.size == st)))) := Lib.hid rfl
  have hI : I64 (st : Int) := ⟨by omega, by omega⟩
  have H0 := h.up b0
  go_in
  go_wp2_with fail
  refine (spec_l4Good hn H0 hz hs hnm hI).mono ?_; rintro e w1 ⟨rfl, hb1⟩
  have K1 := K0.up hb1
  have B1 := below_go b0 hb1
  clear K0 H0 h b0 hb1
  rcases hg : goodM nm (st : Int) l
  · have e1 := Lib.hid (show fhOk nm st l f = false by rw [HQ.out, hg]; rfl)
    go_wp2
    go_ret
    rw [e1.out]
    exact ⟨rfl, B1⟩
  · go_wp2_with fail
    refine (spec_l1Row hf).mono ?_; rintro e w2 ⟨rfl, hb2⟩
    have K2 := K1.up hb2
    have B2 := below_go B1 hb2
    have k1 := K2.cell 1
    simp only [List.getElem?_cons_zero, List.getElem?_cons_succ] at k1
    clear K1 hb2
    rcases hr : goodRow f
    · have e1 := Lib.hid (show fhOk nm st l f = false by rw [HQ.out, hg, hr]; rfl)
      go_wp2
      go_ret
      rw [e1.out]
      exact ⟨rfl, B2⟩
    · have e1 := Lib.hid (show fhOk nm st l f = ((f.size : Int) == (st : Int)) by rw [HQ.out, hg, hr, Bool.true_and, Bool.true_and, Bool.eq_iff_iff, beq_iff_eq, beq_iff_eq]; omega)
      go_wp2
      go_ret
      rw [e1.out]
      exact ⟨rfl, B2⟩
set_option maxHeartbeats 1000000 in
theorem spec_IsFalseHead {A : Option Addr} {n c st : Nat} {nm : ByteArray} {l : List ByteArray} {f : ByteArray} {w : World} (hn : l.length = n) (h : Strs w A l) (hz : n ≤ 1048576) (hs : ∀ s ∈ l, s.size ≤ 16777216) (hnm : nm.size ≤ 16777216) (h9 : st ≤ 1000) (hf : f.size ≤ 16777216) :
    Calls Tryz.prog 23 #[.agg #[.string nm, .int .i64 st, .slice A n c], .string f] w fun e w' => e = .returned (.tuple #[.bool (fhV nm st l f), .bool (fhOk nm st l f)]) ∧ Below w.heap.size w w' := by
  have b0 : Below w.heap.size w (w.alloc (.cells ⟨[.string nm, .int .i64 st, .slice A n c]⟩ 25)) := by (repeat' (first | (with_reducible exact Below.refl _ _) | (with_reducible assumption) | (with_reducible refine below_drewN ?_ _) | (with_reducible refine Below.drew ?_) | (with_reducible refine below_alloc ?_ _) | (with_reducible refine Below.alloc ?_ ?_ _) | (with_reducible refine Below.setCell ?_ ?_ _) | (with_reducible refine below_go ?_ (by with_reducible assumption)) | (with_reducible refine below_then (by with_reducible assumption) ?_ ?_) | go_size))
  have K0 := Blk.at_ w 25 [.string nm, .int .i64 st, .slice A n c] (b := w.heap.size) rfl
  have H0 := h.up b0
  have HQ : Hid (fhV nm st l f = (fhOk nm st l f && inL (falL (leadL st l)) f)) := Lib.hid rfl
  go_in
  go_wp2_with fail
  refine (spec_l11Asked (nm := nm) (st := st) hn H0 hz hs hnm h9 hf).mono ?_; rintro e w1 ⟨rfl, hb1⟩
  have K1 := K0.up hb1
  have H1 := H0.up hb1
  have B1 := below_go b0 hb1
  clear K0 H0 h b0 hb1
  rcases hg : fhOk nm st l f
  · have e1 := Lib.hid (show fhV nm st l f = false by rw [HQ.out, hg]; rfl)
    go_wp2
    go_ret2
    rw [e1.out, hg]
    exact ⟨rfl, B1⟩
  · have k0 := K1.cell 0; have k1 := K1.cell 1; have k2 := K1.cell 2
    simp only [List.getElem?_cons_zero, List.getElem?_cons_succ] at k0 k1 k2
    have ht := fhOk_t hg
    have HV := Lib.hid (fhV_sh hg)
    have HSH := Lib.hid (show shV nm st l f = meetL (leadL st l) ((leadL st l).map (timesS f)) by rw [shV, if_pos hg])
    go_wp2_with fail
    refine (spec_l11Shared hn H1 hz hs hnm h9 ht.1 ht.2.1).mono ?_; rintro e w2 ⟨A2, m, c2, rfl, ho, hm, hb2⟩
    rw [← HSH.out] at ho
    have e1 := Lib.hid (show fhV nm st l f = decide (0 < m) by rw [HV.out, ho.len])
    go_wp2
    go_ret2
    rw [e1.out, hg]
    exact ⟨rfl, below_go B1 hb2⟩
set_option maxHeartbeats 1000000 in
theorem spec_SharedRows {A : Option Addr} {n c st : Nat} {nm : ByteArray} {l : List ByteArray} {f : ByteArray} {w : World} (hn : l.length = n) (h : Strs w A l) (hz : n ≤ 1048576) (hs : ∀ s ∈ l, s.size ≤ 16777216) (hnm : nm.size ≤ 16777216) (h9 : st ≤ 1000) (hf : f.size ≤ 16777216) :
    Calls Tryz.prog 25 #[.agg #[.string nm, .int .i64 st, .slice A n c], .string f] w fun e w' => ∃ A' m c', e = .returned (.tuple #[.slice A' m c', .bool (fhOk nm st l f)]) ∧ Owned strE 1 9 w' w.heap.size A' m c' (shV nm st l f) ∧ m ≤ 40 ∧ Below w.heap.size w w' := by
  have b0 : Below w.heap.size w (w.alloc (.cells ⟨[.string nm, .int .i64 st, .slice A n c]⟩ 25)) := by (repeat' (first | (with_reducible exact Below.refl _ _) | (with_reducible assumption) | (with_reducible refine below_drewN ?_ _) | (with_reducible refine Below.drew ?_) | (with_reducible refine below_alloc ?_ _) | (with_reducible refine Below.alloc ?_ ?_ _) | (with_reducible refine Below.setCell ?_ ?_ _) | (with_reducible refine below_go ?_ (by with_reducible assumption)) | (with_reducible refine below_then (by with_reducible assumption) ?_ ?_) | go_size))
  have K0 := Blk.at_ w 25 [.string nm, .int .i64 st, .slice A n c] (b := w.heap.size) rfl
  have H0 := h.up b0
  go_in
  go_wp2_with fail
  refine (spec_l11Asked (nm := nm) (st := st) hn H0 hz hs hnm h9 hf).mono ?_; rintro e w1 ⟨rfl, hb1⟩
  have K1 := K0.up hb1
  have H1 := H0.up hb1
  have B1 := below_go b0 hb1
  clear K0 H0 h b0 hb1
  rcases hg : fhOk nm st l f
  · have e1 := Lib.hid (show shV nm st l f = [] by rw [shV, if_neg (by rw [hg]; simp)])
    go_wp2
    go_ret2
    rw [e1.out, hg]
    exact ⟨none, 0, 0, rfl, Owned.nil strE_len _ _ _, by omega, B1⟩
  · have k0 := K1.cell 0; have k1 := K1.cell 1; have k2 := K1.cell 2
    simp only [List.getElem?_cons_zero, List.getElem?_cons_succ] at k0 k1 k2
    have ht := fhOk_t hg
    have HSH := Lib.hid (show shV nm st l f = meetL (leadL st l) ((leadL st l).map (timesS f)) by rw [shV, if_pos hg])
    go_wp2_with fail
    refine (spec_l11Shared hn H1 hz hs hnm h9 ht.1 ht.2.1).mono ?_; rintro e w2 ⟨A2, m, c2, rfl, ho, hm, hb2⟩
    go_wp2
    go_ret2
    rw [HSH.out, hg]
    exact ⟨_, _, _, rfl, ho.base_le B1.size, hm, below_go B1 hb2⟩
set_option maxHeartbeats 2000000 in
set_option maxRecDepth 100000 in
theorem spec_l11Heads {A : Option Addr} {n c st : Nat} {nm : ByteArray} {l : List ByteArray} {w : World} (hn : l.length = n) (h : Strs w A l) (hz : n ≤ 1048576) (hs : ∀ s ∈ l, s.size ≤ 16777216) (hnm : nm.size ≤ 16777216) (h9 : st ≤ 1000) (hg : goodM nm (st : Int) l = true) :
    Calls Tryz.prog 96 #[.agg #[.string nm, .int .i64 st, .slice A n c]] w fun e w' => ∃ A' m c', e = .returned (.slice A' m c') ∧ Owned strE 1 9 w' w.heap.size A' m c' (falS (leadL st l)) ∧ m ≤ 1600 ∧ Below w.heap.size w w' := by
  have b0 : Below w.heap.size w (w.alloc (.cells ⟨[.string nm, .int .i64 st, .slice A n c]⟩ 25)) := by (repeat' (first | (with_reducible exact Below.refl _ _) | (with_reducible assumption) | (with_reducible refine below_drewN ?_ _) | (with_reducible refine Below.drew ?_) | (with_reducible refine below_alloc ?_ _) | (with_reducible refine Below.alloc ?_ ?_ _) | (with_reducible refine Below.setCell ?_ ?_ _) | (with_reducible refine below_go ?_ (by with_reducible assumption)) | (with_reducible refine below_then (by with_reducible assumption) ?_ ?_) | go_size))
  have K0 := Blk.at_ w 25 [.string nm, .int .i64 st, .slice A n c] (b := w.heap.size) rfl
  have HS := Lib.hid hs
  have hgs := goodM_st hg
  have h38 := hgs.1
  have hr8 : (roundsS st).size ≤ 8 := by rw [rounds_size st (by omega)]; exact h38.2
  have HR := Lib.hid (leadL_row h38.1 h38.2 l)
  have HFR := Lib.hid (falL_row HR.out)
  have H0 := h.up b0
  obtain ⟨L, hL1⟩ : ∃ u, u = leadL st l := ⟨_, rfl⟩
  have hLn : L.length = n := by rw [hL1, leadL_len]; exact hn
  rw [← hL1] at HR HFR ⊢
  have HL1 := Lib.hid hL1
  have HLn := Lib.hid hLn
  have hn40 : n ≤ 40 := by omega
  have k0 := K0.cell 0; have k1 := K0.cell 1; have k2 := K0.cell 2
  simp only [List.getElem?_cons_zero, List.getElem?_cons_succ] at k0 k1 k2
  clear hL1 hLn hgs hg
  go_in
  go_upto_region 1 with fail
  obtain ⟨w0, hw0⟩ : ∃ u, u = (w.alloc (.cells #[.string nm, .int .i64 st, .slice A n c] 25)) := ⟨_, rfl⟩
  rw [← hw0] at b0 K0 H0 k0 k1 k2 ⊢
  clear hw0
  refine wp_region_still_tail 4 (by kernel_rfl) (by kernel_rfl) ?_
  simp only [List.take_succ_cons, List.take_zero, List.drop_succ_cons, List.drop_zero]
  repeat still_step
  still_call (turnC (spec_l1Rounds h38.2))
  repeat still_step
  refine wpStill_nil ?_
  change wpList _ _ _ _ _ w0.drew
  go_wp2_with fail
  refine (spec_l11Lead hr8 hn H0.drew hz HS.out).mono ?_; rintro e w2 ⟨A2, c2, rfl, ho2, hbd⟩
  have hb2 := below_of_drew hbd
  rw [← leadL_n hn, ← HL1.out] at ho2
  have B2 := below_go b0 hb2
  have R2 := Lib.hid ho2.recs
  clear K0 H0 ho2 hbd hb2 k0 k1 k2 h b0
  go_wp2
  go_loopw [4, 19] (fun v i wr => ∃ (k m : Nat) (A' : Option Addr) (c' : Nat), k ≤ n ∧ i = .int .i64 k ∧ v = .slice A' m c' ∧ Hid (m = k * n) ∧ Hid (Owned strE 1 9 wr w2.heap.size A' m c' (falTo L k)) ∧ Below w2.heap.size w2 wr) (fun _ i _ => n - (intOf i).toNat)
  case atStart => exact ⟨0, 0, none, 0, Nat.zero_le _, rfl, rfl, Lib.hid (Nat.zero_mul _).symm, Lib.hid (by rw [falTo_zero]; exact Owned.nil strE_len _ _ _), Below.refl _ _⟩
  case round =>
    obtain ⟨k, m, A3, c3, hk, rfl, rfl, HM, HO, hb⟩ := hrel
    rename World => wo
    have hszo := hb.size
    by_cases hlt : k < n
    · obtain ⟨b1, o1, x, rfl, _, hx, hcx⟩ := (R2.out.below hb (Nat.le_refl _)).at_str (k := k) (by rw [HLn.out]; exact hlt)
      have hxN := Lib.hid (HR.out x (List.mem_of_getElem? hx))
      have HTS := Lib.hid (falTo_succ hx)
      have hI : (k : Int) < (n : Int) := by omega
      clear hx
      go_wp2
      go_loopw [4, 25] (fun v i wr => ∃ (j q : Nat) (A' : Option Addr) (c' : Nat), j ≤ n ∧ i = .int .i64 j ∧ v = .slice A' q c' ∧ Hid (q = k * n + j) ∧ Hid (Owned strE 1 9 wr w2.heap.size A' q c' (falTo L k ++ prodL x L j)) ∧ Below w2.heap.size w2 wr) (fun _ i _ => n - (intOf i).toNat)
      case atStart => exact ⟨0, m, A3, c3, Nat.zero_le _, rfl, rfl, HM, Lib.hid (by rw [prodL_zero, List.append_nil]; exact HO.out), hb⟩
      case round =>
        obtain ⟨j, q, A4, c4, hj, rfl, rfl, HMQ, HOQ, hbq⟩ := hrel
        rename World => wq
        have hszq := hbq.size
        by_cases hjt : j < n
        · obtain ⟨b2, o2, y, hA2, _, hy, hcy⟩ := (R2.out.below hbq (Nat.le_refl _)).at_str (k := j) (by rw [HLn.out]; exact hjt)
          injection hA2 with hA2
          injection hA2 with e1 e2 _
          subst e1 e2
          have hyN := HR.out y (List.mem_of_getElem? hy)
          have HPS := Lib.hid (prodL_succ (r := x) hy)
          have hqb : q ≤ 1640 := by
            have h1 := HMQ.out
            have h2 : k * n ≤ 40 * 40 := Nat.mul_le_mul (by omega) hn40
            omega
          have hty := turn_rowN hyN
          have hft := rowN_fits hxN.out hty
          have hxs : x.size ≤ 16777216 := by have := hxN.out.2; omega
          have hts : (turnS y).size ≤ 16777216 := by have := hty.2; omega
          have HYG := Lib.hid hyN.1
          clear hy hyN hty
          go_wp2_with fail
          refine (spec_l1Turn HYG.out).mono ?_; rintro e w5 ⟨rfl, hb5, _⟩
          have hbq5 := below_go hbq hb5
          have HO5 := Lib.hid (HOQ.out.up hb5)
          have hsz5 := hbq5.size
          go_wp2_with fail
          refine (spec_l1Times hxs hts hft).mono ?_; rintro e w' ⟨rfl, rfl⟩
          obtain ⟨z, hz⟩ : ∃ u, u = timesS x (turnS y) := ⟨_, rfl⟩
          rw [← hz] at HPS ⊢
          clear hz
          go_wp2_with (first | (at_builtin; go_must ((refine wpList_append_recs Tryz.elStr strE_one rfl (.tmp 29) (.tmp 34) rfl rfl (HO5.out.alloc _) rfl (own_lit1_at' strE_len _ 9 z rfl (Nat.le_refl _)).recs rfl ?_ (by decide) ?_ ?_; (focus (first | omega | (simp only [World.size_alloc]; done) | (simp only [World.size_alloc]; omega) | (simp; done) | (simp; omega))); (focus (first | omega | (simp only [World.size_alloc]; done) | (simp only [World.size_alloc]; omega) | (simp; done) | (simp; omega))); intro A6 c6 w6 ho6 hg6 hl6; have hb6 : Below w2.heap.size w2 w6 := (hbq5.alloc hsz5 _).trans (grown_base hg6 (by simp; omega) (fun z hz => (HO5.out.range z hz).1))))))
          go_roundw
          case rel => exact ⟨j + 1, q + 1, A6, c6, by omega, by go_num, rfl, Lib.hid (by have := HMQ.out; omega), Lib.hid (by rw [HPS.out, ← List.append_assoc]; exact ho6), hb6⟩
          case measure => simp [intOf]; omega
        · obtain rfl : j = n := by omega
          have hJ : ¬ (j : Int) < (j : Int) := by omega
          go_wp2
          go_roundw
          case rel => exact ⟨k + 1, q, A4, c4, by omega, by go_num, rfl, Lib.hid (by have := HMQ.out; rw [Nat.succ_mul]; exact this), Lib.hid (by have h1 := HOQ.out; rw [HTS.out, HLn.out]; exact h1), hbq⟩
          case measure => simp [intOf]; omega
    · obtain rfl : k = n := by omega
      have hI : ¬ (k : Int) < (k : Int) := by omega
      have HALL := Lib.hid (show falTo L k = falL L by rw [← HLn.out, falTo_all])
      have HO2 : Hid (Owned strE 1 9 wo w2.heap.size A3 m c3 (falL L)) := Lib.hid (by rw [← HALL.out]; exact HO.out)
      have hmb : m ≤ 1600 := by
        have h1 := HM.out
        have h2 : k * k ≤ 40 * 40 := Nat.mul_le_mul hn40 hn40
        omega
      have HML := Lib.hid HO2.out.len
      clear HO HALL HM
      go_wp2_with fail
      refine (spec_l6Sort m A3 c3 (falL L) wo HML.out HO2.out.recs (by omega) (fun s hs => by have h1 := (HFR.out s hs).2; omega)).mono ?_; rintro e w7 ⟨A7, c7, T, rfl, ho7, hp7, hs7, hb7⟩
      have HTS : Hid (falS L = uniqF T) := Lib.hid (by rw [falS, srt_unique (List.pairwise_mergeSort leS_trans leS_total _) hs7 ((List.mergeSort_perm _ leS).trans hp7.symm)])
      have B7 := below_go (below_go B2 hb) hb7
      have R7 := Lib.hid ho7.recs
      have HTL := Lib.hid ho7.len
      have HTZ : Hid (∀ s ∈ T, s.size ≤ 8) := Lib.hid (fun s hs => by have h1 := (HFR.out s (hp7.mem_iff.1 hs)).2; omega)
      have HUL := Lib.hid (uniqF_len T)
      clear ho7 hp7 hs7 hb7 HO2 HML HFR
      go_wp2
      go_loopw [9, 41] (fun v i wr => ∃ (j q : Nat) (A' : Option Addr) (c' : Nat), j ≤ m ∧ i = .int .i64 j ∧ v = .slice A' q c' ∧ q ≤ j ∧ Hid (Owned strE 1 9 wr w7.heap.size A' q c' (uniqF (T.take j))) ∧ Below w7.heap.size w7 wr) (fun _ i _ => m - (intOf i).toNat)
      case atStart => exact ⟨0, 0, none, 0, Nat.zero_le _, rfl, rfl, Nat.le_refl _, Lib.hid (Owned.nil strE_len _ _ _), Below.refl _ _⟩
      case round =>
        obtain ⟨j, q, A8, c8, hj, rfl, rfl, hqj, HO, hb8⟩ := hrel
        rename World => wr
        have hszr := hb8.size
        have HOL := Lib.hid HO.out.len
        by_cases hjt : j < m
        · have hJ : (j : Int) < (m : Int) := by omega
          obtain ⟨b2, o2, y, rfl, _, hy, hcy⟩ := (R7.out.below hb8 (Nat.le_refl _)).at_str (k := j) (by rw [HTL.out]; exact hjt)
          have HUS := Lib.hid (uniqF_step hy)
          have hyz : y.size ≤ 8 := HTZ.out y (List.mem_of_getElem? hy)
          clear hy
          by_cases hq0 : q = 0
          · subst hq0
            have e1 := Lib.hid (show uniqF (T.take (j + 1)) = uniqF (T.take j) ++ [y] by
              have h1 := List.eq_nil_of_length_eq_zero HOL.out
              rw [HUS.out, uniqStep, h1]; simp)
            go_wp2_with (first | (at_builtin; go_must ((refine wpList_append_recs Tryz.elStr strE_one rfl (.tmp 58) (.tmp 60) rfl rfl (HO.out.alloc _) rfl (own_lit1_at' strE_len _ 9 y rfl (Nat.le_refl _)).recs rfl ?_ (by decide) ?_ ?_; (focus (first | omega | (simp only [World.size_alloc]; done) | (simp only [World.size_alloc]; omega) | (simp; done) | (simp; omega))); (focus (first | omega | (simp only [World.size_alloc]; done) | (simp only [World.size_alloc]; omega) | (simp; done) | (simp; omega))); intro A6 c6 w6 ho6 hg6 hl6; have hb6 : Below w7.heap.size w7 w6 := (hb8.alloc hszr _).trans (grown_base hg6 (by simp; omega) (fun z hz => (HO.out.range z hz).1))))))
            go_roundw
            case rel => exact ⟨j + 1, 0 + 1, A6, c6, by omega, by go_num, rfl, by omega, Lib.hid (by rw [e1.out]; exact ho6), hb6⟩
            case measure => simp [intOf]; omega
          · obtain ⟨g, rfl, g0, g1, gc, _⟩ := HO.out.at_ (by omega)
            obtain ⟨v, hv⟩ := some_of_lt (l := uniqF (T.take j)) (k := q - 1) (by rw [HOL.out]; omega)
            have cv := gc (q - 1) v 0 _ hv rfl
            simp only [Nat.mul_one, Nat.add_zero] at cv
            have hlast : (uniqF (T.take j)).getLast? = some v := by
              rw [List.getLast?_eq_getElem?, HOL.out]; exact hv
            have HLAST := Lib.hid hlast
            have hJq : ((q : Int) == 0) = false := by simp; omega
            have hJ2 : IntKind.i64.wrap ((q : Int) - 1) = ((q - 1 : Nat) : Int) := by rw [wrap_id (by omega)]; omega
            have hJ3 : (q : Int) - 1 = ((q - 1 : Nat) : Int) := by omega
            have hJ4 : ((q - 1 : Nat) : Int) < (q : Int) := by omega
            clear gc hv hlast
            by_cases hvy : v = y
            · have e1 := Lib.hid (show uniqF (T.take (j + 1)) = uniqF (T.take j) by rw [HUS.out, uniqStep, if_pos (by rw [HLAST.out, hvy])])
              have hbe : (v.toList == y.toList) = true := by rw [hvy]; simp
              clear hvy
              go_wp2
              go_roundw
              case rel => exact ⟨j + 1, q, some ⟨g, 0, none⟩, c8, by omega, by go_num, rfl, by omega, Lib.hid (by rw [e1.out]; exact HO.out), hb8⟩
              case measure => simp [intOf]; omega
            · have e1 := Lib.hid (show uniqF (T.take (j + 1)) = uniqF (T.take j) ++ [y] by rw [HUS.out, uniqStep, if_neg (by rw [HLAST.out]; intro e; injection e with e; exact hvy e)])
              have hbe := bytes_ne hvy
              clear hvy
              go_wp2_with (first | (at_builtin; go_must ((refine wpList_append_recs Tryz.elStr strE_one rfl (.tmp 58) (.tmp 60) rfl rfl (HO.out.alloc _) rfl (own_lit1_at' strE_len _ 9 y rfl (Nat.le_refl _)).recs rfl ?_ (by decide) ?_ ?_; (focus (first | omega | (simp only [World.size_alloc]; done) | (simp only [World.size_alloc]; omega) | (simp; done) | (simp; omega))); (focus (first | omega | (simp only [World.size_alloc]; done) | (simp only [World.size_alloc]; omega) | (simp; done) | (simp; omega))); intro A6 c6 w6 ho6 hg6 hl6; have hb6 : Below w7.heap.size w7 w6 := (hb8.alloc hszr _).trans (grown_base hg6 (by simp; omega) (fun z hz => (HO.out.range z hz).1))))))
              go_roundw
              case rel => exact ⟨j + 1, q + 1, A6, c6, by omega, by go_num, rfl, by omega, Lib.hid (by rw [e1.out]; exact ho6), hb6⟩
              case measure => simp [intOf]; omega
        · obtain rfl : j = m := by omega
          have hJ : ¬ (j : Int) < (j : Int) := by omega
          have e1 := Lib.hid (show uniqF (T.take j) = falS L by rw [HTS.out, List.take_of_length_le (by rw [HTL.out]; omega)])
          go_wp2
          go_ret
          exact ⟨_, _, _, rfl, by rw [← e1.out]; exact HO.out.base_le B7.size, by omega, below_go B7 hb8⟩
set_option maxHeartbeats 1000000 in
theorem spec_FalseHeads {A : Option Addr} {n c st : Nat} {nm : ByteArray} {l : List ByteArray} {w : World} (hn : l.length = n) (h : Strs w A l) (hz : n ≤ 1048576) (hs : ∀ s ∈ l, s.size ≤ 16777216) (hnm : nm.size ≤ 16777216) (h9 : st ≤ 1000) :
    Calls Tryz.prog 27 #[.agg #[.string nm, .int .i64 st, .slice A n c]] w fun e w' => ∃ A' m c', e = .returned (.tuple #[.slice A' m c', .bool (fhsOk nm st l)]) ∧ Owned strE 1 9 w' w.heap.size A' m c' (fhsV nm st l) ∧ m ≤ 800 ∧ Below w.heap.size w w' := by
  have b0 : Below w.heap.size w (w.alloc (.cells ⟨[.string nm, .int .i64 st, .slice A n c]⟩ 25)) := by (repeat' (first | (with_reducible exact Below.refl _ _) | (with_reducible assumption) | (with_reducible refine below_drewN ?_ _) | (with_reducible refine Below.drew ?_) | (with_reducible refine below_alloc ?_ _) | (with_reducible refine Below.alloc ?_ ?_ _) | (with_reducible refine Below.setCell ?_ ?_ _) | (with_reducible refine below_go ?_ (by with_reducible assumption)) | (with_reducible refine below_then (by with_reducible assumption) ?_ ?_) | go_size))
  have K0 := Blk.at_ w 25 [.string nm, .int .i64 st, .slice A n c] (b := w.heap.size) rfl
  have H0 := h.up b0
  have hI : I64 (st : Int) := ⟨by omega, by omega⟩
  have HQ : Hid (fhsOk nm st l = (goodM nm (st : Int) l && decide ((falS (leadL st l)).length ≤ 800))) := Lib.hid rfl
  have HF : Hid (fhsOk nm st l = false → fhsV nm st l = []) := Lib.hid (fun e => by rw [fhsV, if_neg (by rw [e]; simp)])
  have HT : Hid (fhsOk nm st l = true → fhsV nm st l = falS (leadL st l)) := Lib.hid (fun e => by rw [fhsV, if_pos e])
  go_in
  go_wp2_with fail
  refine (spec_l4Good hn H0 hz hs hnm hI).mono ?_; rintro e w1 ⟨rfl, hb1⟩
  have K1 := K0.up hb1
  have H1 := H0.up hb1
  have B1 := below_go b0 hb1
  clear K0 H0 h b0 hb1
  rcases hg : goodM nm (st : Int) l
  · have e1 := Lib.hid (show fhsOk nm st l = false by rw [HQ.out, hg]; rfl)
    go_wp2
    go_ret2
    rw [HF.out e1.out, e1.out]
    exact ⟨none, 0, 0, rfl, Owned.nil strE_len _ _ _, by omega, B1⟩
  · have k0 := K1.cell 0; have k1 := K1.cell 1; have k2 := K1.cell 2
    simp only [List.getElem?_cons_zero, List.getElem?_cons_succ] at k0 k1 k2
    go_wp2_with fail
    refine (spec_l11Heads hn H1 hz hs hnm h9 hg).mono ?_; rintro e w2 ⟨A2, m, c2, rfl, ho, hm, hb2⟩
    have e0 := Lib.hid ho.len
    by_cases hm8 : m ≤ 800
    · have e1 := Lib.hid (show fhsOk nm st l = true by rw [HQ.out, hg, e0.out, decide_eq_true hm8]; rfl)
      have hI8 : ¬ (800 : Int) < (m : Int) := by omega
      go_wp2
      go_ret2
      rw [HT.out e1.out, e1.out]
      exact ⟨_, _, _, rfl, ho.base_le B1.size, hm8, below_go B1 hb2⟩
    · have e1 := Lib.hid (show fhsOk nm st l = false by rw [HQ.out, hg, e0.out, decide_eq_false hm8]; rfl)
      have hI8 : (800 : Int) < (m : Int) := by omega
      go_wp2
      go_ret2
      rw [HF.out e1.out, e1.out]
      exact ⟨none, 0, 0, rfl, Owned.nil strE_len _ _ _, by omega, below_go B1 hb2⟩
end Go.Proofs.YtidolgonmimicaaGreat
/- The least rows of the parts' sets, and truth by parts: the reference's side. -/
namespace Go.Proofs.YtidolgonmimicaaGreat
set_option linter.unusedVariables false
set_option linter.unusedSimpArgs false
open Go.ChangeShapes Go.WideShapes Go.ChangeAt Go.RowKit Go.Deep
set_option maxHeartbeats 2000000 in
set_option maxRecDepth 100000 in
theorem spec_l12Set {a x : ByteArray} {n : Nat} {w : World} (ha : RowN n a) (hx : RowN n x) :
    Calls Tryz.prog 204 #[.string a, .string x] w fun e w' => ∃ (m : Nat) (A' : Option Addr) (c' : Nat) (L : List ByteArray), e = .returned (.slice A' m c') ∧ IsOrd n a m ∧ m ≤ 40320 ∧ Owned strE 1 9 w' w.heap.size A' m c' L ∧ L.Perm (cosL n a m x) ∧ Srt L ∧ Below w.heap.size w w' := by
  have h38 := ha.st
  have HA := Lib.hid ha
  have HX := Lib.hid hx
  have haz : a.size = n := ha.2
  have hxz : x.size ≤ 16777216 := by rw [hx.2]; omega
  have HOE := Lib.hid (Owned.nil strE_len 9 w w.heap.size)
  go_in
  go_wp2_with fail
  refine (spec_l1Rounds (n := n) (by omega)).mono ?_; rintro e w1 ⟨rfl, rfl⟩
  go_wp2_with fail
  refine (spec_l1OrderO HA.out).mono ?_; rintro e w1 ⟨M, rfl, ho, hM, rfl⟩
  have HM := Lib.hid ho
  have HC : Hid (cosL n a M x = (pwL n a M).map fun p => timesS p x) := Lib.hid rfl
  have HPW := Lib.hid (fun j => pw_row HA.out j)
  have HPS := Lib.hid (fun j => show pwS n a (j + 1) = timesS (pwS n a j) a from rfl)
  have HP0 := Lib.hid (show roundsS n = pwS n a 0 from rfl)
  have HPL := Lib.hid (fun j => show (pwL n a (j + 1)).map (fun p => timesS p x) = (pwL n a j).map (fun p => timesS p x) ++ [timesS (pwS n a j) x] by rw [pwL_succ, List.map_append]; rfl)
  have HZ := Lib.hid haz
  clear ho haz
  go_wp2
  go_loopw [5, 6, 7] (fun v p i wr => ∃ (k : Nat) (A' : Option Addr) (c' : Nat), k ≤ M ∧ v = .slice A' k c' ∧ p = .string (pwS n a k) ∧ i = .int .i64 ((M - k : Nat) : Int) ∧ Hid (Owned strE 1 9 wr w.heap.size A' k c' ((pwL n a k).map fun p => timesS p x)) ∧ Hid (Below w.heap.size w wr)) (fun _ _ i _ => (intOf i).toNat)
  case atStart => exact ⟨0, _, _, Nat.zero_le _, rfl, by rw [HP0.out], rfl, HOE, Lib.hid (Below.refl _ _)⟩
  case round =>
    obtain ⟨k, A4, c4, hk, rfl, rfl, rfl, HO, HB⟩ := hrel
    rename World => wr
    have hsz := HB.out.size
    by_cases hlt : k < M
    · have hI : (0 : Int) < ((M - k : Nat) : Int) := by omega
      have hwr : IntKind.i64.wrap (((M - k : Nat) : Int) - 1) = ((M - (k + 1) : Nat) : Int) := by rw [wrap_id (by omega)]; omega
      have hpr := HPW.out k
      have hpz : (pwS n a k).size ≤ 16777216 := by rw [hpr.2]; omega
      have haz : a.size ≤ 16777216 := by rw [HA.out.2]; omega
      have hft := rowN_fits hpr HX.out
      have hft2 := rowN_fits hpr HA.out
      have HT := Lib.hid (HPL.out k)
      have HS := Lib.hid (HPS.out k)
      clear hpr
      go_wp2_with fail
      refine (spec_l1Times hpz hxz hft).mono ?_; rintro e w5 ⟨rfl, rfl⟩
      obtain ⟨y, hy⟩ : ∃ u, u = timesS (pwS n a k) x := ⟨_, rfl⟩
      rw [← hy] at HT ⊢
      clear hy
      go_wp2_with (first | (at_builtin; go_must ((refine wpList_append_recs Tryz.elStr strE_one rfl (.tmp 17) (.tmp 21) rfl rfl (HO.out.alloc _) rfl (own_lit1_at' strE_len _ 9 y rfl (Nat.le_refl _)).recs rfl ?_ (by decide) ?_ ?_; (focus (first | omega | (simp only [World.size_alloc]; done) | (simp only [World.size_alloc]; omega) | (simp; done) | (simp; omega))); (focus (first | omega | (simp only [World.size_alloc]; done) | (simp only [World.size_alloc]; omega) | (simp; done) | (simp; omega))); intro A6 c6 w6 ho6 hg6 hl6))) | (go_at_call 118; refine (spec_l1Times hpz haz hft2).mono ?_; rintro e w7 ⟨rfl, rfl⟩))
      have hb6 : Below w.heap.size w w6 := (HB.out.alloc hsz _).trans (grown_base hg6 (by simp; omega) (fun z hz => (HO.out.range z hz).1))
      go_roundw
      case rel => exact ⟨k + 1, A6, c6, by omega, rfl, by rw [HS.out], by go_num, Lib.hid (by rw [HT.out]; exact ho6), Lib.hid hb6⟩
      case measure => simp [intOf]; omega
    · obtain rfl : k = M := by omega
      have hI : ¬ (0 : Int) < ((k - k : Nat) : Int) := by omega
      have HLZ := Lib.hid (show ∀ s ∈ (pwL n a k).map (fun p => timesS p x), s.size ≤ 16777216 from fun s hs => by
        have := cosL_row (m := k) HA.out HX.out s (by rw [HC.out]; exact hs)
        rw [this.2]; omega)
      have HOO := Lib.hid HO.out.len
      go_wp2_with fail
      refine (spec_l6Sort k _ _ _ _ HOO.out HO.out.recs (by omega) HLZ.out).mono ?_; rintro e w7 ⟨A7, c7, L7, rfl, ho7, hp7, hs7, hb7⟩
      have HP7 := Lib.hid (show L7.Perm (cosL n a k x) by rw [HC.out]; exact hp7)
      go_wp2
      go_ret
      exact ⟨_, _, _, L7, rfl, HM.out, hM, ho7.base_le hsz, HP7.out, hs7, below_go HB.out hb7⟩
set_option maxHeartbeats 2000000 in
set_option maxRecDepth 100000 in
theorem spec_l12Rows {A : Option Addr} {n c st : Nat} {nm : ByteArray} {l : List ByteArray} {kb ks : ByteArray} {t : ByteArray} {M : Nat} {w : World} (hn : l.length = n) (h : Strs w A l) (hk : goodK nm (st : Int) l kb ks = true) (hg : goodT t = true) (hcap : n ≤ c) (hM : IsOrd st (hdAt st l kb ks t t.size) M) :
    Calls Tryz.prog 135 #[.agg #[.string nm, .int .i64 st, .slice A n c], .agg #[.string kb, .string ks], .string t] w fun e w' => ∃ (A' : Option Addr) (m c' : Nat), e = .returned (.slice A' m c') ∧ m = t.size * n ∧ Owned strE 1 9 w' w.heap.size A' m c' ((tRows st l kb ks t t.size).map (leastS st (hdAt st l kb ks t t.size) M)) ∧ Below w.heap.size w w' := by
  have b0 : Below w.heap.size w ((w.alloc (.cells ⟨[.string nm, .int .i64 st, .slice A n c]⟩ 25)).alloc (.cells ⟨[.string kb, .string ks]⟩ 27)) := by (repeat' (first | (with_reducible exact Below.refl _ _) | (with_reducible assumption) | (with_reducible refine below_drewN ?_ _) | (with_reducible refine Below.drew ?_) | (with_reducible refine below_alloc ?_ _) | (with_reducible refine Below.alloc ?_ ?_ _) | (with_reducible refine Below.setCell ?_ ?_ _) | (with_reducible refine below_go ?_ (by with_reducible assumption)) | (with_reducible refine below_then (by with_reducible assumption) ?_ ?_) | go_size))
  have K0 := (Blk.at_ w 25 [.string nm, .int .i64 st, .slice A n c] (b := w.heap.size) rfl).alloc (.cells ⟨[.string kb, .string ks]⟩ 27)
  have J0 := Blk.at_ (w.alloc (.cells ⟨[.string nm, .int .i64 st, .slice A n c]⟩ 25)) 27 [.string kb, .string ks] (b := w.heap.size + 1) (by simp)
  obtain ⟨h38, h40, _⟩ := goodK_all hk
  have hts := (goodT_t hg).2.1
  have HA : Hid (RowN st (hdAt st l kb ks t t.size)) := Lib.hid (hdAt_good h38.1 h38.2 l kb ks t t.size)
  have HR := Lib.hid (tRows_row (l := l) (b := kb) (s := ks) (u := t) h38.1 h38.2 t.size)
  have HM := Lib.hid hM
  have hmz : t.size * n ≤ 2400 := Nat.le_trans (Nat.mul_le_mul hts (show n ≤ 40 by omega)) (by decide)
  clear hM
  go_in
  go_wp2_with fail
  refine (spec_l9EndP (t := t) hn (h.up b0) hk hg hcap).mono ?_; rintro e w1 ⟨rfl, hb1⟩
  have K1 := K0.up hb1
  have J1 := J0.up hb1
  have H1 := (h.up b0).up hb1
  have B1 := below_go b0 hb1
  have k0 := K1.cell 0; have k1 := K1.cell 1; have k2 := K1.cell 2; have j0 := J1.cell 0; have j1 := J1.cell 1
  simp only [List.getElem?_cons_zero, List.getElem?_cons_succ] at k0 k1 k2 j0 j1
  clear K0 J0 h b0 hb1
  go_wp2_with fail
  refine (spec_l9Rows (t := t) hn H1 hk hg hcap).mono ?_; rintro e w2 ⟨A2, N, c2, rfl, hN, ho2, hb2⟩
  have B2 := below_go B1 hb2
  have HI := Lib.hid ho2.recs
  have HNL := Lib.hid ho2.len
  have HO2R := Lib.hid ho2
  have HNE := Lib.hid hN
  have hz : N ≤ 2400 := by omega
  obtain ⟨a, ha⟩ : ∃ u, u = hdAt st l kb ks t t.size := ⟨_, rfl⟩
  obtain ⟨R, hR⟩ : ∃ u, u = tRows st l kb ks t t.size := ⟨_, rfl⟩
  have HAE := Lib.hid ha
  have HRE := Lib.hid hR
  rw [← ha] at HA HM ⊢
  rw [← hR] at HR HI HNL HO2R
  have HOE := Lib.hid (Owned.nil strE_len 9 w2 w.heap.size)
  have HB2 := Lib.hid B2
  clear ha hR ho2 hN K1 J1 H1 k0 k1 k2 j0 j1 B1 hb2
  go_wp2
  go_loopw [8, 20] (fun v i wr => ∃ (k : Nat) (A' : Option Addr) (c' : Nat), k ≤ N ∧ v = .slice A' k c' ∧ i = .int .i64 k ∧ Hid (Owned strE 1 9 wr w.heap.size A' k c' ((R.take k).map (leastS st a M))) ∧ Hid (Below w.heap.size w wr) ∧ Hid (Strs wr A2 R) ∧ Hid (∀ z, (Value.slice A' k c').ownBlock = some z → w2.heap.size ≤ z) ∧ w2.heap.size ≤ wr.heap.size) (fun _ i _ => N - (intOf i).toNat)
  case atStart => exact ⟨0, _, _, Nat.zero_le _, rfl, rfl, HOE, HB2, HI, Lib.hid (fun z hz => by simp [Value.ownBlock] at hz), Nat.le_refl _⟩
  case round =>
    obtain ⟨k, A4, c4, hk4, rfl, rfl, HO, HB, HR4, HK, hwz⟩ := hrel
    rename World => wr
    have hsz := HB.out.size
    by_cases hlt : k < N
    · have hI : (k : Int) < (N : Int) := by omega
      obtain ⟨b1, o1, x, hA, _, hx, hcx⟩ := HR4.out.at_str (k := k) (by rw [HNL.out]; exact hlt)
      have hb1z : b1 < w2.heap.size := by
        obtain ⟨g, hg, _, g1, _⟩ := HO2R.out.at_ (by omega)
        rw [hA] at hg
        injection hg with hg
        injection hg with hg
        rw [hg]; exact g1
      subst hA
      have HX := Lib.hid (HR.out x (List.mem_of_getElem? hx))
      have HT := Lib.hid (show (R.take (k + 1)).map (leastS st a M) = (R.take k).map (leastS st a M) ++ [leastS st a M x] from by rw [take_succ_some hx, List.map_append]; rfl)
      clear hx
      go_wp2_with fail
      refine (spec_l12Set HA.out HX.out).mono ?_; rintro e w5 ⟨m, A5, c5, L, rfl, hO, hm, ho5, hp, hs, hb5⟩
      obtain rfl : m = M := hO.uniq HM.out
      have hh := least_head hp hs hO.1
      have hpos : 0 < m := hO.1
      obtain ⟨g, rfl, _, _, gc, _⟩ := ho5.at_ hpos
      have cg := gc 0 _ 0 _ hh rfl
      simp only [Nat.mul_one, Nat.add_zero, Nat.zero_mul] at cg
      have HO5 := Lib.hid (HO.out.up hb5)
      have HB5 := Lib.hid (below_go HB.out hb5)
      have HR5 := Lib.hid (HR4.out.up hb5)
      have hwz5 : w2.heap.size ≤ w5.heap.size := by have := hb5.size; omega
      have hs5 := HB5.out.size
      have hmI : (0 : Int) < (m : Int) := by omega
      obtain ⟨y, hy⟩ : ∃ u, u = leastS st a m x := ⟨_, rfl⟩
      rw [← hy] at HT cg
      clear hy hb5 gc hh ho5 hO hp hs
      go_wp2_with (first | (at_builtin; go_must ((refine wpList_append_recs Tryz.elStr strE_one rfl (.tmp 24) (.tmp 30) rfl rfl (HO5.out.alloc _) rfl (own_lit1_at' strE_len _ 9 y rfl (Nat.le_refl _)).recs rfl ?_ (by decide) ?_ ?_; (focus (first | omega | (simp only [World.size_alloc]; done) | (simp only [World.size_alloc]; omega) | (simp; done) | (simp; omega))); (focus (first | omega | (simp only [World.size_alloc]; done) | (simp only [World.size_alloc]; omega) | (simp; done) | (simp; omega))); intro A6 c6 w6 ho6 hg6 hl6))))
      have hb6 : Below w.heap.size w w6 := (HB5.out.alloc hs5 _).trans (grown_base hg6 (by simp; omega) (fun z hz => (HO5.out.range z hz).1))
      have HR6 := Lib.hid (recs_grown12 (HR5.out.alloc (.cells ⟨strE y⟩ 9)) hg6 (fun e => by have := HK.out _ e.symm; omega))
      have hs6' := hg6.size
      simp at hs6'
      go_roundw
      case rel => exact ⟨k + 1, A6, c6, by omega, rfl, by go_num, Lib.hid (by rw [HT.out]; exact ho6), Lib.hid hb6, HR6, Lib.hid (fun z hz => by
        rcases hl6 z hz with q | q
        · exact HK.out z q
        · simp at q; omega), by omega⟩
      case measure => simp [intOf]; omega
    · obtain rfl : k = N := by omega
      have hI : ¬ (k : Int) < (k : Int) := by omega
      have hc : (R.take k).map (leastS st a M) = R.map (leastS st a M) := by rw [List.take_of_length_le (by rw [HNL.out]; omega)]
      have HO2 := HO.out
      rw [hc, HRE.out, HAE.out] at HO2
      have HO3 := Lib.hid HO2
      clear HO2 hc
      go_wp2
      go_ret
      exact ⟨_, _, _, rfl, HNE.out, HO3.out, HB.out⟩
end Go.Proofs.YtidolgonmimicaaGreat
/- A map that the call has made, exactly: a plain partial function of the key, and how many entries it has. -/
namespace Go.Proofs.YtidolgonmimicaaGreat
set_option linter.unusedVariables false
set_option linter.unusedSimpArgs false
open Go.ChangeShapes Go.WideShapes Go.ChangeAt Go.RowKit Go.Deep
open Go.Maps (Keyed)

/-- Block b is a map of m entries: f, key by key. -/
def MapX {α : Type} (en : α → Value) (li : α → Lit) (P : Program) (w : World) (k e : TypeId) (b m : Nat) (f : Value → Option α) : Prop :=
  ∃ D : DataW Unit, w.ownsMap P k (plainElem P e) b m D ∧ Maps.size D = m ∧ ∀ key kl, keyOf P k key = some kl → (f key = none → Maps.has D kl = false ∧ ∀ z, D.atKey kl z = z) ∧ ∀ x, f key = some x → Maps.has D kl = true ∧ ∀ z, D.atKey kl z = .lit (li x)
section
variable {α : Type} {en : α → Value} {li : α → Lit} {P : Program} {w w' : World} {k e : TypeId} {b m : Nat} {f : Value → Option α}
theorem MapX.made (en : α → Value) (li : α → Lit) (P : Program) (w : World) (k e : TypeId) : MapX en li P (w.alloc (.map #[] 0)) k e w.heap.size 0 (fun _ => none) :=
  ⟨.map [], World.ownsMap_made w P k _, rfl, fun key kl _ => ⟨fun _ => ⟨rfl, fun _ => rfl⟩, fun x hx => by cases hx⟩⟩
theorem MapX.made_at (en : α → Value) (li : α → Lit) (P : Program) (w : World) (k e : TypeId) {b : Nat} (h : b = w.heap.size) : MapX en li P (w.alloc (.map #[] 0)) k e b 0 (fun _ => none) := by
  subst h
  exact MapX.made en li P w k e
theorem MapX.lt (h : MapX en li P w k e b m f) : b < w.heap.size := by
  obtain ⟨D, h1, _⟩ := h
  exact h1.lt
theorem MapX.kept {row : Option Nat} (h : MapX en li P w k e b m f) (hg : w.grownBy w' row) (hne : some b ≠ row) : MapX en li P w' k e b m f := by
  obtain ⟨D, h1, h2⟩ := h
  exact ⟨D, h1.kept hg hne, h2⟩
theorem MapX.up (h : MapX en li P w k e b m f) (hb : Below w.heap.size w w') : MapX en li P w' k e b m f := h.kept (grown_of_below hb) (by simp)
theorem MapX.alloc (h : MapX en li P w k e b m f) (o : Obj) : MapX en li P (w.alloc o) k e b m f := h.up ((Below.refl _ _).alloc (Nat.le_refl _) o)
theorem MapX.drew (h : MapX en li P w k e b m f) : MapX en li P w.drew k e b m f := h.up (Below.refl _ _).drew
theorem MapX.as {m' : Nat} {f' : Value → Option α} (h : MapX en li P w k e b m f) (hm : m = m') (hf : ∀ q, f q = f' q) : MapX en li P w k e b m' f' := by
  have e1 : f = f' := funext hf
  subst hm e1
  exact h
theorem MapX.look {t : TypeId} {z : α} (h : MapX en li P w k e b m f) (K : Keyed P k) (ht : P.underlying t = some (.map k e)) (hz : (zeroValue e).run P w = .ok (en z) w) (hzd : plainElem (H := Unit) P e (en z) = some (.lit (li z), [])) (hin : ∀ v x ps, plainElem (H := Unit) P e v = some (.lit (li x), ps) → v = en x)
    {key : Value} {kl : Lit} (hkey : keyOf P k key = some kl) : (Instr.lookup t (.map (some b)) key false).run P w = .ok (en ((f key).getD z)) w := by
  obtain ⟨D, h1, _, h2⟩ := h
  obtain ⟨v, ps, hrun, hv⟩ := h1.lookup K ht hz hzd hkey
  obtain ⟨a1, a2⟩ := h2 key kl hkey
  rcases hf : f key with _ | x
  · rw [(a1 hf).2] at hv
    rw [hrun, hin _ _ _ hv]; rfl
  · rw [(a2 x hf).2] at hv
    rw [hrun, hin _ _ _ hv]; rfl
theorem MapX.look_ok {t : TypeId} {z : α} (h : MapX en li P w k e b m f) (K : Keyed P k) (ht : P.underlying t = some (.map k e)) (hz : (zeroValue e).run P w = .ok (en z) w) (hzd : plainElem (H := Unit) P e (en z) = some (.lit (li z), [])) (hin : ∀ v x ps, plainElem (H := Unit) P e v = some (.lit (li x), ps) → v = en x)
    {key : Value} {kl : Lit} (hkey : keyOf P k key = some kl) : (Instr.lookup t (.map (some b)) key true).run P w = .ok (.tuple #[en ((f key).getD z), .bool (f key).isSome]) w := by
  obtain ⟨D, h1, _, h2⟩ := h
  obtain ⟨v, ps, hrun, hv⟩ := h1.look_ok K ht hz hzd hkey
  obtain ⟨a1, a2⟩ := h2 key kl hkey
  rcases hf : f key with _ | x
  · rw [(a1 hf).2] at hv
    rw [hrun, hin _ _ _ hv, (a1 hf).1]; rfl
  · rw [(a2 x hf).2] at hv
    rw [hrun, hin _ _ _ hv, (a2 x hf).1]; rfl
theorem MapX.len {t : TypeId} (h : MapX en li P w k e b m f) (ht : P.underlying t = some (.map k e)) (ty : TypeId) : (Builtin.len_ #[t] ty #[.map (some b)]).run P w = .ok (.int .i64 m) w := by
  obtain ⟨D, h1, h3, _⟩ := h
  rw [h1.len ht ty, h3]
theorem ownsMap_tight2 {H : Type} {R : Value → Option (DataW H × List MemPlace)} {n : Nat} {D : DataW H} (h : w.ownsMap P k R b n D) : w.ownsMap P k R b (Maps.size D) D := by
  have hm := h.isMap
  cases D with
  | map l => exact ownsMap_tight h (Nat.le_of_eq rfl)
  | _ => exact absurd hm (by simp [Maps.IsMap])
theorem MapX.put {t : TypeId} (K : Keyed P k) (ht : P.underlying t = some (.map k e)) (h : MapX en li P w k e b m f) (hn : m ≤ 16777216) {key : Value} {x : α}
    {kl : Lit} (hkey : keyOf P k key = some kl) (hpe : plainElem (H := Unit) P e (en x) = some (.lit (li x), [])) : ∃ w', (Instr.mapUpdate t (.map (some b)) key (en x)).run P w = .ok () w' ∧ (∀ (m' : Nat) (g : Value → Option α), m' = (if (f key).isSome then m else m + 1) → g key = some x → (∀ q, q ≠ key → g q = f q) → MapX en li P w' k e b m' g) ∧ w.grownBy w' (some b) := by
  obtain ⟨D, h1, h3, h2⟩ := h
  obtain ⟨w', hrun, hown, hg⟩ := h1.update K ht (by unfold maxLen; omega) hkey hpe
  refine ⟨w', hrun, fun m' g hm' g1 g2 => ?_, hg⟩
  have e0 : Maps.size (D.put kl (.lit (li x))) = m' := by
    rw [Maps.size_put (h1.tidy K), h3, hm']
    obtain ⟨a1, a2⟩ := h2 key kl hkey
    rcases hf : f key with _ | y
    · rw [(a1 hf).1]; simp
    · rw [(a2 y hf).1]; simp
  refine ⟨_, e0 ▸ ownsMap_tight2 hown, e0, fun key' kl' hk' => ?_⟩
  by_cases ek : kl' = kl
  · subst ek
    have e1 : key' = key := K.inj hk' hkey
    subst e1
    rw [g1]
    refine ⟨fun q => (by cases q), fun y hy => ?_⟩
    injection hy with hy
    subst hy
    exact ⟨Maps.has_put_same h1.isMap (K.key hkey) _, fun z => Maps.atKey_put_same h1.isMap (K.key hkey) _ _⟩
  · have e1 : key' ≠ key := fun e2 => ek (by rw [e2, hkey] at hk'; injection hk' with hk'; exact hk'.symm)
    rw [g2 _ e1, Maps.has_put_other ek]
    obtain ⟨a1, a2⟩ := h2 key' kl' hk'
    exact ⟨fun q => ⟨(a1 q).1, fun z => by rw [Maps.atKey_put_other ek]; exact (a1 q).2 z⟩, fun y q => ⟨(a2 y q).1, fun z => by rw [Maps.atKey_put_other ek]; exact (a2 y q).2 z⟩⟩
theorem MapX.drop {t : TypeId} (K : Keyed P k) (ht : P.underlying t = some (.map k e)) (h : MapX en li P w k e b m f) {key : Value}
    {kl : Lit} (hkey : keyOf P k key = some kl) (ty : TypeId) : ∃ w', (Builtin.delete_ #[t, k] ty #[.map (some b), key]).run P w = .ok (.tuple #[]) w' ∧ (∀ (m' : Nat) (g : Value → Option α), m' + (if (f key).isSome then 1 else 0) = m → g key = none → (∀ q, q ≠ key → g q = f q) → MapX en li P w' k e b m' g) ∧ w.grownBy w' (some b) := by
  obtain ⟨D, h1, h3, h2⟩ := h
  obtain ⟨w', hrun, hown, hg⟩ := h1.drop K ht hkey ty
  refine ⟨w', hrun, fun m' g hm' g1 g2 => ?_, hg.grown⟩
  have e0 : Maps.size (D.del kl) = m' := by
    have e9 := Maps.size_del (k := kl) (h1.tidy K)
    rw [h3, ← hm'] at e9
    obtain ⟨a1, a2⟩ := h2 key kl hkey
    rcases hf : f key with _ | y
    · rw [(a1 hf).1, hf] at e9; simp at e9; omega
    · rw [(a2 y hf).1, hf] at e9; simp at e9; omega
  refine ⟨_, e0 ▸ ownsMap_tight2 hown, e0, fun key' kl' hk' => ?_⟩
  by_cases ek : kl' = kl
  · subst ek
    have e1 : key' = key := K.inj hk' hkey
    subst e1
    rw [g1]
    exact ⟨fun _ => ⟨Maps.has_del_same, fun z => Maps.atKey_del_same _⟩, fun y hy => (by cases hy)⟩
  · have e1 : key' ≠ key := fun e2 => ek (by rw [e2, hkey] at hk'; injection hk' with hk'; exact hk'.symm)
    rw [g2 _ e1, Maps.has_del_other ek]
    obtain ⟨a1, a2⟩ := h2 key' kl' hk'
    exact ⟨fun q => ⟨(a1 q).1, fun z => by rw [Maps.atKey_del_other ek]; exact (a1 q).2 z⟩, fun y q => ⟨(a2 y q).1, fun z => by rw [Maps.atKey_del_other ek]; exact (a2 y q).2 z⟩⟩
end
section
variable {α : Type} {en : α → Value} {li : α → Lit} {P : Program} {ops : Array Oper} {rest : List Oper} {o : Oper} {a : Act} {Q : Exit → Act → World → Prop} {W : World} {k e : TypeId} {b n : Nat} {f : Value → Option α}
theorem wp_mapx_put {K' : Act → World → Prop} (M X V : Operand) (t : TypeId) (hop : o.op = Op.mapUpdate t M X V) (K : Keyed P k) (ht : P.underlying t = some (.map k e)) (hm : a.eval M = .map (some b)) (h : MapX en li P W k e b n f) (hn : n ≤ 16777216) {key : Value} (hx : a.eval X = key) {x : α} (hv : a.eval V = en x)
    {kl : Lit} (hkey : keyOf P k key = some kl) (hpe : plainElem (H := Unit) P e (en x) = some (.lit (li x), [])) (hK : ∀ w', (∀ (m' : Nat) (g : Value → Option α), m' = (if (f key).isSome then n else n + 1) → g key = some x → (∀ q, q ≠ key → g q = f q) → MapX en li P w' k e b m' g) → W.grownBy w' (some b) → K' (a.put o.dst undef) w') : o.wp P a W K' Q := by
  obtain ⟨w', hrun, r1, r2⟩ := h.put K ht hn hkey hpe
  unfold Oper.wp
  simp [execOp, hop, hm, hx, hv, hrun, Result.andThen]
  exact hK w' r1 r2
theorem wpList_mapx_put (hgd : o.guard = none) (M X V : Operand) (t : TypeId) (hop : o.op = Op.mapUpdate t M X V) (K : Keyed P k) (ht : P.underlying t = some (.map k e)) (hm : a.eval M = .map (some b)) (h : MapX en li P W k e b n f) (hn : n ≤ 16777216) {key : Value} (hx : a.eval X = key) {x : α} (hv : a.eval V = en x)
    {kl : Lit} (hkey : keyOf P k key = some kl) (hpe : plainElem (H := Unit) P e (en x) = some (.lit (li x), [])) (hK : ∀ w', (∀ (m' : Nat) (g : Value → Option α), m' = (if (f key).isSome then n else n + 1) → g key = some x → (∀ q, q ≠ key → g q = f q) → MapX en li P w' k e b m' g) → W.grownBy w' (some b) → wpList P ops Q rest (a.put o.dst undef) w') : wpList P ops Q (o :: rest) a W :=
  wpList_plain hgd fun K' hK' => wp_mapx_put M X V t hop K ht hm h hn hx hv hkey hpe fun w' r1 r2 => hK' _ _ (hK w' r1 r2)
theorem wpList_mapx_drop (hgd : o.guard = none) (M X : Operand) (t : TypeId) (hop : o.op = Op.call { callee := Callee.builtin Builtin.delete, args := #[M, X], argTypes := #[t, k] }) (K : Keyed P k) (ht : P.underlying t = some (.map k e)) (hm : a.eval M = .map (some b)) (h : MapX en li P W k e b n f) {key : Value} (hx : a.eval X = key)
    {kl : Lit} (hkey : keyOf P k key = some kl) (hK : ∀ w', (∀ (m' : Nat) (g : Value → Option α), m' + (if (f key).isSome then 1 else 0) = n → g key = none → (∀ q, q ≠ key → g q = f q) → MapX en li P w' k e b m' g) → W.grownBy w' (some b) → wpList P ops Q rest (a.put o.dst (.tuple #[])) w') : wpList P ops Q (o :: rest) a W := by
  refine wpList_plain hgd fun K' hK' => ?_
  obtain ⟨w', hrun, r1, r2⟩ := h.drop K ht hkey o.type
  unfold Oper.wp
  simp [execOp, hop, resolve, invoke, builtin, hm, hx, hrun, Result.andThen]
  exact hK' _ _ (hK w' r1 r2)
end
/-! bools -/
def bLi (x : Bool) : Lit := .bool x
def bEn (x : Bool) : Value := .bool x
theorem bLi_pe {P : Program} {e : TypeId} (he : P.underlying e = some .bool) (x : Bool) : plainElem (H := Unit) P e (bEn x) = some (.lit (bLi x), []) := plainElem_bool he x
theorem bLi_in {P : Program} {e : TypeId} (he : P.underlying e = some .bool) (v : Value) (x : Bool) (ps : List MemPlace) (h : plainElem (H := Unit) P e v = some (.lit (bLi x), ps)) : v = bEn x := plainElem_bool_inv he h
end Go.Proofs.YtidolgonmimicaaGreat
/- A set of strings that the call has made, exactly: its keys can be gone through, in whatever order. -/
namespace Go.Proofs.YtidolgonmimicaaGreat
set_option linter.unusedVariables false
set_option linter.unusedSimpArgs false
open Go.ChangeShapes Go.WideShapes Go.ChangeAt Go.RowKit Go.Deep
open Go.Maps (Keyed string_keyed)
open Go.WideMaps (keyOf_string_mk)
/-- What a set of strings reads as. -/
def SetD (D : DataW Unit) (S : List ByteArray) : Prop := ∀ s : ByteArray, s.size ≤ maxLen → Maps.has D (sLi s) = inL S s ∧ (inL S s = true → ∀ z, D.atKey (sLi s) z = .lit (.bool true)) ∧ (inL S s = false → ∀ z, D.atKey (sLi s) z = z)
/-- Block b is a map that holds true at the strings of S and has no other entry. -/
def SetX (P : Program) (w : World) (k e : TypeId) (b : Nat) (S : List ByteArray) : Prop :=
  ∃ (D : DataW Unit) (m : Nat), w.ownsMap P k (plainElem P e) b m D ∧ m ≤ S.length ∧ Maps.size D = m ∧ SetD D S
theorem sLi_inj {s t : ByteArray} (h : sLi s = sLi t) : s = t := by
  injection h with h
  exact ba_ext h
theorem inL_snoc (S : List ByteArray) (x s : ByteArray) : inL (S ++ [x]) s = (inL S s || decide (x = s)) := by simp [inL, List.any_append]
section
variable {P : Program} {w w' : World} {k e : TypeId} {b n : Nat} {S : List ByteArray}
theorem SetX.made (P : Program) (w : World) (k e : TypeId) : SetX P (w.alloc (.map #[] 0)) k e w.heap.size [] :=
  ⟨.map [], 0, World.ownsMap_made w P k _, Nat.le_refl _, rfl, fun s _ => ⟨rfl, fun q => (by cases q), fun _ _ => rfl⟩⟩
theorem SetX.made_at (P : Program) (w : World) (k e : TypeId) {b : Nat} (h : b = w.heap.size) : SetX P (w.alloc (.map #[] 0)) k e b [] := by
  subst h
  exact SetX.made P w k e
theorem SetX.lt (h : SetX P w k e b S) : b < w.heap.size := by
  obtain ⟨D, m, h1, _⟩ := h
  exact h1.lt
theorem SetX.kept {row : Option Nat} (h : SetX P w k e b S) (hg : w.grownBy w' row) (hne : some b ≠ row) : SetX P w' k e b S := by
  obtain ⟨D, m, h1, h2⟩ := h
  exact ⟨D, m, h1.kept hg hne, h2⟩
theorem SetX.up (h : SetX P w k e b S) (hb : Below w.heap.size w w') : SetX P w' k e b S := h.kept (grown_of_below hb) (by simp)
theorem SetX.alloc (h : SetX P w k e b S) (o : Obj) : SetX P (w.alloc o) k e b S := h.up ((Below.refl _ _).alloc (Nat.le_refl _) o)
theorem SetX.drew (h : SetX P w k e b S) : SetX P w.drew k e b S := h.up (Below.refl _ _).drew
theorem SetX.look {t : TypeId} (h : SetX P w k e b S) (K : Keyed P k) (ht : P.underlying t = some (.map k e)) (hk : P.underlying k = some .string) (he : P.underlying e = some .bool) (hz : (zeroValue e).run P w = .ok (.bool false) w) {s : ByteArray} (hs : s.size ≤ 16777216) :
    (Instr.lookup t (.map (some b)) (.string s) false).run P w = .ok (.bool (inL S s)) w := by
  obtain ⟨D, m, h1, _, _, h2⟩ := h
  have hm : s.size ≤ maxLen := by unfold maxLen; omega
  obtain ⟨v, ps, hrun, hv⟩ := h1.lookup K ht hz (plainElem_bool he false) (keyOf_string_mk hk hm)
  obtain ⟨_, a1, a2⟩ := h2 s hm
  rcases hi : inL S s
  · rw [show (Lit.string s.data.toList) = sLi s from rfl, a2 hi] at hv
    rw [hrun, plainElem_bool_inv he hv]
  · rw [show (Lit.string s.data.toList) = sLi s from rfl, a1 hi] at hv
    rw [hrun, plainElem_bool_inv he hv]
theorem SetX.add {t : TypeId} (K : Keyed P k) (ht : P.underlying t = some (.map k e)) (hk : P.underlying k = some .string) (he : P.underlying e = some .bool) (h : SetX P w k e b S) (hn : S.length ≤ 16777216) {s : ByteArray} (hs : s.size ≤ 16777216) :
    ∃ w', (Instr.mapUpdate t (.map (some b)) (.string s) (.bool true)).run P w = .ok () w' ∧ SetX P w' k e b (S ++ [s]) ∧ w.grownBy w' (some b) := by
  obtain ⟨D, m, h1, hmS, h3, h2⟩ := h
  have hm : s.size ≤ maxLen := by unfold maxLen; omega
  have hkey : keyOf P k (.string s) = some (sLi s) := keyOf_string_mk hk hm
  obtain ⟨w', hrun, hown, hg⟩ := h1.update K ht (by unfold maxLen; omega) hkey (plainElem_bool he true)
  have e0 : Maps.size (D.put (sLi s) (.lit (.bool true))) ≤ S.length + 1 := by
    rw [Maps.size_put (h1.tidy K), h3]
    split <;> omega
  refine ⟨w', hrun, ⟨_, _, ownsMap_tight2 hown, by rw [List.length_append]; exact e0, rfl, fun q hq => ?_⟩, hg⟩
  rw [inL_snoc]
  by_cases ek : s = q
  · subst ek
    refine ⟨?_, fun _ z => Maps.atKey_put_same h1.isMap (K.key hkey) _ _, fun hf => ?_⟩
    · rw [Maps.has_put_same h1.isMap (K.key hkey)]; simp
    · simp at hf
  · have e1 : sLi q ≠ sLi s := fun e2 => ek (sLi_inj e2).symm
    obtain ⟨a0, a1, a2⟩ := h2 q hq
    rw [Maps.has_put_other e1, decide_eq_false ek, Bool.or_false]
    exact ⟨a0, fun hi z => by rw [Maps.atKey_put_other e1]; exact a1 hi z, fun hi z => by rw [Maps.atKey_put_other e1]; exact a2 hi z⟩
/-- What has been gone through, at the end: every key once. -/
theorem SetD.keys {D : DataW Unit} {K : List ByteArray} {left : Lit → Bool} (hD : SetD D S) (hown : w.ownsMap P k (plainElem P e) b n D) (KS : Keyed P k) (hk : P.underlying k = some .string) (hC : Collected D left (K.map fun s => s.data.toList)) (hl : ∀ kl, left kl = false) (hS : ∀ s ∈ S, s.size ≤ 16777216) :
    K.Nodup ∧ ∀ x, x ∈ K ↔ x ∈ S := by
  have hin : ∀ x : ByteArray, x ∈ K ↔ x.data.toList ∈ K.map fun s => s.data.toList := fun x => ⟨fun h => List.mem_map.2 ⟨x, h, rfl⟩, fun h => by
    obtain ⟨y, hy, ey⟩ := List.mem_map.1 h
    rw [ba_ext ey] at hy; exact hy⟩
  refine ⟨(List.pairwise_map.1 hC.1).imp fun h e => h (by rw [e]), fun x => ?_⟩
  rw [hin, hC.2, hl]
  constructor
  · rintro ⟨hh, _⟩
    have hx : x.data.toList ∈ K.map fun s => s.data.toList := (hC.2 _).2 ⟨hh, hl _⟩
    have hz := strKeys_le hown hk _ ((hC.perm hown KS hk hl).mem_iff.1 hx)
    have := (hD x (by simpa using hz)).1
    rw [show sLi x = Lit.string x.data.toList from rfl, hh] at this
    exact inL_iff.1 this.symm
  · intro h
    have hz := hS x h
    have := (hD x (by unfold maxLen; omega)).1
    rw [inL_iff.2 h] at this
    exact ⟨this, rfl⟩
end
theorem wpList_setx_add {P : Program} {ops : Array Oper} {rest : List Oper} {o : Oper} {a : Act} {Q : Exit → Act → World → Prop} {W : World} {k e : TypeId} {b : Nat} {S : List ByteArray} (hgd : o.guard = none) (M X V : Operand) (t : TypeId) (hop : o.op = Op.mapUpdate t M X V) (K : Keyed P k) (ht : P.underlying t = some (.map k e)) (hk : P.underlying k = some .string) (he : P.underlying e = some .bool) (hm : a.eval M = .map (some b)) (h : SetX P W k e b S) (hn : S.length ≤ 16777216) {s : ByteArray} (hx : a.eval X = .string s) (hv : a.eval V = .bool true) (hs : s.size ≤ 16777216)
    (hK : ∀ w', SetX P w' k e b (S ++ [s]) → W.grownBy w' (some b) → wpList P ops Q rest (a.put o.dst undef) w') : wpList P ops Q (o :: rest) a W :=
  wpList_plain hgd fun K' hK' => by
    obtain ⟨w', hrun, r1, r2⟩ := h.add K ht hk he hn hs
    unfold Oper.wp
    simp [execOp, hop, hm, hx, hv, hrun, Result.andThen]
    exact hK' _ _ (hK w' r1 r2)
end Go.Proofs.YtidolgonmimicaaGreat
/- The walk through the library's comparison of two lists of texts. -/
namespace Go.Proofs.YtidolgonmimicaaGreat
set_option linter.unusedVariables false
set_option linter.unusedSimpArgs false
open Go.ChangeShapes Go.WideShapes Go.ChangeAt Go.RowKit Go.Deep
set_option maxRecDepth 100000 in
theorem equal_strs (A C : Option Addr) (n n' c d : Nat) (l m : List ByteArray) (w : World) (hn : l.length = n) (hn' : m.length = n') (h : Recs strE 1 w A l) (g : Recs strE 1 w C m) (hz : n ≤ 16777216) (hz' : n' ≤ 16777216) :
    Calls Tryz.prog 111 #[.slice A n c, .slice C n' d] w fun e w' => e = .returned (.bool (decide (l = m))) ∧ Below w.heap.size w w' := by
  subst hn hn'
  by_cases hl : l.length = m.length
  · have HL := Lib.hid hl
    rw [← hl]
    clear hl
    go_in
    go_wp2
    go_loopw [13] (fun i wr => ∃ k : Nat, k ≤ l.length ∧ i = .int .i64 k ∧ Hid (∀ j, j < k → l[j]? = m[j]?) ∧ Below w.heap.size w wr) (fun i _ => l.length - (intOf i).toNat)
    case atStart => exact ⟨0, Nat.zero_le _, rfl, Lib.hid (fun j hj => absurd hj (by omega)), Below.refl _ _⟩
    case round =>
      obtain ⟨k, hk, rfl, HT, hb⟩ := hrel
      by_cases hlt : k < l.length
      · obtain ⟨b1, o1, x, rfl, _, hx, hcx⟩ := (h.below hb (Nat.le_refl _)).at_str hlt
        obtain ⟨b2, o2, y, rfl, _, hy, hcy⟩ := (g.below hb (Nat.le_refl _)).at_str (by rw [← HL.out]; exact hlt)
        have HX := Lib.hid hx
        have HY := Lib.hid hy
        clear hx hy h g
        rcases hne : (x.toList == y.toList)
        · have he := Lib.hid hne
          go_wp2
          go_quiet (fail)
          go_wp2
          go_ret
          refine ⟨ret_bool ?_, by (repeat' (first | (with_reducible exact Below.refl _ _) | (with_reducible assumption) | (with_reducible refine below_drewN ?_ _) | (with_reducible refine Below.drew ?_) | (with_reducible refine below_alloc ?_ _) | (with_reducible refine Below.alloc ?_ ?_ _) | (with_reducible refine Below.setCell ?_ ?_ _) | (with_reducible refine below_go ?_ (by with_reducible assumption)) | (with_reducible refine below_then (by with_reducible assumption) ?_ ?_) | go_size))⟩
          have hd : l ≠ m := fun e => by
            have h1 := HX.out
            rw [e, HY.out] at h1
            injection h1 with h1
            have h2 := he.out
            rw [h1] at h2
            simp at h2
          simp [hd]
        · have he := Lib.hid hne
          go_wp2
          go_quiet (fail)
          go_wp2
          go_roundw
          case rel => exact ⟨k + 1, by omega, by go_num, Lib.hid (upto_succ HT.out (by rw [HX.out, HY.out, bytes_same he.out])), by (repeat' (first | (with_reducible exact Below.refl _ _) | (with_reducible assumption) | (with_reducible refine below_drewN ?_ _) | (with_reducible refine Below.drew ?_) | (with_reducible refine below_alloc ?_ _) | (with_reducible refine Below.alloc ?_ ?_ _) | (with_reducible refine Below.setCell ?_ ?_ _) | (with_reducible refine below_go ?_ (by with_reducible assumption)) | (with_reducible refine below_then (by with_reducible assumption) ?_ ?_) | go_size))⟩
          case measure => simp [intOf]; omega
      · go_wp2
        go_ret
        refine ⟨ret_bool ?_, hb⟩
        have hd : l = m := eq_of_upto (fun j hj => HT.out j hj) (by omega) (by have := HL.out; omega)
        simp [hd]
  · have hne : ((l.length : Int) != (m.length : Int)) = true := by simp; omega
    have hd : l ≠ m := fun e => hl (by rw [e])
    have HD := Lib.hid hd
    clear hd hl
    go_in
    go_wp2
    go_ret
    refine ⟨ret_bool ?_, by (repeat' (first | (with_reducible exact Below.refl _ _) | (with_reducible assumption) | (with_reducible refine below_drewN ?_ _) | (with_reducible refine Below.drew ?_) | (with_reducible refine below_alloc ?_ _) | (with_reducible refine Below.alloc ?_ ?_ _) | (with_reducible refine Below.setCell ?_ ?_ _) | (with_reducible refine below_go ?_ (by with_reducible assumption)) | (with_reducible refine below_then (by with_reducible assumption) ?_ ?_) | go_size))⟩
    simp [HD.out]
end Go.Proofs.YtidolgonmimicaaGreat
