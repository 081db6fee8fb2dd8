/- Texts 7 of 7 that the claim leans on: plain laws and the walks' contracts, in order. -/
import Derived.Test.YtpccbmndgdiloaaMEvens6
import Derived.Test.YtpccbmndgdiloaaRows
import Derived.StillTailTactics
/- The walks through the draws of FnEvens. -/
namespace Go.Proofs.Ytpccbmndgdiloaa
set_option linter.unusedVariables false
set_option linter.unusedSimpArgs false
open Go.ChangeShapes Go.WideShapes Go.ChangeAt Go.RowKit Go.Deep
theorem fact_le5 : ∀ n, n < 6 → fact n ≤ 120 := of_decide_eq_true (by kernel_rfl)
set_option maxHeartbeats 1000000 in
set_option maxRecDepth 100000 in
theorem cur_gens {A : Option Addr} {n c a p : Nat} {w0 w : World} (hS : Src w0 A n) (hb : Below w0.heap.size w0 w) (hp : w0.heap.size ≤ p) (hc : Cur w p A n c a) (ha : a ≤ 1000000) :
    Calls Try.prog 169 #[.pointer (some ⟨p, 0, none⟩)] w fun e w' => ∃ N A' m c' L, e = .returned (.slice A' m c') ∧ 3 ≤ N ∧ N ≤ 5 ∧ 1 ≤ m ∧ m ≤ 2 ∧ (∀ s ∈ L, RowN N s) ∧ Owned strE 1 9 w' w.heap.size A' m c' L ∧ Cur w' p A n c (a + 10) ∧ w.grownBy w' (some p) := by
  have hpw := hc.lt
  have G : Hid (∀ u : World, w.grownBy u (some p) → Below w0.heap.size w0 u) := Lib.hid (fun u hg => grown_below hb hp hg)
  have HS := Lib.hid hS
  have hl := lit_ints w 3 [3, 4, 4, 5, 5]
  go_in
  go_wp2_with fail
  refine (cur_among hS (hb.alloc hb.size _) hp (hc.up ((Below.refl _ _).alloc (Nat.le_refl _) _)) (by omega) rfl hl (by decide) (by decide) (fun b o e => by injection e with e; injection e with e; omega)).mono ?_; rintro e w1 ⟨y, hy, rfl, hc1, hg1⟩
  simp only [List.mem_cons, List.not_mem_nil, or_false] at hy
  have y3 : 3 ≤ y := by omega
  have y5 : y ≤ 5 := by omega
  obtain ⟨N, rfl⟩ := Int.eq_ofNat_of_zero_le (show 0 ≤ y by omega)
  have h3 : 3 ≤ N := by omega
  have h5 : N ≤ 5 := by omega
  have HG1 := Lib.hid (grownBy_trans (World.grownBy_alloc _ _ _) hg1)
  have HC1 := Lib.hid hc1
  clear y3 y5 hy hc1 hg1 hl hb hc hS
  go_wp2_with fail
  refine (cur_pick HS.out (G.out _ HG1.out) hp HC1.out (by omega) (by omega) (by omega)).mono ?_; rintro e w2 ⟨x, rfl, ⟨x0, x1⟩, hc2, hg2⟩
  obtain ⟨X, rfl⟩ := Int.eq_ofNat_of_zero_le x0
  have hX : X ≤ 1 := by omega
  have HC2 := Lib.hid hc2
  have HG2 := Lib.hid (grownBy_trans HG1.out hg2)
  clear x0 x1 hc2 hg2
  go_wp2
  go_loopw [4, 5] (fun v i wr => ∃ (k m : Nat) (A' : Option Addr) (c' : Nat) (L : List ByteArray), k ≤ X + 1 ∧ i = .int .i64 k ∧ v = .slice A' m c' ∧ m + k = X + 1 ∧ Hid (∀ s ∈ L, RowN N s) ∧ Hid (Owned strE 1 9 wr w.heap.size A' m c' L) ∧ Hid (Cur wr p A n c (a + 2 + 2 * (X + 1 - k))) ∧ Hid (w.grownBy wr (some p))) (fun _ i _ => (intOf i).toNat)
  case atStart => exact ⟨X + 1, 0, none, 0, [], Nat.le_refl _, by go_num, rfl, by omega, Lib.hid (fun s hs => by cases hs), Lib.hid (Owned.nil strE_len _ _ _), Lib.hid (HC2.out.mono (by omega)), HG2⟩
  case round =>
    obtain ⟨k, m, A2, c2, L, hk, rfl, rfl, hmk, HZ, HO, HC, HG⟩ := hrel
    rename World => wr
    have hsr := HG.out.size
    have HMK := Lib.hid hmk
    have hm2 : m ≤ 2 := by omega
    by_cases h0 : 0 < k
    · have hI : (0 : Int) < (k : Int) := by omega
      clear hmk
      go_wp2_with fail
      refine (cur_row HS.out (G.out _ HG.out) hp HC.out (by omega) h3 (by omega)).mono ?_; rintro e w4 ⟨y, rfl, hy, hc4, hg4⟩
      have HO4 := Lib.hid (HO.out.past hg4 hpw)
      have HC4 := Lib.hid hc4
      have HG4 := Lib.hid (grownBy_trans HG.out hg4)
      have hs4 := HG4.out.size
      have HY := Lib.hid hy
      clear hc4 hg4 hy
      go_wp2_with (first | (at_builtin; go_must ((refine wpList_append_recs Try.elStr strE_one rfl (.tmp 16) (.tmp 20) rfl rfl (HO4.out.alloc _) rfl (own_lit1_at' strE_len _ 9 y rfl (Nat.le_refl _)).recs rfl ?_ (by decide) ?_ ?_; (focus (first | omega | (simp only [World.size_alloc]; done) | (simp only [World.size_alloc]; omega) | (simp; done) | (simp; omega))); (simp; omega); intro A3 c3 w6 ho6 hg6 hl6; have HO6 := Lib.hid ho6; have HC6 := Lib.hid ((HC4.out.up ((Below.refl _ _).alloc (Nat.le_refl _) _)).grown hg6 (fun e => by have := (HO4.out.blk e.symm).1; omega)); have HG6 := Lib.hid (grow_own (grownBy_trans HG4.out (World.grownBy_alloc _ _ _)) hg6 (fun k hk => (HO4.out.blk hk).1)); clear ho6 hg6 hl6))))
      go_roundw
      case rel => exact ⟨k - 1, m + 1, A3, c3, L ++ [y], by omega, by go_num, rfl, by have := HMK.out; omega, Lib.hid (fun s hs => by
          rcases List.mem_append.1 hs with hs | hs
          · exact HZ.out s hs
          · rw [List.mem_singleton.1 hs]; exact HY.out), HO6, Lib.hid (HC6.out.mono (by omega)), HG6⟩
      case measure => simp [intOf]; omega
    · obtain rfl : k = 0 := by omega
      have hI : ¬ (0 : Int) < ((0 : Nat) : Int) := by omega
      clear hmk
      go_wp2
      go_ret
      exact ⟨N, _, _, _, rfl, h3, h5, by have := HMK.out; omega, hm2, L, HZ.out, HO.out, HC.out.mono (by omega), HG.out⟩
set_option maxHeartbeats 1000000 in
set_option maxRecDepth 100000 in
theorem cur_group {A : Option Addr} {n c a p : Nat} {w0 w : World} (hS : Src w0 A n) (hb : Below w0.heap.size w0 w) (hp : w0.heap.size ≤ p) (hc : Cur w p A n c a) (ha : a ≤ 1000000) :
    Calls Try.prog 88 #[.pointer (some ⟨p, 0, none⟩)] w fun e w' => ∃ A' m c' L, e = .returned (.slice A' m c') ∧ L.length = m ∧ m ≤ 120 ∧ (∀ s ∈ L, s.size ≤ 8) ∧ Strs w' A' L ∧ Cur w' p A n c (a + 20) ∧ w.grownBy w' (some p) := by
  have hpw := hc.lt
  have G : Hid (∀ u : World, w.grownBy u (some p) → Below w0.heap.size w0 u) := Lib.hid (fun u hg => grown_below hb hp hg)
  have HS := Lib.hid hS
  go_in
  go_wp2_with fail
  refine (cur_gens hS hb hp hc ha).mono ?_; rintro e w1 ⟨N, A1, m1, c1, L1, rfl, h3, h5, h1, h2, hr1, ho1, hc1, hg1⟩
  have HR := Lib.hid hr1
  have HG1 := Lib.hid hg1
  have HC1 := Lib.hid hc1
  go_wp2_with fail
  refine (spec_l6Close ho1.len ho1.recs (by omega) (by omega) h3 (by omega) hr1).mono ?_; rintro e w2 ⟨A2, m2, c2, rfl, hyes, _, hb2⟩
  have hle := (clF_ok h3 (by omega) hr1).le
  have hle5 := fact_le5 N (by omega)
  have h800 : (clF N L1).length ≤ 800 := by omega
  obtain ⟨rfl, L2, ho2, hp2, _⟩ := hyes h800
  have hd := Lib.hid (decide_eq_true h800)
  rw [hd.out]
  obtain ⟨M, hM⟩ : ∃ M, M = (clF N L1).length := ⟨_, rfl⟩
  rw [← hM] at ho2 hle ⊢
  have HSZ : Hid (∀ s ∈ L2, s.size ≤ 8) := Lib.hid (fun s hs => by
    have := ((clF_ok h3 (by omega) HR.out).2 s (hp2.mem_iff.1 hs)).2
    omega)
  have hm120 : M ≤ 120 := by omega
  have HL2 := Lib.hid ho2.len
  have hcap := ho2.cap.1
  have HRC := Lib.hid ho2.recs
  have HO2 := Lib.hid ho2
  have hp1 := HC1.out.lt
  have HC2 := Lib.hid (HC1.out.up hb2)
  have HG2 := Lib.hid (grownBy_trans HG1.out (grown_any hb2 _))
  clear hM hyes hle hle5 h800 hb2 hp2 ho2 hr1 ho1 hc1 hg1 hb hc hS
  by_cases hm1 : 1 < M
  · have hI : (1 : Int) < (M : Int) := by omega
    go_wp2_with fail
    refine (cur_one HS.out (G.out _ HG2.out) hp HC2.out (by omega) (by decide) (by decide)).mono ?_; rintro e w4 ⟨b, rfl, hc4, hg4⟩
    have HC4 := Lib.hid (hc4.mono (by omega : a + 10 + 1 ≤ a + 20))
    have HG4 := Lib.hid (grownBy_trans HG2.out hg4)
    have HO4 := Lib.hid (HO2.out.past hg4 hp1)
    have HR4 : Hid (Strs w4 A2 L2) := Lib.hid HO4.out.recs
    clear hc4 hg4
    rcases b
    · go_wp2
      go_ret
      exact ⟨_, M, _, L2, rfl, HL2.out, hm120, HSZ.out, HR4.out, HC4.out, HG4.out⟩
    · obtain ⟨f, rfl, f0, f1, fc, ff⟩ := HO4.out.at_ (by omega)
      clear fc ff
      obtain ⟨x, L', rfl⟩ : ∃ x t, L2 = x :: t := by
        rcases L2 with _ | ⟨x, t⟩
        · have := HL2.out; simp at this; omega
        · exact ⟨x, t, rfl⟩
      have hts := Try.tailStrs f 0 M c2 (by omega)
      have HL' : Hid (L'.length + 1 = M) := Lib.hid (by have := HL2.out; simpa using this)
      have HT := Lib.hid (HR4.out.tail HL'.out hcap)
      go_wp2
      go_ret
      exact ⟨_, M - 1, _, L', rfl, by have := HL'.out; omega, by omega, fun s hs => HSZ.out s (List.mem_cons_of_mem _ hs), HT.out, HC4.out, HG4.out⟩
  · have hI : ¬ (1 : Int) < (M : Int) := by omega
    go_wp2
    go_ret
    exact ⟨_, M, ⟨_, rfl⟩, L2, HL2.out, hm120, HSZ.out, HRC.out, HC2.out.mono (by omega), HG2.out⟩
set_option maxHeartbeats 2000000 in
set_option maxRecDepth 100000 in
theorem draw_IsGroup {A : Option Addr} {n c : Nat} {w : World} (hS : Src w A n) :
    Calls Try.prog 22 #[.slice A n c] w fun e w' => ∃ (A1 : Option Addr) (n1 c1 : Nat) (l1 : List ByteArray), e = .returned (.slice A1 n1 c1) ∧ l1.length = n1 ∧ n1 ≤ 800 ∧ (∀ s ∈ l1, s.size ≤ 16777216) ∧ Strs w' A1 l1 ∧ Below w.heap.size w w' := by
  have b0 : Below w.heap.size w (w.alloc (.cells #[.slice A n c, .int .i64 0, .int .u64 0] 104)) := by (repeat' (first | (with_reducible exact Below.refl _ _) | (with_reducible assumption) | (with_reducible refine below_drewN ?_ _) | (with_reducible refine Below.drew ?_) | (with_reducible refine below_alloc ?_ _) | (with_reducible refine Below.alloc ?_ ?_ _) | (with_reducible refine Below.setCell ?_ ?_ _) | (with_reducible refine below_go ?_ (by with_reducible assumption)) | (with_reducible refine below_then (by with_reducible assumption) ?_ ?_) | go_size))
  have c0 := cur_fresh w A n c
  go_in
  go_wp2_with fail
  obtain ⟨w1, hw1⟩ : ∃ u, u = w.alloc (.cells #[.slice A n c, .int .i64 0, .int .u64 0] 104) := ⟨_, rfl⟩
  rw [← hw1] at b0 c0 ⊢
  clear hw1
  have HS := Lib.hid hS
  clear hS
  refine (cur_one HS.out b0 (Nat.le_refl _) c0 (by omega) (by decide) (by decide)).mono ?_; rintro e w2 ⟨b, rfl, hc2, hg2⟩
  have HB2 := Lib.hid (grown_below b0 (Nat.le_refl _) hg2)
  have s2 := HB2.out.size
  clear b0 c0 hg2
  rcases b
  · go_wp2_with fail
    refine (cur_group HS.out HB2.out (Nat.le_refl _) hc2 (by omega)).mono ?_; rintro e w3 ⟨A3, m3, c3, L3, rfl, hL, hm3, hd3, hr3, hc3, hg3⟩
    have HD := Lib.hid hd3
    have HL := Lib.hid hL
    have HR := Lib.hid hr3
    have HB3 := Lib.hid (grown_below HB2.out (Nat.le_refl _) hg3)
    clear hd3 hr3 hc3 hg3 hL
    go_wp2
    go_ret
    exact ⟨_, m3, _, L3, rfl, HL.out, by omega, fun s hs => Nat.le_trans (HD.out s hs) (by decide), HR.out, HB3.out⟩
  · go_wp2_with fail
    refine (cur_rowsOf (N := 4) (M := 5) HS.out HB2.out (Nat.le_refl _) hc2 (by omega) (by decide) (by decide) (by decide)).mono ?_; rintro e w3 ⟨A3, m3, c3, L3, rfl, hm3, hd3, ho3, hc3, hg3⟩
    have HD := Lib.hid (fun s (hs : s ∈ L3) => show s.size ≤ 16777216 from Nat.le_trans (hd3 s hs).1 (by decide))
    have HB3 := Lib.hid (grown_below HB2.out (Nat.le_refl _) hg3)
    have HL := Lib.hid ho3.len
    have HR := Lib.hid ho3.recs
    clear hd3 ho3 hc3 hg3
    go_wp2_with fail
    refine (spec_l6Sort m3 _ _ L3 _ HL.out HR.out (by omega) HD.out).mono ?_; rintro e w4 ⟨A4, c4, L4, rfl, ho4, hp4, _, hb4⟩
    have HB4 := Lib.hid (below_go HB3.out hb4)
    have HL4 := Lib.hid ho4.len
    have HR4 := Lib.hid ho4.recs
    have HP4 := Lib.hid hp4
    clear ho4 hp4 hb4
    go_wp2
    go_ret
    exact ⟨_, m3, _, L4, rfl, HL4.out, by omega, fun s hs => HD.out s (HP4.out.mem_iff.1 hs), HR4.out, HB4.out⟩
set_option maxHeartbeats 2000000 in
set_option maxRecDepth 100000 in
theorem draw_GoodRows {A : Option Addr} {n c : Nat} {w : World} (hS : Src w A n) :
    Calls Try.prog 94 #[.slice A n c] w fun e w' => ∃ (A1 : Option Addr) (n1 c1 : Nat) (l1 : List ByteArray), e = .returned (.slice A1 n1 c1) ∧ l1.length = n1 ∧ n1 ≤ 800 ∧ (∀ s ∈ l1, s.size ≤ 16777216) ∧ Strs w' A1 l1 ∧ Below w.heap.size w w' := by
  have b0 : Below w.heap.size w (w.alloc (.cells #[.slice A n c, .int .i64 0, .int .u64 0] 104)) := by (repeat' (first | (with_reducible exact Below.refl _ _) | (with_reducible assumption) | (with_reducible refine below_drewN ?_ _) | (with_reducible refine Below.drew ?_) | (with_reducible refine below_alloc ?_ _) | (with_reducible refine Below.alloc ?_ ?_ _) | (with_reducible refine Below.setCell ?_ ?_ _) | (with_reducible refine below_go ?_ (by with_reducible assumption)) | (with_reducible refine below_then (by with_reducible assumption) ?_ ?_) | go_size))
  have c0 := cur_fresh w A n c
  go_in
  go_wp2_with fail
  obtain ⟨w1, hw1⟩ : ∃ u, u = w.alloc (.cells #[.slice A n c, .int .i64 0, .int .u64 0] 104) := ⟨_, rfl⟩
  rw [← hw1] at b0 c0 ⊢
  clear hw1
  have HS := Lib.hid hS
  clear hS
  refine (cur_stage HS.out b0 (Nat.le_refl _) c0 (by omega)).mono ?_; rintro e w2 ⟨N, rfl, h3, h8, hc2, hg2⟩
  have HB2 := Lib.hid (grown_below b0 (Nat.le_refl _) hg2)
  have s2 := HB2.out.size
  have hp2 := hc2.lt
  clear b0 c0 hg2
  go_wp2_with fail
  refine (cur_rowsOf (N := N) (M := 6) HS.out HB2.out (Nat.le_refl _) hc2 (by omega) h3 h8 (by decide)).mono ?_; rintro e w3 ⟨A3, m3, c3, L3, rfl, hm3, hd3, ho3, hc3, hg3⟩
  have HB3 := Lib.hid (grown_below HB2.out (Nat.le_refl _) hg3)
  have s3 := HB3.out.size
  have hs23 := hg3.size
  have hp3 := hc3.lt
  have HD := Lib.hid hd3
  have HC3 := Lib.hid hc3
  have HO3 := Lib.hid ho3
  clear hd3 ho3 hc3 hg3 hc2
  go_wp2_with fail
  refine (cur_one HS.out HB3.out (Nat.le_refl _) HC3.out (by omega) (by decide) (by decide)).mono ?_; rintro e w4 ⟨b, rfl, hc4, hg4⟩
  have HO4 := Lib.hid (HO3.out.past hg4 (by omega))
  have HB4 := Lib.hid (grown_below HB3.out (Nat.le_refl _) hg4)
  have s4 := HB4.out.size
  have s34 := hg4.size
  clear hc4 hg4
  rcases b
  · have HL4 := Lib.hid HO4.out.len
    have HR4 := Lib.hid HO4.out.recs
    go_wp2
    go_ret
    exact ⟨_, m3, _, L3, rfl, HL4.out, by omega, fun s hs => Nat.le_trans (HD.out s hs).1 (by decide), HR4.out, HB4.out⟩
  · go_wp2_with (first | (at_builtin; go_must ((refine wpList_append_recs Try.elStr strE_one rfl (.tmp 14) (.tmp 15) rfl rfl (HO4.out.alloc _) rfl (own_lit1_at' strE_len _ 9 ⟨#[49, 50, 51]⟩ rfl (Nat.le_refl _)).recs rfl ?_ (by decide) ?_ ?_; (focus (first | omega | (simp only [World.size_alloc]; done) | (simp only [World.size_alloc]; omega) | (simp; done) | (simp; omega))); (simp; omega); intro A6 c6 w6 ho6 hg6 hl6; have HO6 := Lib.hid ho6; have HB6 := Lib.hid ((HB4.out.alloc s4 (.cells #[.string ⟨#[49, 50, 51]⟩] 9)).trans (grown_base hg6 (by simp; omega) (fun k hk => by have := (HO4.out.blk hk).1; omega))); clear ho6 hg6 hl6))))
    have HL6 := Lib.hid HO6.out.len
    have HR6 := Lib.hid HO6.out.recs
    go_ret
    exact ⟨_, m3 + 1, _, L3 ++ [⟨#[49, 50, 51]⟩], rfl, HL6.out, by omega, fun s hs => by
      rcases List.mem_append.1 hs with hs | hs
      · exact Nat.le_trans (HD.out s hs).1 (by decide)
      · rw [List.mem_singleton.1 hs]; decide, HR6.out, HB6.out⟩
set_option maxRecDepth 100000 in
theorem draw_EvenOnes {A : Option Addr} {n c : Nat} {w : World} (hS : Src w A n) :
    Calls Try.prog 26 #[.slice A n c] w fun e w' => ∃ (A1 : Option Addr) (n1 c1 : Nat) (l1 : List ByteArray), e = .returned (.slice A1 n1 c1) ∧ l1.length = n1 ∧ n1 ≤ 800 ∧ (∀ s ∈ l1, s.size ≤ 16777216) ∧ Strs w' A1 l1 ∧ Below w.heap.size w w' := by
  go_in
  go_wp2_with fail
  refine (draw_GoodRows hS).mono ?_; rintro e w1 ⟨A1, n1, c1, l1, rfl, h1, h2, h3, h4, h5⟩
  go_wp2
  go_ret
  exact ⟨_, _, _, l1, rfl, h1, h2, h3, h4, h5⟩
end Go.Proofs.Ytpccbmndgdiloaa
/- The laws' own conversions of []impl.Strike: copying, comparing, counting, marking. -/
namespace Go.Proofs.Ytpccbmndgdiloaa
set_option linter.unusedVariables false
set_option linter.unusedSimpArgs false
open Go.ChangeShapes Go.WideShapes Go.ChangeAt Go.RowKit Go.Deep
theorem Try.elStrike : ElemOk Try.prog 75 140 (.agg #[.int .i64 0, .int .i64 0]) 2 16 := ⟨Try.underlying75, by kernel_rfl, rfl, by decide⟩
theorem laws_toStrike (a0 a1 : Int) (w : World) :
    Calls Try.prog 149 #[.agg #[.int .i64 a0, .int .i64 a1]] w fun e w' => e = .returned (.agg #[.int .i64 a0, .int .i64 a1]) ∧ Below w.heap.size w w' := by
  go_in
  go_wp2
  go_returns
  exact ⟨rfl, by (repeat' (first | (with_reducible exact Below.refl _ _) | (with_reducible assumption) | (with_reducible refine below_drewN ?_ _) | (with_reducible refine Below.drew ?_) | (with_reducible refine below_alloc ?_ _) | (with_reducible refine Below.alloc ?_ ?_ _) | (with_reducible refine Below.setCell ?_ ?_ _) | (with_reducible refine below_go ?_ (by with_reducible assumption)) | (with_reducible refine below_then (by with_reducible assumption) ?_ ?_) | go_size))⟩
set_option maxRecDepth 100000 in
theorem laws_toStrikeS (A : Option Addr) (n c : Nat) (l : List (Int × Int)) (w : World) (hn : l.length = n) (h : Recs strikeE 2 w A l) (hz : n ≤ 1048576) :
    Calls Try.prog 62 #[.slice A n c] w fun e w' => ∃ g, e = .returned (.slice (some ⟨g, 0, none⟩) n n) ∧ Owned strikeE 2 140 w' w.heap.size (some ⟨g, 0, none⟩) n n l ∧ Below w.heap.size w w' := by
  subst hn
  have hmk := run_make_rec (e := strikeE) Try.elStrike (0, 0) rfl l.length (by omega) (by decide)
  go_in
  go_wp2
  clear hmk
  go_loopw [4] (fun i wr => ∃ (k : Nat) (m : List (Int × Int)), k ≤ l.length ∧ i = .int .i64 k ∧ Hid (∀ j, j < k → m[j]? = l[j]?) ∧ Owned strikeE 2 140 wr w.heap.size (some ⟨w.heap.size, 0, none⟩) l.length l.length m ∧ Below w.heap.size w wr) (fun i _ => l.length - (intOf i).toNat)
  case atStart => exact ⟨0, _, Nat.zero_le _, rfl, Lib.hid (fun j hj => absurd hj (by omega)), Owned.made (e := strikeE) (s := 2) (fun _ => rfl) w 140 (0, 0) l.length (by omega) (Nat.le_refl _), by (repeat' (first | (with_reducible exact Below.refl _ _) | (with_reducible assumption) | (with_reducible refine below_drewN ?_ _) | (with_reducible refine Below.drew ?_) | (with_reducible refine below_alloc ?_ _) | (with_reducible refine Below.alloc ?_ ?_ _) | (with_reducible refine Below.setCell ?_ ?_ _) | (with_reducible refine below_go ?_ (by with_reducible assumption)) | (with_reducible refine below_then (by with_reducible assumption) ?_ ?_) | go_size))⟩
  case round =>
    obtain ⟨k, m, hk, rfl, HM, ho, hb⟩ := hrel
    by_cases hlt : k < l.length
    · obtain ⟨x, hx⟩ := some_of_lt hlt
      obtain ⟨y, hy⟩ := some_of_lt (l := m) (k := k) (by rw [ho.len]; exact hlt)
      obtain ⟨b1, o1, rfl, hbb, hc0, hc1⟩ := (h.below hb (Nat.le_refl _)).at_2 hx
      have HX := Lib.hid hx
      have HY := Lib.hid hy
      have HO := Lib.hid ho
      clear hx hy ho h
      go_wp2_with fail
      refine (laws_toStrike _ _ _).mono ?_; rintro e w1 ⟨rfl, hb1⟩
      have HO1 := Lib.hid (HO.out.up hb1)
      obtain ⟨g', eg, _, _, hcell, hfz⟩ := HO1.out.at_ (by omega)
      injection eg with eg
      injection eg with eg
      subst eg
      have old0 := hcell k y 0 _ HY.out rfl
      have fz0 := hfz (k * 2 + 0)
      have old1 := hcell k y 1 _ HY.out rfl
      have fz1 := hfz (k * 2 + 1)
      simp only [Nat.add_zero] at old0 fz0
      clear hcell hfz
      go_wp2
      go_roundw
      case rel =>
        refine ⟨k + 1, m.set k x, by omega, by go_num, Lib.hid (upto_set HM.out HX.out (by rw [HO1.out.len]; exact hlt)), ?_, by (repeat' (first | (with_reducible exact Below.refl _ _) | (with_reducible assumption) | (with_reducible refine below_drewN ?_ _) | (with_reducible refine Below.drew ?_) | (with_reducible refine below_alloc ?_ _) | (with_reducible refine Below.alloc ?_ ?_ _) | (with_reducible refine Below.setCell ?_ ?_ _) | (with_reducible refine below_go ?_ (by with_reducible assumption)) | (with_reducible refine below_then (by with_reducible assumption) ?_ ?_) | go_size))⟩
        have p0 := (HO1.out.put (j := 0) (x := (x.1, y.2)) (u := .int .i64 x.1) HY.out (by decide) rfl).1
        have p1 := (p0.put (j := 1) (x := (x.1, x.2)) (u := .int .i64 x.2) (List.getElem?_set_self (by rw [HO1.out.len]; exact hlt)) (by decide) rfl).1
        simp only [List.set_set] at p1
        exact p1
      case measure => simp [intOf]; omega
    · go_wp2
      go_ret
      have e1 : m = l := eq_of_upto (fun j hj => HM.out j hj) (by rw [ho.len]; omega) (by omega)
      subst e1
      exact ⟨_, rfl, ho, hb⟩
theorem laws_eqStrike (a0 a1 b0 b1 : Int) (w : World) :
    Calls Try.prog 153 #[.agg #[.int .i64 a0, .int .i64 a1], .agg #[.int .i64 b0, .int .i64 b1]] w fun e w' => e = .returned (.bool (decide ((a0, a1) = (b0, b1)))) ∧ Below w.heap.size w w' := by
  have E : Hid (∀ p : Bool, p = decide (a0 = b0 ∧ a1 = b1) → p = decide ((a0, a1) = (b0, b1))) := fun p h => by rw [h]; simp
  go_in
  go_wp2
  all_goals go_ret
  all_goals refine ⟨ret_bool (E.out _ ?_), by (repeat' (first | (with_reducible exact Below.refl _ _) | (with_reducible assumption) | (with_reducible refine below_drewN ?_ _) | (with_reducible refine Below.drew ?_) | (with_reducible refine below_alloc ?_ _) | (with_reducible refine Below.alloc ?_ ?_ _) | (with_reducible refine Below.setCell ?_ ?_ _) | (with_reducible refine below_go ?_ (by with_reducible assumption)) | (with_reducible refine below_then (by with_reducible assumption) ?_ ?_) | go_size))⟩
  all_goals simp_all
set_option maxRecDepth 100000 in
theorem laws_eqStrikeS (A C : Option Addr) (n n' c d : Nat) (l m : List (Int × Int)) (w : World) (hn : l.length = n) (hn' : m.length = n') (h : Recs strikeE 2 w A l) (g : Recs strikeE 2 w C m) (hz : n ≤ 16777216) (hz' : n' ≤ 16777216) :
    Calls Try.prog 64 #[.slice A n c, .slice C n' d] w fun e w' => e = .returned (.bool (decide (l = m))) ∧ Below w.heap.size w w' := by
  subst hn hn'
  by_cases hl : l.length = m.length
  · have HL := Lib.hid hl
    rw [← hl]
    clear hl
    go_in
    go_wp2
    go_loopw [5] (fun i wr => ∃ k : Nat, k ≤ l.length ∧ i = .int .i64 k ∧ Hid (∀ j, j < k → l[j]? = m[j]?) ∧ Below w.heap.size w wr) (fun i _ => l.length - (intOf i).toNat)
    case atStart => exact ⟨0, Nat.zero_le _, rfl, Lib.hid (fun j hj => absurd hj (by omega)), Below.refl _ _⟩
    case round =>
      obtain ⟨k, hk, rfl, HT, hb⟩ := hrel
      by_cases hlt : k < l.length
      · obtain ⟨x, hx⟩ := some_of_lt hlt
        obtain ⟨y, hy⟩ := some_of_lt (l := m) (k := k) (by rw [← HL.out]; exact hlt)
        obtain ⟨b1, o1, rfl, _, hcx0, hcx1⟩ := (h.below hb (Nat.le_refl _)).at_2 hx
        obtain ⟨b2, o2, rfl, _, hcy0, hcy1⟩ := (g.below hb (Nat.le_refl _)).at_2 hy
        have HX := Lib.hid hx
        have HY := Lib.hid hy
        clear hx hy h g
        go_wp2
        go_still_tail 8, (by kernel_rfl)
        change wpList _ _ _ _ _ wr.drew
        go_wp2_with fail
        refine (laws_eqStrike _ _ _ _ _).mono ?_; rintro e w1 ⟨rfl, hb1⟩
        by_cases hxy : x = y
        · have hd : decide ((x.1, x.2) = (y.1, y.2)) = true := by rw [hxy]; simp
          rw [hd]
          have HXY := Lib.hid hxy
          clear hxy hd
          go_wp2
          go_roundw
          case rel => exact ⟨k + 1, by omega, by go_num, Lib.hid (upto_succ HT.out (by rw [HX.out, HY.out, HXY.out])), by (repeat' (first | (with_reducible exact Below.refl _ _) | (with_reducible assumption) | (with_reducible refine below_drewN ?_ _) | (with_reducible refine Below.drew ?_) | (with_reducible refine below_alloc ?_ _) | (with_reducible refine Below.alloc ?_ ?_ _) | (with_reducible refine Below.setCell ?_ ?_ _) | (with_reducible refine below_go ?_ (by with_reducible assumption)) | (with_reducible refine below_then (by with_reducible assumption) ?_ ?_) | go_size))⟩
          case measure => simp [intOf]; omega
        · have hd : decide ((x.1, x.2) = (y.1, y.2)) = false := decide_eq_false hxy
          rw [hd]
          have HXY := Lib.hid hxy
          clear hxy hd
          go_wp2
          go_ret
          refine ⟨ret_bool ?_, by (repeat' (first | (with_reducible exact Below.refl _ _) | (with_reducible assumption) | (with_reducible refine below_drewN ?_ _) | (with_reducible refine Below.drew ?_) | (with_reducible refine below_alloc ?_ _) | (with_reducible refine Below.alloc ?_ ?_ _) | (with_reducible refine Below.setCell ?_ ?_ _) | (with_reducible refine below_go ?_ (by with_reducible assumption)) | (with_reducible refine below_then (by with_reducible assumption) ?_ ?_) | go_size))⟩
          have hd : l ≠ m := fun e => by
            have h1 := HX.out
            rw [e, HY.out] at h1
            injection h1 with h1
            exact HXY.out h1.symm
          simp [hd]
      · go_wp2
        go_ret
        refine ⟨ret_bool ?_, hb⟩
        have hd : l = m := eq_of_upto (fun j hj => HT.out j hj) (by omega) (by have := HL.out; omega)
        simp [hd]
  · have hne : ((l.length : Int) != (m.length : Int)) = true := by simp; omega
    have hd : l ≠ m := fun e => hl (by rw [e])
    have HD := Lib.hid hd
    clear hd hl
    go_in
    go_wp2
    go_ret
    refine ⟨ret_bool ?_, by (repeat' (first | (with_reducible exact Below.refl _ _) | (with_reducible assumption) | (with_reducible refine below_drewN ?_ _) | (with_reducible refine Below.drew ?_) | (with_reducible refine below_alloc ?_ _) | (with_reducible refine Below.alloc ?_ ?_ _) | (with_reducible refine Below.setCell ?_ ?_ _) | (with_reducible refine below_go ?_ (by with_reducible assumption)) | (with_reducible refine below_then (by with_reducible assumption) ?_ ?_) | go_size))⟩
    simp [HD.out]
theorem laws_szStrikeS_ok (A : Option Addr) (n c : Nat) (left : Int) (w : World) (h : (n : Int) ≤ left) (h' : left ≤ 1048576) :
    Calls Try.prog 60 #[.slice A n c, .int .i64 left] w fun e w' => e = .returned (.int .i64 (left - n)) ∧ w = w' := by
  go_in
  go_wp2
  go_ret
  exact ⟨rfl, rfl⟩
theorem laws_szStrikeS_no (A : Option Addr) (n c : Nat) (left : Int) (w : World) (h : left < (n : Int)) (h' : 0 ≤ left) (h2 : n ≤ 9223372036854775807) :
    Calls Try.prog 60 #[.slice A n c, .int .i64 left] w fun e w' => e = .returned (.int .i64 (-1)) ∧ w = w' := by
  go_in
  go_wp2
  go_ret
  exact ⟨rfl, rfl⟩
/-- The marks that element j gets. -/
def markStrike (k0 : Int) (j : Nat) : (Int × Int) := (k0 + 2 * (j : Int), k0 + 2 * (j : Int) + 1)
set_option maxRecDepth 100000 in
theorem laws_markStrikeS (A : Option Addr) (n c base : Nat) (l : List (Int × Int)) (k0 : Int) (w : World) (h : Owned strikeE 2 140 w base A n c l) (hbase : base ≤ w.heap.size) (hz : n ≤ 16777216) (hk0 : 0 ≤ k0 ∧ k0 ≤ 1099511627776) :
    Calls Try.prog 65 #[.slice A n c, .int .i64 k0] w fun e w' => e = .returned (.int .i64 (k0 + 2 * (n : Int))) ∧ Owned strikeE 2 140 w' base A n c ((List.range n).map (markStrike k0)) ∧ w.grownBy w' (Value.slice A n c).ownBlock ∧ Below base w w' := by
  go_in
  go_wp2
  go_loopw [5, 1] (fun p q wr => ∃ (i : Nat) (m : List (Int × Int)), i ≤ n ∧ p = .int .i64 i ∧ q = .int .i64 (k0 + 2 * (i : Int)) ∧ Hid (∀ j, j < i → m[j]? = some (markStrike k0 j)) ∧ Owned strikeE 2 140 wr base A n c m ∧ w.grownBy wr (Value.slice A n c).ownBlock) (fun p _ _ => n - (intOf p).toNat)
  case atStart => exact ⟨0, l, Nat.zero_le _, rfl, by simp, Lib.hid (fun j hj => absurd hj (by omega)), h, ⟨rfl, rfl, rfl, Nat.le_refl _, fun _ _ _ => rfl⟩⟩
  case round =>
    obtain ⟨i, m, hi, rfl, rfl, HM, ho, hg⟩ := hrel
    by_cases hlt : i < n
    · obtain ⟨y, hy⟩ := some_of_lt (l := m) (k := i) (by rw [ho.len]; exact hlt)
      obtain ⟨g, rfl, hgb, hgs, hcell, hfz⟩ := ho.at_ (by omega)
      have old0 := hcell i y 0 _ hy rfl
      have fz0 := hfz (i * 2 + 0)
      have old1 := hcell i y 1 _ hy rfl
      have fz1 := hfz (i * 2 + 1)
      simp only [Nat.add_zero] at old0 fz0
      have HY := Lib.hid hy
      have HO := Lib.hid ho
      clear hcell hfz h hy ho
      go_wp2
      go_roundw
      case rel =>
        refine ⟨i + 1, m.set i (markStrike k0 i), by omega, by go_num, by go_num, Lib.hid (upto_mark HM.out (by rw [HO.out.len]; exact hlt)), ?_, ?_⟩
        · have p0 := HO.out.put (j := 0) (x := (k0 + 2 * (i : Int), y.2)) (u := .int .i64 (k0 + 2 * (i : Int))) HY.out (by decide) rfl
          have p1 := p0.1.put (j := 1) (x := (k0 + 2 * (i : Int), k0 + 2 * (i : Int) + 1)) (u := .int .i64 (k0 + 2 * (i : Int) + 1)) (List.getElem?_set_self (by rw [HO.out.len]; exact hlt)) (by decide) rfl
          simp only [List.set_set] at p1
          exact p1.1
        · have p0 := HO.out.put (j := 0) (x := (k0 + 2 * (i : Int), y.2)) (u := .int .i64 (k0 + 2 * (i : Int))) HY.out (by decide) rfl
          have p1 := p0.1.put (j := 1) (x := (k0 + 2 * (i : Int), k0 + 2 * (i : Int) + 1)) (u := .int .i64 (k0 + 2 * (i : Int) + 1)) (List.getElem?_set_self (by rw [HO.out.len]; exact hlt)) (by decide) rfl
          simp only [List.set_set] at p1
          exact grownBy_trans (grownBy_trans hg p0.2) p1.2
      case measure => simp [intOf]; omega
    · go_wp2
      go_ret
      obtain rfl : i = n := by omega
      have e1 : m = (List.range i).map (markStrike k0) := marks_eq HM.out ho.len
      rw [e1] at ho
      exact ⟨rfl, ho, hg, (Below.refl _ _).grown hg hbase fun k hk => (h.blk hk).1⟩
set_option maxRecDepth 100000 in
theorem laws_heldStrikeS (A : Option Addr) (n c : Nat) (k0 : Int) (w : World) (h : Recs strikeE 2 w A ((List.range n).map (markStrike k0))) (hz : n ≤ 16777216) (hk0 : 0 ≤ k0 ∧ k0 ≤ 1099511627776) :
    Calls Try.prog 66 #[.slice A n c, .int .i64 k0] w fun e w' => e = .returned (.int .i64 (k0 + 2 * (n : Int))) ∧ w = w' := by
  go_in
  go_wp2
  go_loop [5, 1] (fun p q => ∃ i : Nat, i ≤ n ∧ p = .int .i64 i ∧ q = .int .i64 (k0 + 2 * (i : Int))) (fun p _ => n - (intOf p).toNat)
  case atStart => exact ⟨0, Nat.zero_le _, rfl, by simp⟩
  case round =>
    obtain ⟨i, hi, rfl, rfl⟩ := hrel
    by_cases hlt : i < n
    · have hx : ((List.range n).map (markStrike k0))[i]? = some (markStrike k0 i) := by simp [hlt]
      obtain ⟨b1, o1, rfl, hbb, hc0, hc1⟩ := h.at_2 hx
      simp only [markStrike] at hc0 hc1
      clear hx h
      go_wp2
      go_round
      case rel => exact ⟨i + 1, by omega, by go_num, by go_num⟩
      case measure => simp [intOf]; omega
    · go_wp2
      go_ret
      obtain rfl : i = n := by omega
      exact ⟨rfl, rfl⟩
end Go.Proofs.Ytpccbmndgdiloaa
/- The walks through the laws' comparisons of lists of strikes, texts and ints, where both are the same list. -/
namespace Go.Proofs.Ytpccbmndgdiloaa
set_option linter.unusedVariables false
set_option linter.unusedSimpArgs false
open Go.ChangeShapes Go.WideShapes Go.ChangeAt Go.RowKit Go.Deep
theorem laws_big3 (A B : Option Addr) (n m c d : Nat) (w : World) (hn : n ≤ 9223372036854775807) (hm : m ≤ 9223372036854775807) :
    Calls Try.prog 8 #[.slice A n c, .slice B m d] w fun e w' => e = .returned (.bool (!decide (n + m ≤ 1048576))) ∧ w = w' := by
  by_cases h1 : n ≤ 1048576
  · have hI : ¬ (1048576 : Int) < (n : Int) := by omega
    have hW : IntKind.i64.wrap (1048576 - (n : Int)) = 1048576 - (n : Int) := wrap_id (by omega)
    go_in
    go_wp2
    go_ret
    refine ⟨ret_bool ?_, rfl⟩
    by_cases h2 : n + m ≤ 1048576
    · simp [h2]; omega
    · simp [h2]; omega
  · have hI : (1048576 : Int) < (n : Int) := by omega
    go_in
    go_wp2
    go_ret
    refine ⟨ret_bool ?_, rfl⟩
    have h2 : ¬ n + m ≤ 1048576 := by omega
    simp [h2]
set_option maxRecDepth 100000 in
theorem laws_sameIntsB {A B : Option Addr} {n c d : Nat} {l : List Int} {w : World} (hn : l.length = n) (h : Ints w A l) (g : Ints w B l) (hz : n ≤ 16777216) :
    Calls Try.prog 45 #[.slice A n c, .slice B n d] w fun e w' => e = .returned (.bool true) ∧ Below w.heap.size w w' := by
  subst hn
  go_in
  go_wp2
  go_loopw [13] (fun i wr => ∃ k : Nat, k ≤ l.length ∧ i = .int .i64 k ∧ Below w.heap.size w wr) (fun i _ => l.length - (intOf i).toNat)
  case atStart => exact ⟨0, Nat.zero_le _, rfl, Below.refl _ _⟩
  case round =>
    obtain ⟨k, hk, rfl, hb⟩ := hrel
    by_cases hlt : k < l.length
    · obtain ⟨b1, o1, x, rfl, _, hx, hcx⟩ := (h.below hb (Nat.le_refl _)).at_int hlt
      obtain ⟨b2, o2, y, rfl, _, hy, hcy⟩ := (g.below hb (Nat.le_refl _)).at_int hlt
      rw [hx] at hy
      injection hy with hy
      subst hy
      clear hx h g
      go_wp2
      go_quiet (fail)
      go_wp2
      go_roundw
      case rel => exact ⟨k + 1, by omega, by go_num, below_drewN hb _⟩
      case measure => simp [intOf]; omega
    · go_wp2
      go_ret
      exact ⟨rfl, hb⟩
set_option maxRecDepth 100000 in
theorem laws_sameTextsB {A B : Option Addr} {n c d : Nat} {l : List ByteArray} {w : World} (hn : l.length = n) (h : Strs w A l) (g : Strs w B l) (hz : n ≤ 16777216) :
    Calls Try.prog 30 #[.slice A n c, .slice B n d] w fun e w' => e = .returned (.bool true) ∧ Below w.heap.size w w' := by
  subst hn
  go_in
  go_wp2
  go_loopw [13] (fun i wr => ∃ k : Nat, k ≤ l.length ∧ i = .int .i64 k ∧ Below w.heap.size w wr) (fun i _ => l.length - (intOf i).toNat)
  case atStart => exact ⟨0, Nat.zero_le _, rfl, Below.refl _ _⟩
  case round =>
    obtain ⟨k, hk, rfl, hb⟩ := hrel
    by_cases hlt : k < l.length
    · obtain ⟨b1, o1, x, rfl, _, hx, hcx⟩ := (h.below hb (Nat.le_refl _)).at_str hlt
      obtain ⟨b2, o2, y, rfl, _, hy, hcy⟩ := (g.below hb (Nat.le_refl _)).at_str hlt
      rw [hx] at hy
      injection hy with hy
      subst hy
      clear hx h g
      go_wp2
      go_quiet (fail)
      go_wp2
      go_roundw
      case rel => exact ⟨k + 1, by omega, by go_num, below_drewN hb _⟩
      case measure => simp [intOf]; omega
    · go_wp2
      go_ret
      exact ⟨rfl, hb⟩
end Go.Proofs.Ytpccbmndgdiloaa
/- The walk through FnEvens: for all bytes the law answers true. -/
namespace Go.Proofs.Ytpccbmndgdiloaa
set_option linter.unusedVariables false
set_option linter.unusedSimpArgs false
open Go.ChangeShapes Go.WideShapes Go.ChangeAt Go.RowKit Go.Deep
set_option maxRecDepth 100000 in
theorem laws_sameBoolsE {A B : Option Addr} {n c d : Nat} {l : List Bool} {w : World} (hn : l.length = n) (h : Bools w A l) (g : Bools w B l) (hz : n ≤ 16777216) :
    Calls Try.prog 20 #[.slice A n c, .slice B n d] w fun e w' => e = .returned (.bool true) ∧ Below w.heap.size w w' := by
  subst hn
  go_in
  go_wp2
  go_loopw [13] (fun i wr => ∃ k : Nat, k ≤ l.length ∧ i = .int .i64 k ∧ Below w.heap.size w wr) (fun i _ => l.length - (intOf i).toNat)
  case atStart => exact ⟨0, Nat.zero_le _, rfl, Below.refl _ _⟩
  case round =>
    obtain ⟨k, hk, rfl, hb⟩ := hrel
    by_cases hlt : k < l.length
    · obtain ⟨b1, o1, x, rfl, _, hx, hcx⟩ := (h.below hb (Nat.le_refl _)).at_bool hlt
      obtain ⟨b2, o2, y, rfl, _, hy, hcy⟩ := (g.below hb (Nat.le_refl _)).at_bool hlt
      rw [hx] at hy
      injection hy with hy
      subst hy
      have hxx : (x == x) = true := by simp
      clear hx h g
      go_wp2
      go_quiet (fail)
      go_wp2
      go_roundw
      case rel => exact ⟨k + 1, by omega, by go_num, by (repeat' (first | (with_reducible exact Below.refl _ _) | (with_reducible assumption) | (with_reducible refine below_drewN ?_ _) | (with_reducible refine Below.drew ?_) | (with_reducible refine below_alloc ?_ _) | (with_reducible refine Below.alloc ?_ ?_ _) | (with_reducible refine Below.setCell ?_ ?_ _) | (with_reducible refine below_go ?_ (by with_reducible assumption)) | (with_reducible refine below_then (by with_reducible assumption) ?_ ?_) | go_size))⟩
      case measure => simp [intOf]; omega
    · go_wp2
      go_ret
      exact ⟨rfl, hb⟩
theorem many_le (T : List Bool) (k : Nat) : (T.take k).countP id ≤ k := Nat.le_trans List.countP_le_length (List.length_take_le ..)
theorem many_succ {T : List Bool} {k : Nat} {y : Bool} (h : T[k]? = some y) : (T.take (k + 1)).countP id = (T.take k).countP id + (if y = true then 1 else 0) := by
  rw [take_succ_some h, List.countP_append]
  rcases y <;> rfl
set_option maxHeartbeats 4000000 in
set_option maxRecDepth 100000 in
theorem law_Evens (A0 : Option Addr) (c0 : Nat) (l0 : List Int) (A1 : Option Addr) (c1 : Nat) (l1 : List Int) (w : World) (h0 : Recs byteE 1 w A0 l0) (hm0 : l0.length ≤ 9223372036854775807) (hb0 : ∀ x ∈ l0, 0 ≤ x ∧ x ≤ 255)
    (h1 : Recs byteE 1 w A1 l1) (hm1 : l1.length ≤ 9223372036854775807) (hb1 : ∀ x ∈ l1, 0 ≤ x ∧ x ≤ 255) :
    Calls Try.prog 4 #[.slice A0 l0.length c0, .slice A1 l1.length c1] w fun e w' => e = .returned (.bool true) ∧ Below w.heap.size w w' := by
  by_cases hz : l0.length + l1.length ≤ 1048576
  · have S0 := Lib.hid (show Src w A0 l0.length from ⟨l0, rfl, by omega, hb0, h0⟩)
    have S1 := Lib.hid (show Src w A1 l1.length from ⟨l1, rfl, by omega, hb1, h1⟩)
    clear h0 h1 hb0 hb1
    go_in
    go_wp2_with fail
    refine (laws_big3 _ _ _ _ _ _ _ (by omega) (by omega)).mono ?_; rintro e w' ⟨rfl, rfl⟩
    go_wp2_with fail
    refine (draw_IsGroup S0.out).mono ?_; rintro e w1 ⟨A4, n4, c4, l4, rfl, e4, k4, z4, R4, hB1⟩
    have HL4 := Lib.hid e4
    have HW := hB1
    have HZ4 := Lib.hid z4
    clear e4 z4 hB1
    have HG := Lib.hid (fun (h1 : (incB l4 && goodRows l4) = true) (h2 : grpR l4 = true) => evens_group (Bool.and_eq_true_iff.1 h1).2 (Bool.and_eq_true_iff.1 h1).1 h2)
    obtain ⟨p, hp⟩ : ∃ u, u = (incB l4 && goodRows l4) := ⟨_, rfl⟩
    obtain ⟨q, hq⟩ : ∃ u, u = grpR l4 := ⟨_, rfl⟩
    rw [← hp, ← hq] at HG
    have GP := Lib.hid hp
    have GQ := Lib.hid hq
    clear hp hq
    go_wp2_with fail
    refine (impl_IsGroup HL4.out R4 (by omega) HZ4.out).mono ?_; rw [← GP.out, ← GQ.out]; rintro e w2 ⟨rfl, hb2⟩
    have R4 := R4.up hb2
    have HW := below_go HW hb2
    clear hb2
    go_wp2_with fail
    refine (spec_IsGroup HL4.out R4 (by omega) HZ4.out).mono ?_; rw [← GP.out, ← GQ.out]; rintro e w3 ⟨rfl, hb3⟩
    have R4 := R4.up hb3
    have HW := below_go HW hb3
    clear hb3
    rcases p
    · clear HG GP GQ R4 HZ4 HL4
      rw [Bool.false_and]
      go_wp2_with fail
      refine (draw_EvenOnes (S1.out.over HW)).mono ?_; rintro e w20 ⟨A20, m20, c20, L20, rfl, e20, k20, z20, R20, hb20⟩
      have HW := below_go HW hb20
      have HZ20 := Lib.hid z20
      subst e20
      clear hb20 z20
      have GM := Lib.hid (signs_many L20)
      obtain ⟨E, hE⟩ : ∃ u, u = evR L20 := ⟨_, rfl⟩
      obtain ⟨T, hT⟩ : ∃ u, u = signsR L20 := ⟨_, rfl⟩
      obtain ⟨g, hg⟩ : ∃ u, u = goodRows L20 := ⟨_, rfl⟩
      rw [← hE, ← hT] at GM
      have GE := Lib.hid hE
      have GT := Lib.hid hT
      have GG := Lib.hid hg
      clear hE hT hg
      go_wp2_with fail
      refine (impl_EvenOnes rfl R20 (by omega) HZ20.out).mono ?_; rw [← GE.out, ← GG.out]; rintro e w21 ⟨A21, c21, rfl, o21, z21, hb21⟩
      have R20 := R20.up hb21
      have HW := below_go HW hb21
      have R21 := o21.recs
      clear hb21 o21
      go_wp2_with fail
      refine (spec_EvenOnes rfl R20 (by omega) HZ20.out).mono ?_; rw [← GE.out, ← GG.out]; rintro e w22 ⟨A22, c22, rfl, o22, _, hb22⟩
      have R20 := R20.up hb22
      have R21 := R21.up hb22
      have HW := below_go HW hb22
      have R22 := o22.recs
      clear hb22 o22
      go_wp2_with fail
      refine (impl_SignsOf rfl R20 (by omega) HZ20.out).mono ?_; rw [← GT.out, ← GG.out]; rintro e w23 ⟨A23, c23, rfl, o23, z23, hb23⟩
      have R20 := R20.up hb23
      have R21 := R21.up hb23
      have R22 := R22.up hb23
      have HW := below_go HW hb23
      have R23 := o23.recs
      clear hb23 o23
      go_wp2_with fail
      refine (spec_SignsOf rfl R20 (by omega) HZ20.out).mono ?_; rw [← GT.out, ← GG.out]; rintro e w24 ⟨A24, c24, rfl, o24, _, hb24⟩
      have R21 := R21.up hb24
      have R22 := R22.up hb24
      have R23 := R23.up hb24
      have HW := below_go HW hb24
      have R24 := o24.recs
      clear hb24 o24 R20 HZ20 GE GT GG
      go_wp2_with fail
      refine (laws_sameTextsB rfl R21 R22 (by omega)).mono ?_; rintro e w25 ⟨rfl, hb25⟩
      have R23 := R23.up hb25
      have R24 := R24.up hb25
      have HW := below_go HW hb25
      clear hb25 R21 R22
      go_wp2_with fail
      refine (laws_sameBoolsE rfl R23 R24 z23).mono ?_; rintro e w26 ⟨rfl, hb26⟩
      have R23 := R23.up hb26
      have HR23 := Lib.hid R23
      have HWW := Lib.hid (below_go HW hb26)
      clear hb26 R24 R23 HW
      go_wp2
      go_loopw [23, 130] (fun v i wr => ∃ k : Nat, k ≤ T.length ∧ v = .int .i64 (((T.take k).countP id : Nat) : Int) ∧ i = .int .i64 k ∧ w26 = wr) (fun _ i _ => T.length - (intOf i).toNat)
      case atStart => exact ⟨0, Nat.zero_le _, rfl, rfl, rfl⟩
      case round =>
        obtain ⟨k, hk, rfl, rfl, rfl⟩ := hrel
        have hC := many_le T k
        obtain ⟨C, hCC⟩ : ∃ u, u = (T.take k).countP id := ⟨_, rfl⟩
        rw [← hCC] at hC ⊢
        have HCC := Lib.hid hCC
        clear hCC
        by_cases hlt : k < T.length
        · have hI : (k : Int) < (T.length : Int) := by omega
          obtain ⟨b, o, y, hA, _, hy, hcy⟩ := HR23.out.at_bool hlt
          subst hA
          have HN := Lib.hid (many_succ hy)
          clear hy
          rcases y
          · go_wp2
            go_roundw
            case rel => exact ⟨k + 1, by omega, by rw [HN.out, ← HCC.out]; rfl, by go_num, trivial⟩
            case measure => simp [intOf]; omega
          · go_wp2
            go_roundw
            case rel => exact ⟨k + 1, by omega, by rw [HN.out, ← HCC.out]; go_num, by go_num, trivial⟩
            case measure => simp [intOf]; omega
        · have hI : ¬ (k : Int) < (T.length : Int) := by omega
          have hCE : (C : Int) = (E.length : Int) := by
            have h1 := GM.out
            rw [← h1, HCC.out, List.take_of_length_le (by omega)]
          go_wp2
          go_ret
          exact ⟨ret_bool (by simp [hCE]), HWW.out⟩
    rcases q
    · clear HG GP GQ R4 HZ4 HL4
      rw [Bool.and_false]
      go_wp2_with fail
      refine (draw_EvenOnes (S1.out.over HW)).mono ?_; rintro e w20 ⟨A20, m20, c20, L20, rfl, e20, k20, z20, R20, hb20⟩
      have HW := below_go HW hb20
      have HZ20 := Lib.hid z20
      subst e20
      clear hb20 z20
      have GM := Lib.hid (signs_many L20)
      obtain ⟨E, hE⟩ : ∃ u, u = evR L20 := ⟨_, rfl⟩
      obtain ⟨T, hT⟩ : ∃ u, u = signsR L20 := ⟨_, rfl⟩
      obtain ⟨g, hg⟩ : ∃ u, u = goodRows L20 := ⟨_, rfl⟩
      rw [← hE, ← hT] at GM
      have GE := Lib.hid hE
      have GT := Lib.hid hT
      have GG := Lib.hid hg
      clear hE hT hg
      go_wp2_with fail
      refine (impl_EvenOnes rfl R20 (by omega) HZ20.out).mono ?_; rw [← GE.out, ← GG.out]; rintro e w21 ⟨A21, c21, rfl, o21, z21, hb21⟩
      have R20 := R20.up hb21
      have HW := below_go HW hb21
      have R21 := o21.recs
      clear hb21 o21
      go_wp2_with fail
      refine (spec_EvenOnes rfl R20 (by omega) HZ20.out).mono ?_; rw [← GE.out, ← GG.out]; rintro e w22 ⟨A22, c22, rfl, o22, _, hb22⟩
      have R20 := R20.up hb22
      have R21 := R21.up hb22
      have HW := below_go HW hb22
      have R22 := o22.recs
      clear hb22 o22
      go_wp2_with fail
      refine (impl_SignsOf rfl R20 (by omega) HZ20.out).mono ?_; rw [← GT.out, ← GG.out]; rintro e w23 ⟨A23, c23, rfl, o23, z23, hb23⟩
      have R20 := R20.up hb23
      have R21 := R21.up hb23
      have R22 := R22.up hb23
      have HW := below_go HW hb23
      have R23 := o23.recs
      clear hb23 o23
      go_wp2_with fail
      refine (spec_SignsOf rfl R20 (by omega) HZ20.out).mono ?_; rw [← GT.out, ← GG.out]; rintro e w24 ⟨A24, c24, rfl, o24, _, hb24⟩
      have R21 := R21.up hb24
      have R22 := R22.up hb24
      have R23 := R23.up hb24
      have HW := below_go HW hb24
      have R24 := o24.recs
      clear hb24 o24 R20 HZ20 GE GT GG
      go_wp2_with fail
      refine (laws_sameTextsB rfl R21 R22 (by omega)).mono ?_; rintro e w25 ⟨rfl, hb25⟩
      have R23 := R23.up hb25
      have R24 := R24.up hb25
      have HW := below_go HW hb25
      clear hb25 R21 R22
      go_wp2_with fail
      refine (laws_sameBoolsE rfl R23 R24 z23).mono ?_; rintro e w26 ⟨rfl, hb26⟩
      have R23 := R23.up hb26
      have HR23 := Lib.hid R23
      have HWW := Lib.hid (below_go HW hb26)
      clear hb26 R24 R23 HW
      go_wp2
      go_loopw [23, 130] (fun v i wr => ∃ k : Nat, k ≤ T.length ∧ v = .int .i64 (((T.take k).countP id : Nat) : Int) ∧ i = .int .i64 k ∧ w26 = wr) (fun _ i _ => T.length - (intOf i).toNat)
      case atStart => exact ⟨0, Nat.zero_le _, rfl, rfl, rfl⟩
      case round =>
        obtain ⟨k, hk, rfl, rfl, rfl⟩ := hrel
        have hC := many_le T k
        obtain ⟨C, hCC⟩ : ∃ u, u = (T.take k).countP id := ⟨_, rfl⟩
        rw [← hCC] at hC ⊢
        have HCC := Lib.hid hCC
        clear hCC
        by_cases hlt : k < T.length
        · have hI : (k : Int) < (T.length : Int) := by omega
          obtain ⟨b, o, y, hA, _, hy, hcy⟩ := HR23.out.at_bool hlt
          subst hA
          have HN := Lib.hid (many_succ hy)
          clear hy
          rcases y
          · go_wp2
            go_roundw
            case rel => exact ⟨k + 1, by omega, by rw [HN.out, ← HCC.out]; rfl, by go_num, trivial⟩
            case measure => simp [intOf]; omega
          · go_wp2
            go_roundw
            case rel => exact ⟨k + 1, by omega, by rw [HN.out, ← HCC.out]; go_num, by go_num, trivial⟩
            case measure => simp [intOf]; omega
        · have hI : ¬ (k : Int) < (T.length : Int) := by omega
          have hCE : (C : Int) = (E.length : Int) := by
            have h1 := GM.out
            rw [← h1, HCC.out, List.take_of_length_le (by omega)]
          go_wp2
          go_ret
          exact ⟨ret_bool (by simp [hCE]), HWW.out⟩
    · rw [Bool.true_and]
      obtain ⟨hlen, hg1, hi1, hr1⟩ := HG.out rfl rfl
      have hg4 := (Bool.and_eq_true_iff.1 GP.out.symm).2
      have hev := evR_t hg4
      rw [← hev] at hlen hg1 hi1 hr1
      have HZ5 : Hid (∀ s ∈ evR l4, s.size ≤ 16777216) := Lib.hid (fun s hs => by rw [hev] at hs; exact HZ4.out s (List.mem_filter.1 hs).1)
      have GV := Lib.hid hg4
      have GI := Lib.hid (show (incB (evR l4) && goodRows (evR l4)) = true by rw [hg1, hi1]; rfl)
      have GR := Lib.hid hr1
      rw [HL4.out] at hlen
      have HLEN := Lib.hid hlen
      obtain ⟨V, hV⟩ : ∃ u, u = evR l4 := ⟨_, rfl⟩
      have HV := Lib.hid hV
      rw [← hV] at HZ5 GI GR HLEN
      clear HG GP GQ hlen hg1 hi1 hr1 hg4 hev hV
      go_wp2_with fail
      refine (impl_EvenOnes HL4.out R4 (by omega) HZ4.out).mono ?_; rw [GV.out, ← HV.out]; rintro e w5 ⟨A5, c5, rfl, o5, z5, hb5⟩
      have HW := below_go HW hb5
      have R5 := o5.recs
      clear hb5 o5 R4 HZ4 HL4 GV HV
      by_cases hvn : V.length = n4
      · subst hvn
        go_wp2_with fail
        refine (impl_IsGroup rfl R5 (by omega) HZ5.out).mono ?_; rw [GI.out, GR.out]; rintro e w6 ⟨rfl, hb6⟩
        have HW := below_go HW hb6
        clear hb6 R5 HZ5 GI GR HLEN
        go_wp2_with fail
        refine (draw_EvenOnes (S1.out.over HW)).mono ?_; rintro e w20 ⟨A20, m20, c20, L20, rfl, e20, k20, z20, R20, hb20⟩
        have HW := below_go HW hb20
        have HZ20 := Lib.hid z20
        subst e20
        clear hb20 z20
        have GM := Lib.hid (signs_many L20)
        obtain ⟨E, hE⟩ : ∃ u, u = evR L20 := ⟨_, rfl⟩
        obtain ⟨T, hT⟩ : ∃ u, u = signsR L20 := ⟨_, rfl⟩
        obtain ⟨g, hg⟩ : ∃ u, u = goodRows L20 := ⟨_, rfl⟩
        rw [← hE, ← hT] at GM
        have GE := Lib.hid hE
        have GT := Lib.hid hT
        have GG := Lib.hid hg
        clear hE hT hg
        go_wp2_with fail
        refine (impl_EvenOnes rfl R20 (by omega) HZ20.out).mono ?_; rw [← GE.out, ← GG.out]; rintro e w21 ⟨A21, c21, rfl, o21, z21, hb21⟩
        have R20 := R20.up hb21
        have HW := below_go HW hb21
        have R21 := o21.recs
        clear hb21 o21
        go_wp2_with fail
        refine (spec_EvenOnes rfl R20 (by omega) HZ20.out).mono ?_; rw [← GE.out, ← GG.out]; rintro e w22 ⟨A22, c22, rfl, o22, _, hb22⟩
        have R20 := R20.up hb22
        have R21 := R21.up hb22
        have HW := below_go HW hb22
        have R22 := o22.recs
        clear hb22 o22
        go_wp2_with fail
        refine (impl_SignsOf rfl R20 (by omega) HZ20.out).mono ?_; rw [← GT.out, ← GG.out]; rintro e w23 ⟨A23, c23, rfl, o23, z23, hb23⟩
        have R20 := R20.up hb23
        have R21 := R21.up hb23
        have R22 := R22.up hb23
        have HW := below_go HW hb23
        have R23 := o23.recs
        clear hb23 o23
        go_wp2_with fail
        refine (spec_SignsOf rfl R20 (by omega) HZ20.out).mono ?_; rw [← GT.out, ← GG.out]; rintro e w24 ⟨A24, c24, rfl, o24, _, hb24⟩
        have R21 := R21.up hb24
        have R22 := R22.up hb24
        have R23 := R23.up hb24
        have HW := below_go HW hb24
        have R24 := o24.recs
        clear hb24 o24 R20 HZ20 GE GT GG
        go_wp2_with fail
        refine (laws_sameTextsB rfl R21 R22 (by omega)).mono ?_; rintro e w25 ⟨rfl, hb25⟩
        have R23 := R23.up hb25
        have R24 := R24.up hb25
        have HW := below_go HW hb25
        clear hb25 R21 R22
        go_wp2_with fail
        refine (laws_sameBoolsE rfl R23 R24 z23).mono ?_; rintro e w26 ⟨rfl, hb26⟩
        have R23 := R23.up hb26
        have HR23 := Lib.hid R23
        have HWW := Lib.hid (below_go HW hb26)
        clear hb26 R24 R23 HW
        go_wp2
        go_loopw [23, 130] (fun v i wr => ∃ k : Nat, k ≤ T.length ∧ v = .int .i64 (((T.take k).countP id : Nat) : Int) ∧ i = .int .i64 k ∧ w26 = wr) (fun _ i _ => T.length - (intOf i).toNat)
        case atStart => exact ⟨0, Nat.zero_le _, rfl, rfl, rfl⟩
        case round =>
          obtain ⟨k, hk, rfl, rfl, rfl⟩ := hrel
          have hC := many_le T k
          obtain ⟨C, hCC⟩ : ∃ u, u = (T.take k).countP id := ⟨_, rfl⟩
          rw [← hCC] at hC ⊢
          have HCC := Lib.hid hCC
          clear hCC
          by_cases hlt : k < T.length
          · have hI : (k : Int) < (T.length : Int) := by omega
            obtain ⟨b, o, y, hA, _, hy, hcy⟩ := HR23.out.at_bool hlt
            subst hA
            have HN := Lib.hid (many_succ hy)
            clear hy
            rcases y
            · go_wp2
              go_roundw
              case rel => exact ⟨k + 1, by omega, by rw [HN.out, ← HCC.out]; rfl, by go_num, trivial⟩
              case measure => simp [intOf]; omega
            · go_wp2
              go_roundw
              case rel => exact ⟨k + 1, by omega, by rw [HN.out, ← HCC.out]; go_num, by go_num, trivial⟩
              case measure => simp [intOf]; omega
          · have hI : ¬ (k : Int) < (T.length : Int) := by omega
            have hCE : (C : Int) = (E.length : Int) := by
              have h1 := GM.out
              rw [← h1, HCC.out, List.take_of_length_le (by omega)]
            go_wp2
            go_ret
            exact ⟨ret_bool (by simp [hCE]), HWW.out⟩
      · have GW : IntKind.i64.wrap (2 * (V.length : Int)) = (n4 : Int) := by have := HLEN.out; rw [PlainAid.i64_is]; unfold wrap64; omega
        have hne : ((V.length : Int) != (n4 : Int)) = true := bne_iff_ne.2 (by omega)
        have hne2 : ((V.length : Int) == (n4 : Int)) = false := beq_false_of_ne (by omega)
        clear hvn
        go_wp2_with fail
        refine (impl_IsGroup rfl R5 (by omega) HZ5.out).mono ?_; rw [GI.out, GR.out]; rintro e w6 ⟨rfl, hb6⟩
        have HW := below_go HW hb6
        clear hb6 R5 HZ5 GI GR HLEN GW hne hne2
        go_wp2_with fail
        refine (draw_EvenOnes (S1.out.over HW)).mono ?_; rintro e w20 ⟨A20, m20, c20, L20, rfl, e20, k20, z20, R20, hb20⟩
        have HW := below_go HW hb20
        have HZ20 := Lib.hid z20
        subst e20
        clear hb20 z20
        have GM := Lib.hid (signs_many L20)
        obtain ⟨E, hE⟩ : ∃ u, u = evR L20 := ⟨_, rfl⟩
        obtain ⟨T, hT⟩ : ∃ u, u = signsR L20 := ⟨_, rfl⟩
        obtain ⟨g, hg⟩ : ∃ u, u = goodRows L20 := ⟨_, rfl⟩
        rw [← hE, ← hT] at GM
        have GE := Lib.hid hE
        have GT := Lib.hid hT
        have GG := Lib.hid hg
        clear hE hT hg
        go_wp2_with fail
        refine (impl_EvenOnes rfl R20 (by omega) HZ20.out).mono ?_; rw [← GE.out, ← GG.out]; rintro e w21 ⟨A21, c21, rfl, o21, z21, hb21⟩
        have R20 := R20.up hb21
        have HW := below_go HW hb21
        have R21 := o21.recs
        clear hb21 o21
        go_wp2_with fail
        refine (spec_EvenOnes rfl R20 (by omega) HZ20.out).mono ?_; rw [← GE.out, ← GG.out]; rintro e w22 ⟨A22, c22, rfl, o22, _, hb22⟩
        have R20 := R20.up hb22
        have R21 := R21.up hb22
        have HW := below_go HW hb22
        have R22 := o22.recs
        clear hb22 o22
        go_wp2_with fail
        refine (impl_SignsOf rfl R20 (by omega) HZ20.out).mono ?_; rw [← GT.out, ← GG.out]; rintro e w23 ⟨A23, c23, rfl, o23, z23, hb23⟩
        have R20 := R20.up hb23
        have R21 := R21.up hb23
        have R22 := R22.up hb23
        have HW := below_go HW hb23
        have R23 := o23.recs
        clear hb23 o23
        go_wp2_with fail
        refine (spec_SignsOf rfl R20 (by omega) HZ20.out).mono ?_; rw [← GT.out, ← GG.out]; rintro e w24 ⟨A24, c24, rfl, o24, _, hb24⟩
        have R21 := R21.up hb24
        have R22 := R22.up hb24
        have R23 := R23.up hb24
        have HW := below_go HW hb24
        have R24 := o24.recs
        clear hb24 o24 R20 HZ20 GE GT GG
        go_wp2_with fail
        refine (laws_sameTextsB rfl R21 R22 (by omega)).mono ?_; rintro e w25 ⟨rfl, hb25⟩
        have R23 := R23.up hb25
        have R24 := R24.up hb25
        have HW := below_go HW hb25
        clear hb25 R21 R22
        go_wp2_with fail
        refine (laws_sameBoolsE rfl R23 R24 z23).mono ?_; rintro e w26 ⟨rfl, hb26⟩
        have R23 := R23.up hb26
        have HR23 := Lib.hid R23
        have HWW := Lib.hid (below_go HW hb26)
        clear hb26 R24 R23 HW
        go_wp2
        go_loopw [23, 130] (fun v i wr => ∃ k : Nat, k ≤ T.length ∧ v = .int .i64 (((T.take k).countP id : Nat) : Int) ∧ i = .int .i64 k ∧ w26 = wr) (fun _ i _ => T.length - (intOf i).toNat)
        case atStart => exact ⟨0, Nat.zero_le _, rfl, rfl, rfl⟩
        case round =>
          obtain ⟨k, hk, rfl, rfl, rfl⟩ := hrel
          have hC := many_le T k
          obtain ⟨C, hCC⟩ : ∃ u, u = (T.take k).countP id := ⟨_, rfl⟩
          rw [← hCC] at hC ⊢
          have HCC := Lib.hid hCC
          clear hCC
          by_cases hlt : k < T.length
          · have hI : (k : Int) < (T.length : Int) := by omega
            obtain ⟨b, o, y, hA, _, hy, hcy⟩ := HR23.out.at_bool hlt
            subst hA
            have HN := Lib.hid (many_succ hy)
            clear hy
            rcases y
            · go_wp2
              go_roundw
              case rel => exact ⟨k + 1, by omega, by rw [HN.out, ← HCC.out]; rfl, by go_num, trivial⟩
              case measure => simp [intOf]; omega
            · go_wp2
              go_roundw
              case rel => exact ⟨k + 1, by omega, by rw [HN.out, ← HCC.out]; go_num, by go_num, trivial⟩
              case measure => simp [intOf]; omega
          · have hI : ¬ (k : Int) < (T.length : Int) := by omega
            have hCE : (C : Int) = (E.length : Int) := by
              have h1 := GM.out
              rw [← h1, HCC.out, List.take_of_length_le (by omega)]
            go_wp2
            go_ret
            exact ⟨ret_bool (by simp [hCE]), HWW.out⟩
  · go_in
    go_wp2_with fail
    refine (laws_big3 _ _ _ _ _ _ _ (by omega) (by omega)).mono ?_; rintro e w' ⟨rfl, rfl⟩
    go_wp2
    go_ret
    exact ⟨rfl, Below.refl _ _⟩
end Go.Proofs.Ytpccbmndgdiloaa
