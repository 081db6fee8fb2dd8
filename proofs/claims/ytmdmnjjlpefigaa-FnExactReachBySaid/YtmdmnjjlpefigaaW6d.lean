/- The walk through closures, the reference's side. -/
import Derived.Test.YtmdmnjjlpefigaaW6c
import Derived.Test.YtmdmnjjlpefigaaW6p
namespace Go.Proofs.Ytmdmnjjlpefigaa
set_option linter.unusedVariables false
set_option linter.unusedSimpArgs false
open Go.ChangeShapes Go.WideShapes Go.ChangeAt Go.RowKit Go.Deep
set_option maxHeartbeats 1000000 in
set_option maxRecDepth 100000 in
theorem spec_l6Close {A : Option Addr} {N c n : Nat} {gs : List ByteArray} {w : World} (hN : gs.length = N) (h : Strs w A gs) (h0 : 0 < N) (hz : N ≤ 16777216) (h3 : 3 ≤ n) (h8 : n ≤ 8) (hg : ∀ g ∈ gs, RowN n g) :
    Calls Try.prog 76 #[.slice A N c] w fun e w' => ∃ A' m' c', e = .returned (.tuple #[.slice A' m' c', .bool (decide ((clF n gs).length ≤ 800))]) ∧ ((clF n gs).length ≤ 800 → m' = (clF n gs).length ∧ ∃ L, Owned strE 1 9 w' w.heap.size A' m' c' L ∧ L.Perm (clF n gs) ∧ Srt L) ∧ (¬ (clF n gs).length ≤ 800 → A' = none ∧ m' = 0 ∧ c' = 0) ∧ Below w.heap.size w w' := by
  subst hN
  have HG := Lib.hid hg
  have hr := rowN_rounds h3 h8
  have h40 : fact n ≤ 40320 := fact_le8 h8
  have HOK := Lib.hid (fun k => clAt_ok hr hg k)
  have HEND := Lib.hid (fun k (hk : (clAt gs (roundsS n) k).length = k) => clF_end h3 h8 hg hk)
  have HPRE := Lib.hid (fun k => pre_len (clF_pre h3 h8 hg k))
  have HLE := Lib.hid (fun k => (clAt_ok hr hg k).le)
  obtain ⟨b1, o1, g0, rfl, hbb, hg0, hcg0⟩ := h.at_str (k := 0) h0
  have hg0s := (hg g0 (List.mem_of_getElem? hg0)).2
  have hpl := rowN_place hr
  have hrs := hr.2
  obtain ⟨r0, hr0⟩ : ∃ r, r = roundsS n := ⟨_, rfl⟩
  obtain ⟨p0, hp0⟩ : ∃ p, p = place r0 := ⟨_, rfl⟩
  rw [← hr0] at hr HOK hpl hrs
  rw [← hp0] at hpl
  have HR0 := Lib.hid hr0
  have HP0 := Lib.hid hp0
  have HEND : Hid (∀ k, (clAt gs r0 k).length = k → clF n gs = clAt gs r0 k) := Lib.hid (by rw [hr0]; exact HEND.out)
  have HPRE : Hid (∀ k, (clAt gs r0 k).length ≤ (clF n gs).length) := Lib.hid (by rw [hr0]; exact HPRE.out)
  have HLE : Hid (∀ k, (clAt gs r0 k).length ≤ fact n) := Lib.hid (by rw [hr0]; exact HLE.out)
  have HF := Lib.hid (clAt_first (gs := gs) (r := r0))
  clear hg hg0 hr0 hp0
  simp only [Nat.add_zero] at hcg0
  go_in
  go_wp2_with fail
  refine (spec_l1Rounds h8).mono ?_; rw [← HR0.out]; rintro e w' ⟨rfl, rfl⟩
  go_wp2_with fail
  refine (spec_l6Seen h8).mono ?_; rintro e w1 ⟨gm, rfl, hom, hb1⟩
  have hmk0 := Lib.hid (MarkR.none n)
  obtain ⟨hgl, hgh⟩ := hom.at_own
  have HOM := Lib.hid hom
  clear hom hcg0
  go_wp2_with fail
  refine (spec_l1Place (by rw [hrs]; exact h8)).mono ?_; rw [← HP0.out]; rintro e w2 ⟨rfl, hb2⟩
  have HOM2 := Lib.hid (HOM.out.up hb2)
  have hold := hmk0.out.2 r0 hr
  rw [← HP0.out] at hold
  obtain ⟨HM3, hg3⟩ := HOM2.out.put (k := p0) (j := 0) (x := true) (u := .bool true) hold (by decide) rfl
  obtain ⟨g', e, _, _, gc, gf⟩ := HOM2.out.at_ (fact_pos n)
  injection e with e
  injection e with e
  subst e
  have c1 := gc p0 _ 0 _ hold rfl
  have f1 := gf p0
  simp only [Nat.mul_one, Nat.add_zero] at HM3 hg3 c1
  have hb3 : Below w.heap.size w (w2.setCell ⟨gm, p0, none⟩ (.bool true)) := (below_go hb1 hb2).grown hg3 (below_go hb1 hb2).size (fun k hk => by injection hk with hk; omega)
  have HM3 := Lib.hid HM3
  have HK3 := Lib.hid (show MarkR n (clAt gs r0 0) ((List.replicate (fact n) false).set p0 true) from by rw [HP0.out]; exact hmk0.out.add hr)
  have HB3 := Lib.hid hb3
  have hs2 := hb2.size
  clear hold gc gf hg3 hb3 HOM HOM2
  clear hg0s
  go_wp2_with fail
  have HO3 := Lib.hid (own_lit1_at' strE_len (w2.setCell ⟨gm, p0, none⟩ (.bool true)) 9 r0 (b := w2.heap.size) (base := w1.heap.size) (by simp) (by simpa using hs2))
  have HRS := Lib.hid hrs
  clear hrs
  go_loopw [6, 7] (fun v i wr => ∃ (k : Nat) (A' : Option Addr) (c' : Nat) (m : List Bool), k ≤ (clAt gs r0 k).length ∧ (clAt gs r0 k).length ≤ 800 ∧ i = .int .i64 k ∧ v = .slice A' (clAt gs r0 k).length c' ∧ Hid (MarkR n (clAt gs r0 k) m) ∧ Hid (Owned boolE 1 4 wr w.heap.size (some ⟨gm, 0, none⟩) (fact n) (fact n) m) ∧ Hid (Owned strE 1 9 wr w1.heap.size A' (clAt gs r0 k).length c' (clAt gs r0 k)) ∧ Below w.heap.size w wr) (fun _ i _ => fact n - (intOf i).toNat)
  case atStart => exact ⟨0, some ⟨w2.heap.size, 0, none⟩, 1, _, Nat.zero_le _, (by show 1 ≤ 800; decide), rfl, rfl, HK3, Lib.hid (HM3.out.alloc _), HO3, by have := HB3.out; (repeat' (first | (with_reducible exact Below.refl _ _) | (with_reducible assumption) | (with_reducible refine below_drewN ?_ _) | (with_reducible refine Below.drew ?_) | (with_reducible refine below_alloc ?_ _) | (with_reducible refine Below.alloc ?_ ?_ _) | (with_reducible refine Below.setCell ?_ ?_ _) | (with_reducible refine below_go ?_ (by with_reducible assumption)) | (with_reducible refine below_then (by with_reducible assumption) ?_ ?_) | go_size))⟩
  case round =>
    clear HK3 HM3 HO3 HB3
    obtain ⟨k, A1, c1, m, hk, hk8, rfl, rfl, HMK, HM, HO, hb⟩ := hrel
    rename World => w4
    have hle := HLE.out k
    have hle1 := HLE.out (k + 1)
    by_cases hlt : k < (clAt gs r0 k).length
    · obtain ⟨x, hx⟩ := some_of_lt hlt
      have HX := Lib.hid hx
      have hxN := (HOK.out k).2 x (List.mem_of_getElem? hx)
      have HNX := Lib.hid (clAt_more (gs := gs) (r := r0) hx)
      have HPO := Lib.hid (fun j => (HOK.out k).part hxN HG.out j)
      clear hx
      go_wp2
      go_loopw [6, 33] (fun v i wr => ∃ (j : Nat) (A' : Option Addr) (c' : Nat) (m : List Bool), j ≤ gs.length ∧ i = .int .i64 j ∧ v = .slice A' (clPart gs x j (clAt gs r0 k)).length c' ∧ Hid (MarkR n (clPart gs x j (clAt gs r0 k)) m) ∧ Hid (Owned boolE 1 4 wr w.heap.size (some ⟨gm, 0, none⟩) (fact n) (fact n) m) ∧ Hid (Owned strE 1 9 wr w1.heap.size A' (clPart gs x j (clAt gs r0 k)).length c' (clPart gs x j (clAt gs r0 k))) ∧ Below w.heap.size w wr) (fun _ i _ => gs.length - (intOf i).toNat)
      case atStart => exact ⟨0, A1, c1, m, Nat.zero_le _, rfl, rfl, HMK, HM, HO, hb⟩
      case round =>
        clear HMK HM HO hb
        obtain ⟨j, A1, c1, m, hj, rfl, rfl, HMK, HM, HO, hb⟩ := hrel
        rename World => w5
        have hlen := (HPO.out j).le
        have hpl := pre_len (clPart_pre gs x j (clAt gs r0 k))
        by_cases hjl : j < gs.length
        · obtain ⟨b3, o3, g, e, _, hgj, hcg0⟩ := h.at_str hjl
          injection e with e
          injection e with e1 e2
          subst e1 e2
          have hcg := (hb.cell (p := ⟨b1, o1 + j, none⟩) hbb).trans hcg0
          obtain ⟨b2, rfl, hb2lo, hb2hi, gc, _⟩ := HO.out.at_ (by omega)
          have hcx := gc k x 0 _ (pre_at (clPart_pre gs x j (clAt gs r0 k)) HX.out) rfl
          simp only [Nat.mul_one, Nat.add_zero] at hcx
          have hgN := HG.out g (List.mem_of_getElem? hgj)
          have hft := rowN_fits hxN hgN
          have hxs : x.size ≤ 16777216 := by rw [hxN.2]; omega
          have hgz : g.size ≤ 16777216 := by rw [hgN.2]; omega
          have hrN := hxN.times hgN
          have HS := Lib.hid (clPart_succ (x := x) (clAt gs r0 k) hgj)
          obtain ⟨r, hr'⟩ : ∃ r, r = timesS x g := ⟨_, rfl⟩
          have HRD := Lib.hid hr'
          rw [← hr'] at hrN
          have hrz : r.size ≤ 8 := by rw [hrN.2]; exact h8
          obtain ⟨p, hp⟩ : ∃ p, p = place r := ⟨_, rfl⟩
          have HP := Lib.hid hp
          have hpF : p < fact n := by rw [hp]; exact rowN_place hrN
          have HRN := Lib.hid hrN
          have hcm := HMK.out.at_ hrN
          rw [← hp] at hcm
          have HCM := Lib.hid hcm
          clear gc hgj hcg0 hr' hp hcm hrN
          go_wp2_with fail
          refine (spec_l1Times hxs hgz hft).mono ?_; rw [← HRD.out]; rintro e w' ⟨rfl, rfl⟩
          clear hcx hcg hft
          go_wp2_with fail
          refine (spec_l1Place hrz).mono ?_; rw [← HP.out]; rintro e w6 ⟨rfl, hb6⟩
          have hB6 := below_go hb hb6
          have HM6 := Lib.hid (HM.out.up hb6)
          have HO6 := Lib.hid (HO.out.up hb6)
          obtain ⟨g', e, _, _, gc, gf⟩ := HM6.out.at_ (fact_pos n)
          injection e with e
          injection e with e
          subst e
          have cm := gc p _ 0 _ HCM.out rfl
          simp only [Nat.mul_one, Nat.add_zero] at cm
          have hs6 := hb6.size
          clear gc gf
          rcases hin : inL (clPart gs x j (clAt gs r0 k)) r
          · rw [hin] at cm
            have e1 := Lib.hid (show clPart gs x (j + 1) (clAt gs r0 k) = (clPart gs x j (clAt gs r0 k)) ++ [r] by rw [HS.out, clAdd_new (by rw [← HRD.out]; intro q; rw [inL_iff.2 q] at hin; cases hin), ← HRD.out])
            have el : ((clPart gs x j (clAt gs r0 k)) ++ [r]).length = (clPart gs x j (clAt gs r0 k)).length + 1 := by simp
            have EL := Lib.hid el
            clear hin el
            go_wp2_with fail
            refine (spec_l1Place hrz).mono ?_; rw [← HP.out]; rintro e w7 ⟨rfl, hb7⟩
            clear cm
            have hB7 := below_go hB6 hb7
            have HM7 := Lib.hid (HM6.out.up hb7)
            have HO7 := Lib.hid (HO6.out.up hb7)
            have hs7 := hb7.size
            obtain ⟨HM8, hg8⟩ := HM7.out.put (k := p) (j := 0) (x := true) (u := .bool true) HCM.out (by decide) rfl
            obtain ⟨g', e, _, _, gc, gf⟩ := HM7.out.at_ (fact_pos n)
            injection e with e
            injection e with e
            subst e
            have c2 := gc p _ 0 _ HCM.out rfl
            have f2 := gf p
            simp only [Nat.mul_one, Nat.add_zero] at HM8 hg8 c2
            have hB8 : Below w.heap.size w (w7.setCell ⟨gm, p, none⟩ (.bool true)) := hB7.grown hg8 hB7.size (fun k hk => by injection hk with hk; omega)
            have HB8 := Lib.hid hB8
            have HO8 := Lib.hid (HO7.out.past hg8 hgh)
            have HM8 := Lib.hid HM8
            have hno : b2 ≠ gm := by omega
            clear gc gf hg8 hB8
            go_wp2_with (first | (at_builtin; go_must ((refine wpList_append_recs Try.elStr strE_one rfl (.tmp 53) (.tmp 55) rfl rfl (HO8.out.alloc _) rfl (own_lit1_at' strE_len (w7.setCell ⟨gm, p, none⟩ (.bool true)) 9 r (by simp) (Nat.le_refl _)).recs rfl ?_ (by decide) ?_ ?_; (focus (first | omega | (simp only [World.size_alloc]; done) | (simp only [World.size_alloc]; omega) | (simp; done) | (simp; omega))); (focus (first | omega | (simp only [World.size_alloc]; done) | (simp only [World.size_alloc]; omega) | (simp; done) | (simp; omega))); intro A3 c3 w9 ho9 hg9 hl9))))
            have hm9 := (HM8.out.alloc (.cells #[.string r] 9)).kept hg9 (fun k hk e => by injection hk with hk; injection e with e; dsimp only at hk e; omega)
            have hb9 : Below w.heap.size w w9 := ((HB8.out.alloc (by have := HB8.out.size; exact this) _)).trans (grown_base hg9 (by have := HB8.out.size; simp at this ⊢; omega) (fun k hk => by injection hk with hk; dsimp only at hk; have := hb1.size; omega))
            have hmk9 := HMK.out.add HRN.out
            rw [← HP.out] at hmk9
            go_roundw
            case rel => exact ⟨j + 1, A3, c3, m.set p true, by omega, by go_num, by rw [e1.out, EL.out], Lib.hid (by rw [e1.out]; exact hmk9), Lib.hid hm9, Lib.hid (by rw [e1.out, EL.out]; exact ho9), hb9⟩
            case measure => simp [intOf]; omega
          · rw [hin] at cm
            have e1 := Lib.hid (show clPart gs x (j + 1) (clAt gs r0 k) = (clPart gs x j (clAt gs r0 k)) by rw [HS.out, clAdd_in (by rw [← HRD.out]; exact inL_iff.1 hin)])
            clear hin
            go_wp2
            go_roundw
            case rel => exact ⟨j + 1, _, _, m, by omega, by go_num, by rw [e1.out], Lib.hid (by rw [e1.out]; exact HMK.out), HM6, Lib.hid (by rw [e1.out]; exact HO6.out), hB6⟩
            case measure => simp [intOf]; omega
        · obtain rfl : j = gs.length := by omega
          by_cases h8 : (clPart gs x gs.length (clAt gs r0 k)).length ≤ 800
          · have hq : ¬ (800 : Int) < ((clPart gs x gs.length (clAt gs r0 k)).length : Int) := by omega
            go_wp2
            go_roundw
            case rel => exact ⟨k + 1, A1, c1, m, by rw [HNX.out]; omega, by rw [HNX.out]; exact h8, by go_num, by rw [HNX.out], Lib.hid (by rw [HNX.out]; exact HMK.out), HM, Lib.hid (by rw [HNX.out]; exact HO.out), hb⟩
            case measure => simp [intOf]; omega
          · have hq : (800 : Int) < ((clPart gs x gs.length (clAt gs r0 k)).length : Int) := by omega
            have hno := Lib.hid (show ¬ (clF n gs).length ≤ 800 by
              have := HPRE.out (k + 1)
              rw [HNX.out] at this; omega)
            have hdec := Lib.hid (decide_eq_false hno.out)
            go_wp2
            go_ret2
            rw [hdec.out]
            exact ⟨none, 0, 0, rfl, fun q => absurd q hno.out, fun _ => ⟨rfl, rfl, rfl⟩, hb⟩
    · have hke : (clAt gs r0 k).length = k := by omega
      have e1 := Lib.hid (HEND.out k hke)
      clear hke
      have hz8 : (clAt gs r0 k).length ≤ 16777216 := by omega
      go_wp2_with fail
      refine (spec_l6Sort _ _ _ _ _ rfl HO.out.recs (by omega) (fun s hs => by rw [((HOK.out k).2 s hs).2]; omega)).mono ?_; rintro e w5 ⟨A5, c5, L, rfl, hoL, hpL, hsL, hb5⟩
      go_wp2
      go_ret2
      rw [e1.out, decide_eq_true hk8]
      exact ⟨_, _, _, rfl, fun _ => ⟨rfl, L, hoL.base_le hb.size, hpL, hsL⟩, fun q => absurd hk8 q, below_go hb hb5⟩
end Go.Proofs.Ytmdmnjjlpefigaa
