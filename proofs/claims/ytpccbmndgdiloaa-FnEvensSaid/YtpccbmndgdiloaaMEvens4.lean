/- Texts 4 of 7 that the claim leans on: plain laws and the walks' contracts, in order. -/
import Derived.Test.YtpccbmndgdiloaaMEvens3
import Derived.Test.YtpccbmndgdiloaaRows
import Derived.StillTailTactics
import Derived.Laws.BytesArg
import Derived.Deep.RegionHeld3
import Derived.Shelf.Spec.SearchS
import Derived.Ground.Names2Prog
import Derived.Test.YtpccbmndgdiloaaProg
import Derived.Laws.Bits64b
/- The walk through closures, the reference's side. -/
namespace Go.Proofs.Ytpccbmndgdiloaa
set_option linter.unusedVariables false
set_option linter.unusedSimpArgs false
open Go.ChangeShapes Go.WideShapes Go.ChangeAt Go.RowKit Go.Deep
set_option maxHeartbeats 1000000 in
set_option maxRecDepth 100000 in
theorem spec_l6Close {A : Option Addr} {N c n : Nat} {gs : List ByteArray} {w : World} (hN : gs.length = N) (h : Strs w A gs) (h0 : 0 < N) (hz : N ≤ 16777216) (h3 : 3 ≤ n) (h8 : n ≤ 8) (hg : ∀ g ∈ gs, RowN n g) :
    Calls Try.prog 168 #[.slice A N c] w fun e w' => ∃ A' m' c', e = .returned (.tuple #[.slice A' m' c', .bool (decide ((clF n gs).length ≤ 800))]) ∧ ((clF n gs).length ≤ 800 → m' = (clF n gs).length ∧ ∃ L, Owned strE 1 9 w' w.heap.size A' m' c' L ∧ L.Perm (clF n gs) ∧ Srt L) ∧ (¬ (clF n gs).length ≤ 800 → A' = none ∧ m' = 0 ∧ c' = 0) ∧ Below w.heap.size w w' := by
  subst hN
  have HG := Lib.hid hg
  have hr := rowN_rounds h3 h8
  have h40 : fact n ≤ 40320 := fact_le8 h8
  have HOK := Lib.hid (fun k => clAt_ok hr hg k)
  have HEND := Lib.hid (fun k (hk : (clAt gs (roundsS n) k).length = k) => clF_end h3 h8 hg hk)
  have HPRE := Lib.hid (fun k => pre_len (clF_pre h3 h8 hg k))
  have HLE := Lib.hid (fun k => (clAt_ok hr hg k).le)
  obtain ⟨b1, o1, g0, rfl, hbb, hg0, hcg0⟩ := h.at_str (k := 0) h0
  have hg0s := (hg g0 (List.mem_of_getElem? hg0)).2
  have hpl := rowN_place hr
  have hrs := hr.2
  obtain ⟨r0, hr0⟩ : ∃ r, r = roundsS n := ⟨_, rfl⟩
  obtain ⟨p0, hp0⟩ : ∃ p, p = place r0 := ⟨_, rfl⟩
  rw [← hr0] at hr HOK hpl hrs
  rw [← hp0] at hpl
  have HR0 := Lib.hid hr0
  have HP0 := Lib.hid hp0
  have HEND : Hid (∀ k, (clAt gs r0 k).length = k → clF n gs = clAt gs r0 k) := Lib.hid (by rw [hr0]; exact HEND.out)
  have HPRE : Hid (∀ k, (clAt gs r0 k).length ≤ (clF n gs).length) := Lib.hid (by rw [hr0]; exact HPRE.out)
  have HLE : Hid (∀ k, (clAt gs r0 k).length ≤ fact n) := Lib.hid (by rw [hr0]; exact HLE.out)
  have HF := Lib.hid (clAt_first (gs := gs) (r := r0))
  clear hg hg0 hr0 hp0
  simp only [Nat.add_zero] at hcg0
  go_in
  go_wp2_with fail
  refine (spec_l1Rounds h8).mono ?_; rw [← HR0.out]; rintro e w' ⟨rfl, rfl⟩
  go_wp2_with fail
  refine (spec_l6Seen h8).mono ?_; rintro e w1 ⟨gm, rfl, hom, hb1⟩
  have hmk0 := Lib.hid (MarkR.none n)
  obtain ⟨hgl, hgh⟩ := hom.at_own
  have HOM := Lib.hid hom
  clear hom hcg0
  go_wp2_with fail
  refine (spec_l1Place (by rw [hrs]; exact h8)).mono ?_; rw [← HP0.out]; rintro e w2 ⟨rfl, hb2⟩
  have HOM2 := Lib.hid (HOM.out.up hb2)
  have hold := hmk0.out.2 r0 hr
  rw [← HP0.out] at hold
  obtain ⟨HM3, hg3⟩ := HOM2.out.put (k := p0) (j := 0) (x := true) (u := .bool true) hold (by decide) rfl
  obtain ⟨g', e, _, _, gc, gf⟩ := HOM2.out.at_ (fact_pos n)
  injection e with e
  injection e with e
  subst e
  have c1 := gc p0 _ 0 _ hold rfl
  have f1 := gf p0
  simp only [Nat.mul_one, Nat.add_zero] at HM3 hg3 c1
  have hb3 : Below w.heap.size w (w2.setCell ⟨gm, p0, none⟩ (.bool true)) := (below_go hb1 hb2).grown hg3 (below_go hb1 hb2).size (fun k hk => by injection hk with hk; omega)
  have HM3 := Lib.hid HM3
  have HK3 := Lib.hid (show MarkR n (clAt gs r0 0) ((List.replicate (fact n) false).set p0 true) from by rw [HP0.out]; exact hmk0.out.add hr)
  have HB3 := Lib.hid hb3
  have hs2 := hb2.size
  clear hold gc gf hg3 hb3 HOM HOM2
  clear hg0s
  go_wp2_with fail
  have HO3 := Lib.hid (own_lit1_at' strE_len (w2.setCell ⟨gm, p0, none⟩ (.bool true)) 9 r0 (b := w2.heap.size) (base := w1.heap.size) (by simp) (by simpa using hs2))
  have HRS := Lib.hid hrs
  clear hrs
  go_loopw [6, 7] (fun v i wr => ∃ (k : Nat) (A' : Option Addr) (c' : Nat) (m : List Bool), k ≤ (clAt gs r0 k).length ∧ (clAt gs r0 k).length ≤ 800 ∧ i = .int .i64 k ∧ v = .slice A' (clAt gs r0 k).length c' ∧ Hid (MarkR n (clAt gs r0 k) m) ∧ Hid (Owned boolE 1 4 wr w.heap.size (some ⟨gm, 0, none⟩) (fact n) (fact n) m) ∧ Hid (Owned strE 1 9 wr w1.heap.size A' (clAt gs r0 k).length c' (clAt gs r0 k)) ∧ Below w.heap.size w wr) (fun _ i _ => fact n - (intOf i).toNat)
  case atStart => exact ⟨0, some ⟨w2.heap.size, 0, none⟩, 1, _, Nat.zero_le _, (by show 1 ≤ 800; decide), rfl, rfl, HK3, Lib.hid (HM3.out.alloc _), HO3, by have := HB3.out; (repeat' (first | (with_reducible exact Below.refl _ _) | (with_reducible assumption) | (with_reducible refine below_drewN ?_ _) | (with_reducible refine Below.drew ?_) | (with_reducible refine below_alloc ?_ _) | (with_reducible refine Below.alloc ?_ ?_ _) | (with_reducible refine Below.setCell ?_ ?_ _) | (with_reducible refine below_go ?_ (by with_reducible assumption)) | (with_reducible refine below_then (by with_reducible assumption) ?_ ?_) | go_size))⟩
  case round =>
    clear HK3 HM3 HO3 HB3
    obtain ⟨k, A1, c1, m, hk, hk8, rfl, rfl, HMK, HM, HO, hb⟩ := hrel
    rename World => w4
    have hle := HLE.out k
    have hle1 := HLE.out (k + 1)
    by_cases hlt : k < (clAt gs r0 k).length
    · obtain ⟨x, hx⟩ := some_of_lt hlt
      have HX := Lib.hid hx
      have hxN := (HOK.out k).2 x (List.mem_of_getElem? hx)
      have HNX := Lib.hid (clAt_more (gs := gs) (r := r0) hx)
      have HPO := Lib.hid (fun j => (HOK.out k).part hxN HG.out j)
      clear hx
      go_wp2
      go_loopw [6, 33] (fun v i wr => ∃ (j : Nat) (A' : Option Addr) (c' : Nat) (m : List Bool), j ≤ gs.length ∧ i = .int .i64 j ∧ v = .slice A' (clPart gs x j (clAt gs r0 k)).length c' ∧ Hid (MarkR n (clPart gs x j (clAt gs r0 k)) m) ∧ Hid (Owned boolE 1 4 wr w.heap.size (some ⟨gm, 0, none⟩) (fact n) (fact n) m) ∧ Hid (Owned strE 1 9 wr w1.heap.size A' (clPart gs x j (clAt gs r0 k)).length c' (clPart gs x j (clAt gs r0 k))) ∧ Below w.heap.size w wr) (fun _ i _ => gs.length - (intOf i).toNat)
      case atStart => exact ⟨0, A1, c1, m, Nat.zero_le _, rfl, rfl, HMK, HM, HO, hb⟩
      case round =>
        clear HMK HM HO hb
        obtain ⟨j, A1, c1, m, hj, rfl, rfl, HMK, HM, HO, hb⟩ := hrel
        rename World => w5
        have hlen := (HPO.out j).le
        have hpl := pre_len (clPart_pre gs x j (clAt gs r0 k))
        by_cases hjl : j < gs.length
        · obtain ⟨b3, o3, g, e, _, hgj, hcg0⟩ := h.at_str hjl
          injection e with e
          injection e with e1 e2
          subst e1 e2
          have hcg := (hb.cell (p := ⟨b1, o1 + j, none⟩) hbb).trans hcg0
          obtain ⟨b2, rfl, hb2lo, hb2hi, gc, _⟩ := HO.out.at_ (by omega)
          have hcx := gc k x 0 _ (pre_at (clPart_pre gs x j (clAt gs r0 k)) HX.out) rfl
          simp only [Nat.mul_one, Nat.add_zero] at hcx
          have hgN := HG.out g (List.mem_of_getElem? hgj)
          have hft := rowN_fits hxN hgN
          have hxs : x.size ≤ 16777216 := by rw [hxN.2]; omega
          have hgz : g.size ≤ 16777216 := by rw [hgN.2]; omega
          have hrN := hxN.times hgN
          have HS := Lib.hid (clPart_succ (x := x) (clAt gs r0 k) hgj)
          obtain ⟨r, hr'⟩ : ∃ r, r = timesS x g := ⟨_, rfl⟩
          have HRD := Lib.hid hr'
          rw [← hr'] at hrN
          have hrz : r.size ≤ 8 := by rw [hrN.2]; exact h8
          obtain ⟨p, hp⟩ : ∃ p, p = place r := ⟨_, rfl⟩
          have HP := Lib.hid hp
          have hpF : p < fact n := by rw [hp]; exact rowN_place hrN
          have HRN := Lib.hid hrN
          have hcm := HMK.out.at_ hrN
          rw [← hp] at hcm
          have HCM := Lib.hid hcm
          clear gc hgj hcg0 hr' hp hcm hrN
          go_wp2_with fail
          refine (spec_l1Times hxs hgz hft).mono ?_; rw [← HRD.out]; rintro e w' ⟨rfl, rfl⟩
          clear hcx hcg hft
          go_wp2_with fail
          refine (spec_l1Place hrz).mono ?_; rw [← HP.out]; rintro e w6 ⟨rfl, hb6⟩
          have hB6 := below_go hb hb6
          have HM6 := Lib.hid (HM.out.up hb6)
          have HO6 := Lib.hid (HO.out.up hb6)
          obtain ⟨g', e, _, _, gc, gf⟩ := HM6.out.at_ (fact_pos n)
          injection e with e
          injection e with e
          subst e
          have cm := gc p _ 0 _ HCM.out rfl
          simp only [Nat.mul_one, Nat.add_zero] at cm
          have hs6 := hb6.size
          clear gc gf
          rcases hin : inL (clPart gs x j (clAt gs r0 k)) r
          · rw [hin] at cm
            have e1 := Lib.hid (show clPart gs x (j + 1) (clAt gs r0 k) = (clPart gs x j (clAt gs r0 k)) ++ [r] by rw [HS.out, clAdd_new (by rw [← HRD.out]; intro q; rw [inL_iff.2 q] at hin; cases hin), ← HRD.out])
            have el : ((clPart gs x j (clAt gs r0 k)) ++ [r]).length = (clPart gs x j (clAt gs r0 k)).length + 1 := by simp
            have EL := Lib.hid el
            clear hin el
            go_wp2_with fail
            refine (spec_l1Place hrz).mono ?_; rw [← HP.out]; rintro e w7 ⟨rfl, hb7⟩
            clear cm
            have hB7 := below_go hB6 hb7
            have HM7 := Lib.hid (HM6.out.up hb7)
            have HO7 := Lib.hid (HO6.out.up hb7)
            have hs7 := hb7.size
            obtain ⟨HM8, hg8⟩ := HM7.out.put (k := p) (j := 0) (x := true) (u := .bool true) HCM.out (by decide) rfl
            obtain ⟨g', e, _, _, gc, gf⟩ := HM7.out.at_ (fact_pos n)
            injection e with e
            injection e with e
            subst e
            have c2 := gc p _ 0 _ HCM.out rfl
            have f2 := gf p
            simp only [Nat.mul_one, Nat.add_zero] at HM8 hg8 c2
            have hB8 : Below w.heap.size w (w7.setCell ⟨gm, p, none⟩ (.bool true)) := hB7.grown hg8 hB7.size (fun k hk => by injection hk with hk; omega)
            have HB8 := Lib.hid hB8
            have HO8 := Lib.hid (HO7.out.past hg8 hgh)
            have HM8 := Lib.hid HM8
            have hno : b2 ≠ gm := by omega
            clear gc gf hg8 hB8
            go_wp2_with (first | (at_builtin; go_must ((refine wpList_append_recs Try.elStr strE_one rfl (.tmp 53) (.tmp 55) rfl rfl (HO8.out.alloc _) rfl (own_lit1_at' strE_len (w7.setCell ⟨gm, p, none⟩ (.bool true)) 9 r (by simp) (Nat.le_refl _)).recs rfl ?_ (by decide) ?_ ?_; (focus (first | omega | (simp only [World.size_alloc]; done) | (simp only [World.size_alloc]; omega) | (simp; done) | (simp; omega))); (focus (first | omega | (simp only [World.size_alloc]; done) | (simp only [World.size_alloc]; omega) | (simp; done) | (simp; omega))); intro A3 c3 w9 ho9 hg9 hl9))))
            have hm9 := (HM8.out.alloc (.cells #[.string r] 9)).kept hg9 (fun k hk e => by injection hk with hk; injection e with e; dsimp only at hk e; omega)
            have hb9 : Below w.heap.size w w9 := ((HB8.out.alloc (by have := HB8.out.size; exact this) _)).trans (grown_base hg9 (by have := HB8.out.size; simp at this ⊢; omega) (fun k hk => by injection hk with hk; dsimp only at hk; have := hb1.size; omega))
            have hmk9 := HMK.out.add HRN.out
            rw [← HP.out] at hmk9
            go_roundw
            case rel => exact ⟨j + 1, A3, c3, m.set p true, by omega, by go_num, by rw [e1.out, EL.out], Lib.hid (by rw [e1.out]; exact hmk9), Lib.hid hm9, Lib.hid (by rw [e1.out, EL.out]; exact ho9), hb9⟩
            case measure => simp [intOf]; omega
          · rw [hin] at cm
            have e1 := Lib.hid (show clPart gs x (j + 1) (clAt gs r0 k) = (clPart gs x j (clAt gs r0 k)) by rw [HS.out, clAdd_in (by rw [← HRD.out]; exact inL_iff.1 hin)])
            clear hin
            go_wp2
            go_roundw
            case rel => exact ⟨j + 1, _, _, m, by omega, by go_num, by rw [e1.out], Lib.hid (by rw [e1.out]; exact HMK.out), HM6, Lib.hid (by rw [e1.out]; exact HO6.out), hB6⟩
            case measure => simp [intOf]; omega
        · obtain rfl : j = gs.length := by omega
          by_cases h8 : (clPart gs x gs.length (clAt gs r0 k)).length ≤ 800
          · have hq : ¬ (800 : Int) < ((clPart gs x gs.length (clAt gs r0 k)).length : Int) := by omega
            go_wp2
            go_roundw
            case rel => exact ⟨k + 1, A1, c1, m, by rw [HNX.out]; omega, by rw [HNX.out]; exact h8, by go_num, by rw [HNX.out], Lib.hid (by rw [HNX.out]; exact HMK.out), HM, Lib.hid (by rw [HNX.out]; exact HO.out), hb⟩
            case measure => simp [intOf]; omega
          · have hq : (800 : Int) < ((clPart gs x gs.length (clAt gs r0 k)).length : Int) := by omega
            have hno := Lib.hid (show ¬ (clF n gs).length ≤ 800 by
              have := HPRE.out (k + 1)
              rw [HNX.out] at this; omega)
            have hdec := Lib.hid (decide_eq_false hno.out)
            go_wp2
            go_ret2
            rw [hdec.out]
            exact ⟨none, 0, 0, rfl, fun q => absurd q hno.out, fun _ => ⟨rfl, rfl, rfl⟩, hb⟩
    · have hke : (clAt gs r0 k).length = k := by omega
      have e1 := Lib.hid (HEND.out k hke)
      clear hke
      have hz8 : (clAt gs r0 k).length ≤ 16777216 := by omega
      go_wp2_with fail
      refine (spec_l6Sort _ _ _ _ _ rfl HO.out.recs (by omega) (fun s hs => by rw [((HOK.out k).2 s hs).2]; omega)).mono ?_; rintro e w5 ⟨A5, c5, L, rfl, hoL, hpL, hsL, hb5⟩
      go_wp2
      go_ret2
      rw [e1.out, decide_eq_true hk8]
      exact ⟨_, _, _, rfl, fun _ => ⟨rfl, L, hoL.base_le hb.size, hpL, hsL⟩, fun q => absurd hk8 q, below_go hb hb5⟩
end Go.Proofs.Ytpccbmndgdiloaa
/- The walks through the odd changes of a list, both sides. -/
namespace Go.Proofs.Ytpccbmndgdiloaa
set_option linter.unusedVariables false
set_option linter.unusedSimpArgs false
open Go.ChangeShapes Go.WideShapes Go.ChangeAt Go.RowKit Go.Deep
theorem wrap_pred {k : Nat} (h0 : 0 < k) (h1 : k ≤ 16777216) : IntKind.i64.wrap ((k : Int) - 1) = ((k - 1 : Nat) : Int) := by
  rw [PlainAid.i64_is]; unfold wrap64; omega
set_option maxRecDepth 100000 in
theorem impl_increasing {A : Option Addr} {N c : Nat} {l : List ByteArray} {w : World} (hN : l.length = N) (h : Strs w A l) (hz : N ≤ 16777216) :
    Calls Try.prog 90 #[.slice A N c] w fun e w' => e = .returned (.bool (incB l)) ∧ Below w.heap.size w w' := by
  subst hN
  have HG : Hid (incB l = (List.range l.length).all (okInc l)) := Lib.hid rfl
  go_in
  go_wp2
  go_loopw [3] (fun i wr => ∃ k : Nat, 0 < k ∧ k ≤ l.length + 1 ∧ i = .int .i64 k ∧ Hid (∀ j, j < k → okInc l j = true) ∧ Below w.heap.size w wr) (fun i _ => l.length + 1 - (intOf i).toNat)
  case atStart => exact ⟨1, by omega, by omega, rfl, Lib.hid (fun j hj => (by have : j = 0 := (by omega); subst this; exact okInc_0 l)), Below.refl _ _⟩
  case round =>
    obtain ⟨k, hk0, hk, rfl, HK, hb⟩ := hrel
    by_cases hlt : k < l.length
    · have hr := h.below hb (Nat.le_refl _)
      obtain ⟨b1, o1, y, rfl, hbb, hy, hcy⟩ := hr.at_str hlt
      obtain ⟨b2, o2, x, e, _, hx, hcx⟩ := hr.at_str (k := k - 1) (by omega)
      injection e with e
      injection e with e1 e2
      subst e1 e2
      have E := Lib.hid (okInc_pos hk0 hx hy)
      have hwk := wrap_pred hk0 (by omega)
      have hlt1 : k - 1 < l.length := by omega
      clear h hr hx hy
      rcases hl : less x y
      · obtain ⟨h1, h2⟩ := less_no hl
        clear hl
        have e0 := Lib.hid (show okInc l k = false by rw [E.out]; exact h1)
        rcases h2 with h2 | ⟨h2, h3⟩
        all_goals
          go_wp2
          go_quiet (fail)
          go_wp2
          go_ret
          refine ⟨ret_bool ?_, by (repeat' (first | (with_reducible exact Below.refl _ _) | (with_reducible assumption) | (with_reducible refine below_drewN ?_ _) | (with_reducible refine Below.drew ?_) | (with_reducible refine below_alloc ?_ _) | (with_reducible refine Below.alloc ?_ ?_ _) | (with_reducible refine Below.setCell ?_ ?_ _) | (with_reducible refine below_go ?_ (by with_reducible assumption)) | (with_reducible refine below_then (by with_reducible assumption) ?_ ?_) | go_size))⟩
          rw [HG.out, all_no hlt e0.out]
      · obtain ⟨h1, h2, h3⟩ := less_yes hl
        have e0 := Lib.hid (show okInc l k = true by rw [E.out]; exact hl)
        clear hl
        go_wp2
        go_quiet (fail)
        go_wp2
        go_roundw
        case rel => exact ⟨k + 1, by omega, by omega, by go_num, Lib.hid (upto_succ HK.out e0.out), by (repeat' (first | (with_reducible exact Below.refl _ _) | (with_reducible assumption) | (with_reducible refine below_drewN ?_ _) | (with_reducible refine Below.drew ?_) | (with_reducible refine below_alloc ?_ _) | (with_reducible refine Below.alloc ?_ ?_ _) | (with_reducible refine Below.setCell ?_ ?_ _) | (with_reducible refine below_go ?_ (by with_reducible assumption)) | (with_reducible refine below_then (by with_reducible assumption) ?_ ?_) | go_size))⟩
        case measure => simp [intOf]; omega
    · go_wp2
      go_ret
      refine ⟨ret_bool ?_, hb⟩
      rw [HG.out, all_yes (fun j hj => HK.out j (by omega))]
set_option maxRecDepth 100000 in
theorem spec_l19With {A : Option Addr} {N c : Nat} {l : List ByteArray} {n : Int} {w : World} (hN : l.length = N) (h : Strs w A l) (hz : N ≤ 16777216) (hs : ∀ s ∈ l, s.size ≤ 16777216) (hn : I64 n) :
    Calls Try.prog 105 #[.int .i64 n, .slice A N c] w fun e w' => e = .returned (.bool (goodWith n l)) ∧ w = w' := by
  subst hN
  have HG : Hid (goodWith n l = ((List.range l.length).all (okWith n l) && inB l.length 1 30)) := Lib.hid rfl
  have HW : Hid (∀ k, okWith n l k = (okCh n l k && okInc l k)) := Lib.hid (fun _ => rfl)
  have HS := Lib.hid hs
  clear hs
  go_in
  go_wp2
  go_loopw [9] (fun i wr => ∃ k : Nat, k ≤ l.length ∧ i = .int .i64 k ∧ Hid (∀ j, j < k → okWith n l j = true) ∧ w = wr) (fun i _ => l.length - (intOf i).toNat)
  case atStart => exact ⟨0, Nat.zero_le _, rfl, Lib.hid (fun j hj => absurd hj (by omega)), rfl⟩
  case round =>
    obtain ⟨k, hk, rfl, HK, rfl⟩ := hrel
    by_cases hlt : k < l.length
    · obtain ⟨b1, o1, y, rfl, hbb, hy, hcy⟩ := h.at_str hlt
      have hys := HS.out y (List.mem_of_getElem? hy)
      have EC := Lib.hid (okCh_at (n := n) hy)
      rcases hg : goodChange n y
      · have e0 := Lib.hid (show okWith n l k = false by rw [HW.out, EC.out, hg]; rfl)
        clear hy
        go_wp2_with (first | (go_at_call 82; refine (spec_l2Change hys hn).mono ?_; rintro e w' ⟨rfl, rfl⟩))
        go_ret
        refine ⟨ret_bool ?_, rfl⟩
        rw [HG.out, all_bad hlt e0.out]
      by_cases hk0 : 0 < k
      · obtain ⟨b2, o2, x, e, _, hx, hcx⟩ := h.at_str (k := k - 1) (by omega)
        injection e with e
        injection e with e1 e2
        subst e1 e2
        have E := Lib.hid (okInc_pos hk0 hx hy)
        have hlt1 : k - 1 < l.length := by omega
        clear hx hy
        rcases hl : less x y
        · obtain ⟨h1, h2⟩ := less_no hl
          clear h2
          have e0 := Lib.hid (show okWith n l k = false by rw [HW.out, EC.out, hg, E.out, hl]; rfl)
          clear hl
          go_wp2_with (first | (go_at_call 82; refine (spec_l2Change hys hn).mono ?_; rintro e w' ⟨rfl, rfl⟩))
          go_ret
          refine ⟨ret_bool ?_, rfl⟩
          rw [HG.out, all_bad hlt e0.out]
        · obtain ⟨h1, h2, h3⟩ := less_yes hl
          have e0 := Lib.hid (show okWith n l k = true by rw [HW.out, EC.out, hg, E.out, hl]; rfl)
          clear hl
          go_wp2_with (first | (go_at_call 82; refine (spec_l2Change hys hn).mono ?_; rintro e w' ⟨rfl, rfl⟩))
          go_roundw
          case rel => exact ⟨k + 1, by omega, by go_num, Lib.hid (upto_succ HK.out e0.out), trivial⟩
          case measure => simp [intOf]; omega
      · have e0 := Lib.hid (show okWith n l k = true by rw [HW.out, EC.out, hg, okInc_z hk0]; rfl)
        have hk1 : decide ((0 : Int) < (k : Int)) = false := decide_eq_false (by omega)
        clear hy
        go_wp2_with (first | (go_at_call 82; refine (spec_l2Change hys hn).mono ?_; rintro e w' ⟨rfl, rfl⟩))
        go_roundw
        case rel => exact ⟨k + 1, by omega, by go_num, Lib.hid (upto_succ HK.out e0.out), trivial⟩
        case measure => simp [intOf]; omega
    · obtain rfl : k = l.length := by omega
      go_wp2_with (first | (go_at_call 104; refine (spec_l1In _ _ _ _).mono ?_; rintro e w' ⟨rfl, rfl⟩))
      go_ret
      refine ⟨ret_bool ?_, rfl⟩
      rw [HG.out, all_good (fun j hj => HK.out j hj)]
set_option maxRecDepth 100000 in
theorem impl_goodWith {A : Option Addr} {N c : Nat} {l : List ByteArray} {n : Int} {w : World} (hN : l.length = N) (h : Strs w A l) (hz : N ≤ 16777216) (hs : ∀ s ∈ l, s.size ≤ 16777216) :
    Calls Try.prog 101 #[.int .i64 n, .slice A N c] w fun e w' => e = .returned (.bool (goodWith n l)) ∧ Below w.heap.size w w' := by
  subst hN
  rcases h1 : inB n 3 8
  · have e0 := Lib.hid (goodWith_stage (l := l) h1)
    go_in
    go_wp2_with (first | (go_at_call 110; refine (impl_isStage _ _).mono ?_; rintro e w' ⟨rfl, rfl⟩))
    go_ret
    exact ⟨ret_bool e0.out.symm, Below.refl _ _⟩
  have HP := Lib.hid (goodWith_parts n l)
  rcases h2 : inB l.length 1 30
  · have e0 := Lib.hid (show goodWith n l = false by rw [HP.out, h2]; rfl)
    go_in
    go_wp2_with (first | (go_at_call 110; refine (impl_isStage _ _).mono ?_; rintro e w' ⟨rfl, rfl⟩) | (go_at_call 100; refine (impl_within _ _ _ _).mono ?_; rintro e w' ⟨rfl, rfl⟩))
    go_ret
    exact ⟨ret_bool e0.out.symm, Below.refl _ _⟩
  rcases h3 : incB l
  · have e0 := Lib.hid (show goodWith n l = false by rw [HP.out, h2, h3]; rfl)
    go_in
    go_wp2_with (first | (go_at_call 110; refine (impl_isStage _ _).mono ?_; rintro e w' ⟨rfl, rfl⟩) | (go_at_call 100; refine (impl_within _ _ _ _).mono ?_; rintro e w' ⟨rfl, rfl⟩) | (go_at_call 90; refine (impl_increasing rfl h hz).mono ?_; rintro e w1 ⟨rfl, hb1⟩))
    go_ret
    exact ⟨ret_bool e0.out.symm, hb1⟩
  have HG := Lib.hid (show goodWith n l = (List.range l.length).all (okCh n l) by rw [HP.out, h2, h3]; rfl)
  have HS := Lib.hid hs
  clear hs
  go_in
  go_wp2_with (first | (go_at_call 110; refine (impl_isStage _ _).mono ?_; rintro e w' ⟨rfl, rfl⟩) | (go_at_call 100; refine (impl_within _ _ _ _).mono ?_; rintro e w' ⟨rfl, rfl⟩) | (go_at_call 90; refine (impl_increasing rfl h hz).mono ?_; rintro e w1 ⟨rfl, hb1⟩))
  go_loopw [23] (fun i wr => ∃ k : Nat, k ≤ l.length ∧ i = .int .i64 k ∧ Hid (∀ j, j < k → okCh n l j = true) ∧ Below w.heap.size w wr) (fun i _ => l.length - (intOf i).toNat)
  case atStart => exact ⟨0, Nat.zero_le _, rfl, Lib.hid (fun j hj => absurd hj (by omega)), hb1⟩
  case round =>
    obtain ⟨k, hk, rfl, HK, hb⟩ := hrel
    by_cases hlt : k < l.length
    · obtain ⟨b1, o1, y, rfl, hbb, hy, hcy⟩ := (h.below hb (Nat.le_refl _)).at_str hlt
      have hys := HS.out y (List.mem_of_getElem? hy)
      have EC := Lib.hid (okCh_at (n := n) hy)
      clear hy
      rcases hg : goodChange n y
      · have e0 := Lib.hid (show okCh n l k = false by rw [EC.out, hg])
        go_wp2_with (first | (go_at_call 80; refine (impl_GoodChange hys).mono ?_; rintro e w2 ⟨rfl, hb2⟩))
        go_ret
        refine ⟨ret_bool ?_, below_go hb hb2⟩
        rw [HG.out, all_no hlt e0.out]
      · have e0 := Lib.hid (show okCh n l k = true by rw [EC.out, hg])
        go_wp2_with (first | (go_at_call 80; refine (impl_GoodChange hys).mono ?_; rintro e w2 ⟨rfl, hb2⟩))
        go_roundw
        case rel => exact ⟨k + 1, by omega, by go_num, Lib.hid (upto_succ HK.out e0.out), below_go hb hb2⟩
        case measure => simp [intOf]; omega
    · obtain rfl : k = l.length := by omega
      go_wp2
      go_ret
      refine ⟨ret_bool ?_, hb⟩
      rw [HG.out, all_yes (fun j hj => HK.out j hj)]
end Go.Proofs.Ytpccbmndgdiloaa
/- The walks through ReachBy, both sides. -/
namespace Go.Proofs.Ytpccbmndgdiloaa
set_option linter.unusedVariables false
set_option linter.unusedSimpArgs false
open Go.ChangeShapes Go.WideShapes Go.ChangeAt Go.RowKit Go.Deep
def okReach (n : Int) (l : List ByteArray) : Bool := goodWith n l && decide (n ≤ 5)
def reachN (n : Nat) (l : List ByteArray) : Nat := (clF n (l.map (chRow n))).length
def reachR (n : Int) (l : List ByteArray) : Int := if okReach n l = true then (reachN n.toNat l : Int) else 0
theorem reachR_f {n : Int} {l : List ByteArray} (h : okReach n l = false) : reachR n l = 0 := by rw [reachR, if_neg (by rw [h]; simp)]
theorem reachR_t {m : Nat} {l : List ByteArray} (h : okReach m l = true) : reachR m l = (reachN m l : Int) := by rw [reachR, if_pos h]; rfl
theorem chs_rows {n : Nat} (h3 : 3 ≤ n) (h8 : n ≤ 8) (l : List ByteArray) : ∀ g ∈ l.map (chRow n), RowN n g := by
  intro g hg
  obtain ⟨c, _, rfl⟩ := List.mem_map.1 hg
  exact ⟨good_ch ⟨h3, h8⟩ c, chRow_size n c⟩
end Go.Proofs.Ytpccbmndgdiloaa
/- Plain laws of the search for an extent, and of the count of all. -/
namespace Go.Proofs.Ytpccbmndgdiloaa
set_option linter.unusedVariables false
set_option linter.unusedSimpArgs false
open Go.ChangeShapes Go.WideShapes Go.ChangeAt Go.RowKit Go.Deep
/-- How a search ends: with a way, or with no step left; or it goes on with so many steps. -/
abbrev Fate := Option (List ByteArray) ⊕ Nat
def srchL (rec : ByteArray → List ByteArray → List ByteArray → Nat → Fate) (n : Nat) (full : Bool) (r : ByteArray) (V P : List ByteArray) : List ByteArray → Nat → Fate
  | [], left => .inr left
  | _ :: _, 0 => .inl none
  | c :: cs, left + 1 =>
    if full = true ∧ decide (applyR r c = roundsS n) = true then .inl (some (P ++ [c]))
    else if full = true ∨ inL V (applyR r c) = true then srchL rec n full r V P cs left
    else match rec (applyR r c) (V ++ [applyR r c]) (P ++ [c]) left with
      | .inr left' => srchL rec n full r V P cs left'
      | .inl o => .inl o
def srch (n : Nat) (W : List ByteArray) : Nat → ByteArray → List ByteArray → List ByteArray → Nat → Fate
  | 0, r, V, P, left => srchL (fun _ _ _ l => .inr l) n true r V P W left
  | d + 1, r, V, P, left => srchL (srch n W d) n false r V P W left
section
variable {rec : ByteArray → List ByteArray → List ByteArray → Nat → Fate} {n : Nat} {full : Bool} {r c : ByteArray} {V P cs : List ByteArray} {left : Nat}
theorem srchL_over : srchL rec n full r V P (c :: cs) 0 = .inl none := by rw [srchL]
theorem srchL_hit (h : full = true) (h2 : applyR r c = roundsS n) : srchL rec n full r V P (c :: cs) (left + 1) = .inl (some (P ++ [c])) := by
  rw [srchL, if_pos ⟨h, decide_eq_true h2⟩]
theorem srchL_skip (h : ¬ (full = true ∧ applyR r c = roundsS n)) (h2 : full = true ∨ inL V (applyR r c) = true) : srchL rec n full r V P (c :: cs) (left + 1) = srchL rec n full r V P cs left := by
  rw [srchL, if_neg (fun q => h ⟨q.1, of_decide_eq_true q.2⟩), if_pos h2]
theorem srchL_in (h : full = false) (h2 : inL V (applyR r c) = false) : srchL rec n full r V P (c :: cs) (left + 1) = match rec (applyR r c) (V ++ [applyR r c]) (P ++ [c]) left with
      | .inr left' => srchL rec n full r V P cs left'
      | .inl o => .inl o := by
  rw [srchL, if_neg (fun q => by rw [h] at q; cases q.1), if_neg (fun q => by rw [h, h2] at q; rcases q with q | q <;> cases q)]
theorem srchL_in_go {l : Nat} (h : full = false) (h2 : inL V (applyR r c) = false) (h3 : rec (applyR r c) (V ++ [applyR r c]) (P ++ [c]) left = .inr l) : srchL rec n full r V P (c :: cs) (left + 1) = srchL rec n full r V P cs l := by
  rw [srchL_in h h2, h3]
theorem srchL_in_end {o : Option (List ByteArray)} (h : full = false) (h2 : inL V (applyR r c) = false) (h3 : rec (applyR r c) (V ++ [applyR r c]) (P ++ [c]) left = .inl o) : srchL rec n full r V P (c :: cs) (left + 1) = .inl o := by
  rw [srchL_in h h2, h3]
end
theorem srchL_le {rec : ByteArray → List ByteArray → List ByteArray → Nat → Fate} (hr : ∀ r V P left l, rec r V P left = .inr l → l ≤ left) (n : Nat) (full : Bool) (r : ByteArray) (V P : List ByteArray) : ∀ (cs : List ByteArray) (left l : Nat), srchL rec n full r V P cs left = .inr l → l ≤ left
  | [], left, l, h => by rw [srchL] at h; injection h with h; omega
  | c :: cs, 0, l, h => by rw [srchL] at h; cases h
  | c :: cs, left + 1, l, h => by
    rw [srchL] at h
    split at h
    · cases h
    · split at h
      · have := srchL_le hr n full r V P cs left l h; omega
      · rcases q : rec (applyR r c) (V ++ [applyR r c]) (P ++ [c]) left with o | l2
        · rw [q] at h; cases h
        · rw [q] at h
          have h1 := srchL_le hr n full r V P cs l2 l h
          have h2 := hr _ _ _ _ _ q
          omega
theorem srch_le (n : Nat) (W : List ByteArray) : ∀ (d : Nat) (r : ByteArray) (V P : List ByteArray) (left l : Nat), srch n W d r V P left = .inr l → l ≤ left
  | 0, r, V, P, left, l, h => srchL_le (fun r V P left l h => by injection h with h; omega) n true r V P W left l h
  | d + 1, r, V, P, left, l, h => srchL_le (srch_le n W d) n false r V P W left l h
/-- All ways on. -/
def cntL (rec : ByteArray → List ByteArray → Nat) (n : Nat) (full : Bool) (r : ByteArray) (V : List ByteArray) : List ByteArray → Nat
  | [] => 0
  | c :: cs =>
    if full = true then (if decide (applyR r c = roundsS n) = true then 1 else 0) + cntL rec n full r V cs
    else if inL V (applyR r c) = true then cntL rec n full r V cs
    else rec (applyR r c) (V ++ [applyR r c]) + cntL rec n full r V cs
def cntX (n : Nat) (W : List ByteArray) : Nat → ByteArray → List ByteArray → Nat
  | 0, r, V => cntL (fun _ _ => 0) n true r V W
  | d + 1, r, V => cntL (cntX n W d) n false r V W
/-- How many steps that takes. -/
def stpL (rec : ByteArray → List ByteArray → Nat) (full : Bool) (r : ByteArray) (V : List ByteArray) : List ByteArray → Nat
  | [] => 0
  | c :: cs => 1 + (if full = true ∨ inL V (applyR r c) = true then 0 else rec (applyR r c) (V ++ [applyR r c])) + stpL rec full r V cs
def stpX (W : List ByteArray) : Nat → ByteArray → List ByteArray → Nat
  | 0, r, V => stpL (fun _ _ => 0) true r V W
  | d + 1, r, V => stpL (stpX W d) false r V W
def stB (k : Nat) : Nat → Nat
  | 0 => k
  | d + 1 => k * (1 + stB k d)
theorem stpL_le {rec : ByteArray → List ByteArray → Nat} {B : Nat} (hr : ∀ r V, rec r V ≤ B) (full : Bool) (r : ByteArray) (V : List ByteArray) : ∀ cs : List ByteArray, stpL rec full r V cs ≤ cs.length * (1 + B)
  | [] => by simp [stpL]
  | c :: cs => by
    have h1 := stpL_le hr full r V cs
    rw [stpL, List.length_cons, Nat.succ_mul]
    split
    · omega
    · have := hr (applyR r c) (V ++ [applyR r c]); omega
theorem stpX_le (W : List ByteArray) : ∀ (d : Nat) (r : ByteArray) (V : List ByteArray), stpX W d r V ≤ stB W.length d
  | 0, r, V => by have := stpL_le (rec := fun _ _ => 0) (B := 0) (fun _ _ => Nat.le_refl _) true r V W; rw [stpX, stB]; omega
  | d + 1, r, V => stpL_le (stpX_le W d) false r V W
theorem stB_mono {j k : Nat} (h : j ≤ k) : ∀ d, stB j d ≤ stB k d
  | 0 => h
  | d + 1 => Nat.mul_le_mul h (by have := stB_mono h d; omega)
theorem cntL_le {rec : ByteArray → List ByteArray → Nat} {n B : Nat} (hB : 1 ≤ B) (hr : ∀ r V, rec r V ≤ B) (full : Bool) (r : ByteArray) (V : List ByteArray) : ∀ cs : List ByteArray, cntL rec n full r V cs ≤ cs.length * B
  | [] => by simp [cntL]
  | c :: cs => by
    have h1 := cntL_le hB hr (n := n) full r V cs
    rw [cntL, List.length_cons, Nat.succ_mul]
    split
    · split <;> omega
    · split
      · omega
      · have := hr (applyR r c) (V ++ [applyR r c]); omega
def ctB (k : Nat) : Nat → Nat
  | 0 => k
  | d + 1 => k * (1 + ctB k d)
theorem cntX_le (n : Nat) (W : List ByteArray) : ∀ (d : Nat) (r : ByteArray) (V : List ByteArray), cntX n W d r V ≤ stB W.length d
  | 0, r, V => by have := cntL_le (n := n) (rec := fun _ _ => 0) (B := 1) (Nat.le_refl _) (fun _ _ => Nat.zero_le _) true r V W; rw [cntX, stB]; omega
  | d + 1, r, V => cntL_le (by omega) (fun r V => by have := cntX_le n W d r V; omega) false r V W
theorem place_zero {n : Nat} {s : ByteArray} (h3 : 3 ≤ n) (h8 : n ≤ 8) (h : RowN n s) : place s = 0 ↔ s = roundsS n := by
  have h0 := place_rounds n (by omega)
  constructor
  · intro e; exact rowN_inj h (rowN_rounds h3 h8) (by rw [e, h0])
  · intro e; rw [e, h0]
theorem RowN.apply {n : Nat} {r : ByteArray} (h : RowN n r) (c : ByteArray) : RowN n (applyR r c) := ⟨good_apply h.1 c, by rw [applyR_size]; exact h.2⟩
theorem ClOk.snoc {n : Nat} {V : List ByteArray} {x : ByteArray} (h : ClOk n V) (hx : RowN n x) (hn : inL V x = false) : ClOk n (V ++ [x]) := by
  refine ⟨List.nodup_append.2 ⟨h.1, by simp, fun a ha b hb he => ?_⟩, fun s hs => ?_⟩
  · rw [List.mem_singleton.1 hb] at he
    subst he
    rw [inL_iff.2 ha] at hn; cases hn
  · rcases List.mem_append.1 hs with hs | hs
    · exact h.2 s hs
    · rw [List.mem_singleton.1 hs]; exact hx
/-- With all rows seen each row is seen. -/
theorem full_in {n : Nat} {V : List ByteArray} {x : ByteArray} (h : ClOk n V) (hx : RowN n x) (hl : V.length = fact n) : inL V x = true := inL_iff.2 (rows_all h.1 h.2 (by omega) hx)
theorem drop_at {α : Type} {l : List α} {k : Nat} {x : α} (h : l[k]? = some x) : l.drop k = x :: l.drop (k + 1) := by
  obtain ⟨hk, e⟩ := List.getElem?_eq_some_iff.1 h
  rw [List.drop_eq_getElem_cons hk, e]
end Go.Proofs.Ytpccbmndgdiloaa
/- Plain laws of the program's search: it finds one, or counts all. -/
namespace Go.Proofs.Ytpccbmndgdiloaa
set_option linter.unusedVariables false
set_option linter.unusedSimpArgs false
open Go.ChangeShapes Go.WideShapes Go.ChangeAt Go.RowKit Go.Deep
abbrev FateG := Option (List ByteArray) ⊕ (Nat × Nat)
def gL (rec : ByteArray → List ByteArray → List ByteArray → Nat → Nat → FateG) (n : Nat) (al full : Bool) (r : ByteArray) (V P : List ByteArray) : List ByteArray → Nat → Nat → FateG
  | [], left, k => .inr (left, k)
  | _ :: _, 0, _ => .inl none
  | c :: cs, left + 1, k =>
    if full = true ∧ decide (applyR r c = roundsS n) = true then (if al = true then gL rec n al full r V P cs left (k + 1) else .inl (some (P ++ [c])))
    else if full = true ∨ inL V (applyR r c) = true then gL rec n al full r V P cs left k
    else match rec (applyR r c) (V ++ [applyR r c]) (P ++ [c]) left k with
      | .inr lk => gL rec n al full r V P cs lk.1 lk.2
      | .inl o => .inl o
def gX (n : Nat) (W : List ByteArray) (al : Bool) : Nat → ByteArray → List ByteArray → List ByteArray → Nat → Nat → FateG
  | 0, r, V, P, left, k => gL (fun _ _ _ l k => .inr (l, k)) n al true r V P W left k
  | d + 1, r, V, P, left, k => gL (gX n W al d) n al false r V P W left k
def recG (n : Nat) (W : List ByteArray) (al : Bool) (d : Nat) : ByteArray → List ByteArray → List ByteArray → Nat → Nat → FateG := match d with | 0 => fun _ _ _ l k => .inr (l, k) | d + 1 => gX n W al d
theorem gX_recG (n : Nat) (W : List ByteArray) (al : Bool) (d : Nat) (r : ByteArray) (V P : List ByteArray) (left k : Nat) : gX n W al d r V P left k = gL (recG n W al d) n al (decide (d = 0)) r V P W left k := by
  cases d <;> rfl
section
variable {rec : ByteArray → List ByteArray → List ByteArray → Nat → Nat → FateG} {n : Nat} {al full : Bool} {r c : ByteArray} {V P cs : List ByteArray} {left k : Nat}
theorem gL_over : gL rec n al full r V P (c :: cs) 0 k = .inl none := by rw [gL]
theorem gL_hit (h : full = true) (h2 : applyR r c = roundsS n) (ha : al = false) : gL rec n al full r V P (c :: cs) (left + 1) k = .inl (some (P ++ [c])) := by
  rw [gL, if_pos ⟨h, decide_eq_true h2⟩, if_neg (by rw [ha]; simp)]
theorem gL_one (h : full = true) (h2 : applyR r c = roundsS n) (ha : al = true) : gL rec n al full r V P (c :: cs) (left + 1) k = gL rec n al full r V P cs left (k + 1) := by
  rw [gL, if_pos ⟨h, decide_eq_true h2⟩, if_pos ha]
theorem gL_skip (h : ¬ (full = true ∧ applyR r c = roundsS n)) (h2 : full = true ∨ inL V (applyR r c) = true) : gL rec n al full r V P (c :: cs) (left + 1) k = gL rec n al full r V P cs left k := by
  rw [gL, if_neg (fun q => h ⟨q.1, of_decide_eq_true q.2⟩), if_pos h2]
theorem gL_in (h : full = false) (h2 : inL V (applyR r c) = false) : gL rec n al full r V P (c :: cs) (left + 1) k = match rec (applyR r c) (V ++ [applyR r c]) (P ++ [c]) left k with
      | .inr lk => gL rec n al full r V P cs lk.1 lk.2
      | .inl o => .inl o := by
  rw [gL, if_neg (fun q => by rw [h] at q; cases q.1), if_neg (fun q => by rw [h, h2] at q; rcases q with q | q <;> cases q)]
theorem gL_in_go {lk : Nat × Nat} (h : full = false) (h2 : inL V (applyR r c) = false) (h3 : rec (applyR r c) (V ++ [applyR r c]) (P ++ [c]) left k = .inr lk) : gL rec n al full r V P (c :: cs) (left + 1) k = gL rec n al full r V P cs lk.1 lk.2 := by
  rw [gL_in h h2, h3]
theorem gL_in_end {o : Option (List ByteArray)} (h : full = false) (h2 : inL V (applyR r c) = false) (h3 : rec (applyR r c) (V ++ [applyR r c]) (P ++ [c]) left k = .inl o) : gL rec n al full r V P (c :: cs) (left + 1) k = .inl o := by
  rw [gL_in h h2, h3]
end
theorem gL_le {rec : ByteArray → List ByteArray → List ByteArray → Nat → Nat → FateG} (hr : ∀ r V P left k lk, rec r V P left k = .inr lk → lk.1 ≤ left ∧ lk.2 + lk.1 ≤ k + left) (n : Nat) (al full : Bool) (r : ByteArray) (V P : List ByteArray) : ∀ (cs : List ByteArray) (left k : Nat) (lk : Nat × Nat), gL rec n al full r V P cs left k = .inr lk → lk.1 ≤ left ∧ lk.2 + lk.1 ≤ k + left
  | [], left, k, lk, h => by rw [gL] at h; injection h with h; subst h; exact ⟨Nat.le_refl _, Nat.le_refl _⟩
  | c :: cs, 0, k, lk, h => by rw [gL] at h; cases h
  | c :: cs, left + 1, k, lk, h => by
    rw [gL] at h
    split at h
    · split at h
      · have := gL_le hr n al full r V P cs left (k + 1) lk h; omega
      · cases h
    · split at h
      · have := gL_le hr n al full r V P cs left k lk h; omega
      · rcases q : rec (applyR r c) (V ++ [applyR r c]) (P ++ [c]) left k with o | l2
        · rw [q] at h; cases h
        · rw [q] at h
          have h1 := gL_le hr n al full r V P cs l2.1 l2.2 lk h
          have h2 := hr _ _ _ _ _ _ q
          omega
theorem gX_le (n : Nat) (W : List ByteArray) (al : Bool) : ∀ (d : Nat) (r : ByteArray) (V P : List ByteArray) (left k : Nat) (lk : Nat × Nat), gX n W al d r V P left k = .inr lk → lk.1 ≤ left ∧ lk.2 + lk.1 ≤ k + left
  | 0, r, V, P, left, k, lk, h => gL_le (fun r V P left k lk h => by injection h with h; subst h; exact ⟨Nat.le_refl _, Nat.le_refl _⟩) n al true r V P W left k lk h
  | d + 1, r, V, P, left, k, lk, h => gL_le (gX_le n W al d) n al false r V P W left k lk h
/-! one way -/
def withK (k : Nat) : Fate → FateG
  | .inr l => .inr (l, k)
  | .inl o => .inl o
theorem gL_find {rg : ByteArray → List ByteArray → List ByteArray → Nat → Nat → FateG} {rs : ByteArray → List ByteArray → List ByteArray → Nat → Fate} (hr : ∀ r V P left k, rg r V P left k = withK k (rs r V P left)) (n : Nat) (full : Bool) (r : ByteArray) (V P : List ByteArray) (k : Nat) : ∀ (cs : List ByteArray) (left : Nat), gL rg n false full r V P cs left k = withK k (srchL rs n full r V P cs left)
  | [], left => by rw [gL, srchL]; rfl
  | c :: cs, 0 => by rw [gL, srchL]; rfl
  | c :: cs, left + 1 => by
    rw [gL, srchL]
    split
    · rw [if_neg (by simp)]; rfl
    · split
      · exact gL_find hr n full r V P k cs left
      · rw [hr]
        rcases rs (applyR r c) (V ++ [applyR r c]) (P ++ [c]) left with o | l
        · rfl
        · exact gL_find hr n full r V P k cs l
theorem gX_find (n : Nat) (W : List ByteArray) : ∀ (d : Nat) (r : ByteArray) (V P : List ByteArray) (left k : Nat), gX n W false d r V P left k = withK k (srch n W d r V P left)
  | 0, r, V, P, left, k => gL_find (rs := fun _ _ _ l => .inr l) (fun _ _ _ _ _ => rfl) n true r V P k W left
  | d + 1, r, V, P, left, k => gL_find (gX_find n W d) n false r V P k W left
/-! all ways -/
theorem gL_count {rg : ByteArray → List ByteArray → List ByteArray → Nat → Nat → FateG} {rc rs : ByteArray → List ByteArray → Nat} (hr : ∀ r V P left k, rs r V ≤ left → rg r V P left k = .inr (left - rs r V, k + rc r V)) (n : Nat) (full : Bool) (r : ByteArray) (V P : List ByteArray) : ∀ (cs : List ByteArray) (left k : Nat), stpL rs full r V cs ≤ left → gL rg n true full r V P cs left k = .inr (left - stpL rs full r V cs, k + cntL rc n full r V cs)
  | [], left, k, h => by rw [gL, stpL, cntL]; rfl
  | c :: cs, 0, k, h => by rw [stpL] at h; omega
  | c :: cs, left + 1, k, h => by
    rw [stpL] at h ⊢
    by_cases hf : full = true
    · subst hf
      rw [if_pos (.inl rfl)] at h ⊢
      by_cases hx : applyR r c = roundsS n
      · rw [gL_one rfl hx rfl, gL_count hr n true r V P cs left (k + 1) (by omega), cntL, if_pos rfl, if_pos (decide_eq_true hx)]
        congr 2 <;> omega
      · rw [gL_skip (fun q => hx q.2) (.inl rfl), gL_count hr n true r V P cs left k (by omega), cntL, if_pos rfl, if_neg (by rw [decide_eq_false hx]; simp)]
        congr 2 <;> omega
    · have hf2 : full = false := by cases full <;> simp_all
      subst hf2
      rcases hin : inL V (applyR r c)
      · rw [if_neg (by rw [hin]; simp)] at h
        rw [if_neg (by simp)]
        rw [gL_in_go rfl hin (hr _ _ _ left k (by omega)), gL_count hr n false r V P cs _ _ (by simp only; omega), cntL, if_neg (by simp), if_neg (by rw [hin]; simp)]
        simp only
        congr 2 <;> omega
      · rw [if_pos (.inr hin)] at h
        rw [if_pos (.inr rfl)]
        rw [gL_skip (fun q => by cases q.1) (.inr hin), gL_count hr n false r V P cs left k (by omega), cntL, if_neg (by simp), if_pos hin]
        congr 2 <;> omega
theorem gX_count (n : Nat) (W : List ByteArray) : ∀ (d : Nat) (r : ByteArray) (V P : List ByteArray) (left k : Nat), stpX W d r V ≤ left → gX n W true d r V P left k = .inr (left - stpX W d r V, k + cntX n W d r V)
  | 0, r, V, P, left, k, h => gL_count (rc := fun _ _ => 0) (rs := fun _ _ => 0) (fun _ _ _ _ _ _ => rfl) n true r V P W left k h
  | d + 1, r, V, P, left, k, h => gL_count (fun r V P left k h => gX_count n W d r V P left k h) n false r V P W left k h
end Go.Proofs.Ytpccbmndgdiloaa
/- Plain laws of extents: how few changes a stage of three has; what the outer functions give. -/
namespace Go.Proofs.Ytpccbmndgdiloaa
set_option linter.unusedVariables false
set_option linter.unusedSimpArgs false
open Go.ChangeShapes Go.WideShapes Go.ChangeAt Go.RowKit Go.Deep
theorem inc_less {l : List ByteArray} (h : incB l = true) : ∀ (d i : Nat) (x y : ByteArray), l[i]? = some x → l[i + d + 1]? = some y → less x y = true
  | 0, i, x, y, hx, hy => by
    rw [incB, List.all_eq_true] at h
    have := h (i + 1) (List.mem_range.2 (List.getElem?_eq_some_iff.1 hy).1)
    rwa [okInc_pos (by omega) (by simpa using hx) hy] at this
  | d + 1, i, x, y, hx, hy => by
    have hl := (List.getElem?_eq_some_iff.1 hy).1
    obtain ⟨z, hz⟩ := some_of_lt (l := l) (k := i + d + 1) (by omega)
    have h1 := inc_less h d i x z hx hz
    have h2 := inc_less h 0 (i + d + 1) z y hz hy
    exact less_trans h1 h2
theorem inc_nodup {l : List ByteArray} (h : incB l = true) : l.Nodup := by
  rw [List.nodup_iff_pairwise_ne, List.pairwise_iff_getElem]
  intro i j hi hj hij e
  obtain ⟨d, rfl⟩ : ∃ d, j = i + d + 1 := ⟨j - i - 1, by omega⟩
  have := inc_less h d i _ _ (List.getElem?_eq_getElem hi) (List.getElem?_eq_getElem hj)
  rw [e, less_irr] at this
  cases this
theorem change3 {c : ByteArray} (h : goodChange 3 c = true) : c ∈ [(⟨#[49]⟩ : ByteArray), ⟨#[50]⟩, ⟨#[51]⟩] := by
  have hs : sizeOk 3 c = true := by
    rcases q : sizeOk 3 c
    · rw [goodChange_size q] at h; cases h
    · rfl
  have hz := sizeOk_t hs
  have hc1 : c.size = 1 := by omega
  have hd : isDash c = false := by
    rcases q : isDash c
    · rfl
    · rw [goodChange_dash (by decide) hs q] at h; cases h
  rw [goodChange_chain (by decide) hs hd] at h
  have e1 : digs c = [dg c 0] := by rw [digs, hc1]; rfl
  have hv := chain_in 3 (digs c) 0 (by omega) (by omega) h
  rw [e1] at h hv
  have h2 := chain_len 3 [dg c 0] 0 (by omega) h
  simp only [chain, stepOk, Bool.and_eq_true] at h
  have h3 := inB_t h.1.1
  have hn : nums c = [PlainAid.bt c 0] := by rw [nums, hc1]; rfl
  have hb : PlainAid.bt c 0 = 49 ∨ PlainAid.bt c 0 = 50 ∨ PlainAid.bt c 0 = 51 := by simp only [dg] at h3; omega
  rcases hb with hb | hb | hb
  · have : c = ⟨#[49]⟩ := nums_inj (by rw [hn, hb]; decide)
    rw [this]; simp
  · have : c = ⟨#[50]⟩ := nums_inj (by rw [hn, hb]; decide)
    rw [this]; simp
  · have : c = ⟨#[51]⟩ := nums_inj (by rw [hn, hb]; decide)
    rw [this]; simp
theorem with3 {l : List ByteArray} (h : goodWith 3 l = true) : l.length ≤ 3 := by
  have h1 := (goodWith_stage_t h).2.2
  rw [goodWith_parts, Bool.and_eq_true, Bool.and_eq_true] at h
  have h2 := (inc_nodup h.1.2).length_le_of_subset (l₂ := [(⟨#[49]⟩ : ByteArray), ⟨#[50]⟩, ⟨#[51]⟩]) (fun c hc => change3 (allCh_mem h1 c hc))
  exact h2
def okCount (n : Int) (l : List ByteArray) : Bool := decide (n = 3) && goodWith n l
def countR (n : Int) (l : List ByteArray) : Int := if okCount n l = true then (cntX 3 l 5 (roundsS 3) [roundsS 3] : Int) else 0
theorem countR_f {n : Int} {l : List ByteArray} (h : okCount n l = false) : countR n l = 0 := by rw [countR, if_neg (by rw [h]; simp)]
theorem countR_t {n : Int} {l : List ByteArray} (h : okCount n l = true) : countR n l = (cntX 3 l 5 (roundsS 3) [roundsS 3] : Int) := by rw [countR, if_pos h]
theorem count_le {l : List ByteArray} (h : l.length ≤ 3) : cntX 3 l 5 (roundsS 3) [roundsS 3] ≤ 1092 ∧ stpX l 5 (roundsS 3) [roundsS 3] ≤ 1092 := by
  have h1 := cntX_le 3 l 5 (roundsS 3) [roundsS 3]
  have h2 := stpX_le l 5 (roundsS 3) [roundsS 3]
  have h3 := stB_mono h 5
  have h4 : stB 3 5 = 1092 := by decide
  omega
/-! one extent -/
def okFind (n : Int) (l : List ByteArray) (s : Int) : Bool := (inB n 3 4 && goodWith n l) && inB s 1 200000
def fateR (n : Nat) (l : List ByteArray) (s : Nat) : Fate := srch n l (fact n - 1) (roundsS n) [roundsS n] [] s
def fdL (n : Int) (l : List ByteArray) (s : Int) : List ByteArray := if okFind n l s = true then (match fateR n.toNat l s.toNat with | .inl (some q) => q | _ => []) else []
def fdC (n : Int) (l : List ByteArray) (s : Int) : Int := if okFind n l s = true then (match fateR n.toNat l s.toNat with | .inl (some _) => 1 | .inl none => 3 | .inr _ => 2) else 0
theorem fd_f {n : Int} {l : List ByteArray} {s : Int} (h : okFind n l s = false) : fdL n l s = [] ∧ fdC n l s = 0 := by
  rw [fdL, fdC, if_neg (by rw [h]; simp), if_neg (by rw [h]; simp)]; exact ⟨rfl, rfl⟩
theorem fd_hit {n s : Nat} {l q : List ByteArray} (h : okFind n l s = true) (h2 : fateR n l s = .inl (some q)) : fdL n l s = q ∧ fdC n l s = 1 := by
  rw [fdL, fdC, if_pos h, if_pos h, show ((n : Int).toNat) = n from rfl, show ((s : Int).toNat) = s from rfl, h2]; exact ⟨rfl, rfl⟩
theorem fd_over {n s : Nat} {l : List ByteArray} (h : okFind n l s = true) (h2 : fateR n l s = .inl none) : fdL n l s = [] ∧ fdC n l s = 3 := by
  rw [fdL, fdC, if_pos h, if_pos h, show ((n : Int).toNat) = n from rfl, show ((s : Int).toNat) = s from rfl, h2]; exact ⟨rfl, rfl⟩
theorem fd_go {n s k : Nat} {l : List ByteArray} (h : okFind n l s = true) (h2 : fateR n l s = .inr k) : fdL n l s = [] ∧ fdC n l s = 2 := by
  rw [fdL, fdC, if_pos h, if_pos h, show ((n : Int).toNat) = n from rfl, show ((s : Int).toNat) = s from rfl, h2]; exact ⟨rfl, rfl⟩
/-- The way found: changes from the list, at most as many as there are rows. -/
theorem srchL_way {rec : ByteArray → List ByteArray → List ByteArray → Nat → Fate} {W : List ByteArray} {n D : Nat} (hr : ∀ r V P left q, rec r V P left = .inl (some q) → (∀ c ∈ P, c ∈ W) → (∀ c ∈ q, c ∈ W) ∧ q.length ≤ P.length + D) (full : Bool) (r : ByteArray) (V P : List ByteArray) (hP : ∀ c ∈ P, c ∈ W) :
    ∀ (cs : List ByteArray) (left : Nat) (q : List ByteArray), (∀ c ∈ cs, c ∈ W) → srchL rec n full r V P cs left = .inl (some q) → (∀ c ∈ q, c ∈ W) ∧ q.length ≤ P.length + (D + 1)
  | [], left, q, hc, h => by rw [srchL] at h; cases h
  | c :: cs, 0, q, hc, h => by rw [srchL] at h; cases h
  | c :: cs, left + 1, q, hc, h => by
    have hPc : ∀ c' ∈ P ++ [c], c' ∈ W := fun c' h' => by
      rcases List.mem_append.1 h' with h' | h'
      · exact hP c' h'
      · rw [List.mem_singleton.1 h']; exact hc c (List.mem_cons_self ..)
    rw [srchL] at h
    split at h
    · injection h with h; injection h with h
      subst h
      exact ⟨hPc, by simp⟩
    · split at h
      · exact srchL_way hr full r V P hP cs left q (fun c' h' => hc c' (List.mem_cons_of_mem _ h')) h
      · rcases e : rec (applyR r c) (V ++ [applyR r c]) (P ++ [c]) left with o | l2
        · rw [e] at h
          injection h with h
          subst h
          have := hr _ _ _ _ _ e hPc
          refine ⟨this.1, ?_⟩
          have h2 := this.2
          rw [List.length_append, List.length_singleton] at h2
          omega
        · rw [e] at h
          exact srchL_way hr full r V P hP cs l2 q (fun c' h' => hc c' (List.mem_cons_of_mem _ h')) h
theorem srch_way (n : Nat) (W : List ByteArray) : ∀ (d : Nat) (r : ByteArray) (V P : List ByteArray) (left : Nat) (q : List ByteArray), srch n W d r V P left = .inl (some q) → (∀ c ∈ P, c ∈ W) → (∀ c ∈ q, c ∈ W) ∧ q.length ≤ P.length + (d + 1)
  | 0, r, V, P, left, q, h, hP => srchL_way (D := 0) (rec := fun _ _ _ l => .inr l) (fun r V P left q h _ => by cases h) true r V P hP W left q (fun c h => h) h
  | d + 1, r, V, P, left, q, h, hP => srchL_way (D := d + 1) (fun r V P left q h hP => srch_way n W d r V P left q h hP) false r V P hP W left q (fun c h => h) h
theorem fd_way {n s : Nat} {l q : List ByteArray} (h : fateR n l s = .inl (some q)) (h8 : n ≤ 4) : (∀ c ∈ q, c ∈ l) ∧ q.length ≤ 24 := by
  have h1 := srch_way n l _ _ _ _ _ _ h (fun c hc => by cases hc)
  have h2 : ∀ n, n < 5 → fact n ≤ 24 := of_decide_eq_true (by kernel_rfl)
  have h3 := h2 n (by omega)
  have h4 := fact_pos n
  simp only [List.length_nil] at h1
  exact ⟨h1.1, by omega⟩
end Go.Proofs.Ytpccbmndgdiloaa
/- Plain laws of extents that are not there: an extent needs all rows and an odd change; the count of all agrees. -/
namespace Go.Proofs.Ytpccbmndgdiloaa
set_option linter.unusedVariables false
set_option linter.unusedSimpArgs false
open Go.ChangeShapes Go.WideShapes Go.ChangeAt Go.RowKit Go.Deep
/-! what some rows generate is closed -/
theorem clAdd_mem (x g : ByteArray) (L : List ByteArray) : timesS x g ∈ clAdd x L g := by
  by_cases h : timesS x g ∈ L
  · rw [clAdd_in h]; exact h
  · rw [clAdd_new h]; simp
theorem clPart_mem {gs : List ByteArray} {x g : ByteArray} (L : List ByteArray) (hg : g ∈ gs) : timesS x g ∈ clPart gs x gs.length L := by
  obtain ⟨j, hj⟩ := List.getElem?_of_mem hg
  have hl := (List.getElem?_eq_some_iff.1 hj).1
  obtain ⟨d, e⟩ : ∃ d, gs.length = j + 1 + d := ⟨gs.length - (j + 1), by omega⟩
  have h1 := clPart_mono gs x L (j + 1) d
  rw [← e, clPart_succ L hj] at h1
  exact h1.subset (clAdd_mem x g _)
theorem clF_shut {n : Nat} {gs : List ByteArray} (h3 : 3 ≤ n) (h8 : n ≤ 8) (hg : ∀ g ∈ gs, RowN n g) {x g : ByteArray} (hx : x ∈ clF n gs) (hgg : g ∈ gs) : timesS x g ∈ clF n gs := by
  obtain ⟨k, hk⟩ := List.getElem?_of_mem hx
  have hl := (List.getElem?_eq_some_iff.1 hk).1
  have h1 : k < (clAt gs (roundsS n) k).length := by
    by_cases h : (clAt gs (roundsS n) k).length ≤ k
    · have hle := (clF_ok h3 h8 hg).le
      obtain ⟨d, e⟩ : ∃ d, fact n = k + d := ⟨fact n - k, by omega⟩
      have h2 : clF n gs = clAt gs (roundsS n) k := by rw [clF, e, clAt_stays h]
      rw [h2] at hl; omega
    · omega
  have h2 : (clAt gs (roundsS n) k)[k]? = some x := by
    obtain ⟨t, ht⟩ := clF_pre h3 h8 hg k
    rw [← ht, List.getElem?_append_left h1] at hk
    exact hk
  have h3' := clF_pre h3 h8 hg (k + 1)
  rw [clAt_more h2] at h3'
  exact h3'.subset (clPart_mem _ hgg)
theorem clF_first {n : Nat} {gs : List ByteArray} (h3 : 3 ≤ n) (h8 : n ≤ 8) (hg : ∀ g ∈ gs, RowN n g) : roundsS n ∈ clF n gs := (clF_pre h3 h8 hg 0).subset (by simp [clAt])
theorem clAt_all {Q : ByteArray → Prop} {gs : List ByteArray} {r : ByteArray} (h0 : Q r) (hs : ∀ x, Q x → ∀ g ∈ gs, Q (timesS x g)) : ∀ k, ∀ s ∈ clAt gs r k, Q s
  | 0 => fun s h => by rw [clAt, List.mem_singleton] at h; rw [h]; exact h0
  | k + 1 => by
    have ih := clAt_all h0 hs k
    rcases e : (clAt gs r k)[k]? with _ | x
    · rw [clAt_stop (List.getElem?_eq_none_iff.1 e)]; exact ih
    · rw [clAt_more e]
      have hx := ih x (List.mem_of_getElem? e)
      have key : ∀ (fs L : List ByteArray), (∀ g ∈ fs, g ∈ gs) → (∀ s ∈ L, Q s) → ∀ s ∈ fs.foldl (clAdd x) L, Q s := by
        intro fs
        induction fs with
        | nil => intro L _ hL; exact hL
        | cons g fs ihf =>
          intro L hf hL
          refine ihf _ (fun y hy => hf y (List.mem_cons_of_mem _ hy)) fun s h => ?_
          by_cases hin : timesS x g ∈ L
          · rw [clAdd_in hin] at h; exact hL s h
          · rw [clAdd_new hin] at h
            rcases List.mem_append.1 h with h | h
            · exact hL s h
            · rw [List.mem_singleton.1 h]; exact hs x hx g (hf g (List.mem_cons_self ..))
      exact key _ _ (fun g h => List.mem_of_mem_take h) ih
/-! a way found goes through all rows -/
theorem srchL_all {rec : ByteArray → List ByteArray → List ByteArray → Nat → Fate} {n : Nat} {C W : List ByteArray} {G : Prop} (hC : ∀ v ∈ C, ∀ c ∈ W, applyR v c ∈ C) {d : Nat}
    (hr : ∀ r V P left q, rec r V P left = .inl (some q) → ClOk n V → RowN n r → r ∈ C → (∀ v ∈ V, v ∈ C) → V.length + d = fact n → G)
    {r : ByteArray} {V P : List ByteArray} (hV : ClOk n V) (hrr : RowN n r) (hrC : r ∈ C) (hVC : ∀ v ∈ V, v ∈ C) (hl : V.length + (d + 1) = fact n) : ∀ (cs : List ByteArray) (left : Nat) (q : List ByteArray), (∀ c ∈ cs, c ∈ W) → srchL rec n false r V P cs left = .inl (some q) → G
  | [], left, q, hc, h => by rw [srchL] at h; cases h
  | c :: cs, 0, q, hc, h => by rw [srchL] at h; cases h
  | c :: cs, left + 1, q, hc, h => by
    have hcs : ∀ c' ∈ cs, c' ∈ W := fun c' h' => hc c' (List.mem_cons_of_mem _ h')
    have hcW := hc c (List.mem_cons_self ..)
    rcases hin : inL V (applyR r c)
    · rcases q2 : rec (applyR r c) (V ++ [applyR r c]) (P ++ [c]) left with o | l2
      · rw [srchL_in_end rfl hin q2] at h
        injection h with h
        subst h
        exact hr _ _ _ _ _ q2 (hV.snoc (hrr.apply c) hin) (hrr.apply c) (hC r hrC c hcW) (fun v hv => by
          rcases List.mem_append.1 hv with hv | hv
          · exact hVC v hv
          · rw [List.mem_singleton.1 hv]; exact hC r hrC c hcW) (by rw [List.length_append]; simp only [List.length_singleton]; omega)
      · rw [srchL_in_go rfl hin q2] at h
        exact srchL_all hC hr hV hrr hrC hVC hl cs l2 q hcs h
    · rw [srchL_skip (fun e => by cases e.1) (.inr hin)] at h
      exact srchL_all hC hr hV hrr hrC hVC hl cs left q hcs h
theorem srch_all {n : Nat} {C W : List ByteArray} (hC : ∀ v ∈ C, ∀ c ∈ W, applyR v c ∈ C) : ∀ (d : Nat) (r : ByteArray) (V P : List ByteArray) (left : Nat) (q : List ByteArray), srch n W d r V P left = .inl (some q) → ClOk n V → RowN n r → r ∈ C → (∀ v ∈ V, v ∈ C) → V.length + d = fact n → fact n ≤ C.length
  | 0, r, V, P, left, q, h, hV, hr, hrC, hVC, hl => by
    have := hV.1.length_le_of_subset hVC
    omega
  | d + 1, r, V, P, left, q, h, hV, hr, hrC, hVC, hl => by
    rw [srch] at h
    exact srchL_all hC (srch_all hC d) hV hr hrC hVC hl W left q (fun c h => h) h
/-! the count of all ways -/
theorem srchL_cnt {rs : ByteArray → List ByteArray → List ByteArray → Nat → Fate} {rc : ByteArray → List ByteArray → Nat} (hr : ∀ r V P left, (∀ q, rs r V P left = .inl (some q) → 0 < rc r V) ∧ (∀ l, rs r V P left = .inr l → rc r V = 0)) (n : Nat) (full : Bool) (r : ByteArray) (V P : List ByteArray) :
    ∀ (cs : List ByteArray) (left : Nat), (∀ q, srchL rs n full r V P cs left = .inl (some q) → 0 < cntL rc n full r V cs) ∧ (∀ l, srchL rs n full r V P cs left = .inr l → cntL rc n full r V cs = 0)
  | [], left => ⟨fun q h => (by rw [srchL] at h; cases h), fun l _ => (by rw [cntL])⟩
  | c :: cs, 0 => ⟨fun q h => (by rw [srchL] at h; cases h), fun l h => (by rw [srchL] at h; cases h)⟩
  | c :: cs, left + 1 => by
    have ih := srchL_cnt hr n full r V P cs
    by_cases hf : full = true
    · subst hf
      by_cases hx : applyR r c = roundsS n
      · rw [srchL_hit rfl hx, cntL, if_pos rfl, if_pos (decide_eq_true hx)]
        exact ⟨fun q _ => (by omega), fun l h => (by cases h)⟩
      · rw [srchL_skip (fun q => hx q.2) (.inl rfl), cntL, if_pos rfl, if_neg (by rw [decide_eq_false hx]; simp), Nat.zero_add]
        exact ih left
    · have hf2 : full = false := by cases full <;> simp_all
      subst hf2
      rcases hin : inL V (applyR r c)
      · rw [cntL, if_neg (by simp), if_neg (by rw [hin]; simp)]
        have h1 := hr (applyR r c) (V ++ [applyR r c]) (P ++ [c]) left
        rcases q2 : rs (applyR r c) (V ++ [applyR r c]) (P ++ [c]) left with o | l2
        · rw [srchL_in_end rfl hin q2]
          refine ⟨fun q h => ?_, fun l h => (by cases h)⟩
          injection h with h
          subst h
          have := h1.1 q q2
          omega
        · rw [srchL_in_go rfl hin q2]
          have h2 := h1.2 l2 q2
          rw [h2, Nat.zero_add]
          exact ih l2
      · rw [srchL_skip (fun e => by cases e.1) (.inr hin), cntL, if_neg (by simp), if_pos hin]
        exact ih left
theorem srch_cnt (n : Nat) (W : List ByteArray) : ∀ (d : Nat) (r : ByteArray) (V P : List ByteArray) (left : Nat), (∀ q, srch n W d r V P left = .inl (some q) → 0 < cntX n W d r V) ∧ (∀ l, srch n W d r V P left = .inr l → cntX n W d r V = 0)
  | 0, r, V, P, left => srchL_cnt (rs := fun _ _ _ l => .inr l) (rc := fun _ _ => 0) (fun _ _ _ _ => ⟨fun q h => (by cases h), fun l _ => rfl⟩) n true r V P W left
  | d + 1, r, V, P, left => srchL_cnt (srch_cnt n W d) n false r V P W left
/-! together -/
theorem find_t {n s : Int} {l : List ByteArray} (h : okFind n l s = true) : (3 ≤ n ∧ n ≤ 4) ∧ goodWith n l = true := by
  rw [okFind, Bool.and_eq_true, Bool.and_eq_true] at h
  exact ⟨inB_t h.1.1, h.1.2⟩
theorem found_all {n s : Nat} {l q : List ByteArray} (h3 : 3 ≤ n) (h8 : n ≤ 8) (h : fateR n l s = .inl (some q)) : fact n ≤ reachN n l := by
  have hg := chs_rows h3 h8 l
  have hr := rowN_rounds h3 h8
  refine srch_all (n := n) (W := l) (C := clF n (l.map (chRow n))) (fun v hv c hc => ?_) (fact n - 1) (roundsS n) [roundsS n] [] s q h ⟨by simp, fun s hs => by rw [List.mem_singleton.1 hs]; exact hr⟩ hr (clF_first h3 h8 hg) (fun v hv => by rw [List.mem_singleton.1 hv]; exact clF_first h3 h8 hg) (by have := fact_pos n; simp only [List.length_singleton]; omega)
  have hv2 := (clF_ok h3 h8 hg).2 v hv
  have := clF_shut h3 h8 hg hv (List.mem_map_of_mem (f := chRow n) hc)
  rw [applyR, hv2.2]
  exact this
theorem reach_le {n : Nat} {l : List ByteArray} (h3 : 3 ≤ n) (h8 : n ≤ 8) : reachN n l ≤ fact n := (clF_ok h3 h8 (chs_rows h3 h8 l)).le
theorem odds_zero {m : Nat} {l : List ByteArray} (h : odds m l l.length = 0) : ∀ c ∈ l, evenSwaps m c = true := fun c hc => by
  rw [odds, List.take_length, List.length_eq_zero_iff, List.filter_eq_nil_iff] at h
  have := h c hc
  rcases e : evenSwaps m c
  · rw [isOdd, e] at this; simp at this
  · rfl
theorem odd_row {n : Nat} (h : n = 3 ∨ n = 4) : ∃ x, RowN n x ∧ evenRow x = false := by
  rcases h with rfl | rfl
  · exact ⟨⟨#[50, 49, 51]⟩, ⟨of_decide_eq_true (by kernel_rfl), rfl⟩, of_decide_eq_true (by kernel_rfl)⟩
  · exact ⟨⟨#[50, 49, 51, 52]⟩, ⟨of_decide_eq_true (by kernel_rfl), rfl⟩, of_decide_eq_true (by kernel_rfl)⟩
theorem even_not_all {n : Nat} {l : List ByteArray} (hn : n = 3 ∨ n = 4) (h : odds n l l.length = 0) : reachN n l ≠ fact n := by
  intro e
  have h3 : 3 ≤ n := by omega
  have h8 : n ≤ 8 := by omega
  have hg := chs_rows h3 h8 l
  have hz := odds_zero h
  have hok := clF_ok h3 h8 hg
  obtain ⟨x, hx, hxe⟩ := odd_row hn
  have hin := rows_all hok.1 hok.2 (by have : (clF n (l.map (chRow n))).length = fact n := e; omega) hx
  have hr0 : ∀ n, n < 9 → evenRow (roundsS n) = true := of_decide_eq_true (by kernel_rfl)
  have hall := clAt_all (Q := fun s => RowN n s ∧ evenRow s = true) (gs := l.map (chRow n)) (r := roundsS n) ⟨rowN_rounds h3 h8, hr0 n (by omega)⟩ (fun y hy g hgm => by
    refine ⟨hy.1.times (hg g hgm), ?_⟩
    obtain ⟨c, hc, rfl⟩ := List.mem_map.1 hgm
    have h1 := sign_apply hy.1.1 c
    rw [applyR, hy.1.2] at h1
    rw [h1, hy.2, hz c hc]; rfl) (fact n) x hin
  rw [hall.2] at hxe; cases hxe
def allN (n : Int) : Int := if n = 4 then 24 else 6
theorem noext {n s : Int} {l : List ByteArray} (h : okFind n l s = true) : okReach n l = true ∧ goodWith n l = true ∧ (n = 3 ∨ n = 4) ∧ (fdC n l s = 1 → reachR n l = allN n ∧ oddsR n l ≠ 0) ∧ (oddsR n l = 0 → reachR n l ≠ allN n) ∧ (0 ≤ reachR n l ∧ reachR n l ≤ allN n) ∧
    (n = 3 → okCount n l = true ∧ 0 ≤ countR n l ∧ (fdC n l s = 1 → countR n l ≠ 0) ∧ (fdC n l s = 2 → countR n l = 0)) := by
  obtain ⟨hn, hw⟩ := find_t h
  obtain ⟨m, rfl⟩ : ∃ m : Nat, n = (m : Int) := ⟨n.toNat, by omega⟩
  have hs := h
  rw [okFind, Bool.and_eq_true] at hs
  have hs2 := inB_t hs.2
  obtain ⟨t, rfl⟩ : ∃ t : Nat, s = (t : Int) := ⟨s.toNat, by omega⟩
  have hm : m = 3 ∨ m = 4 := by omega
  have hok : okReach m l = true := by rw [okReach, hw, decide_eq_true (by omega)]; rfl
  have hf : (fact m : Int) = allN m := by rcases hm with rfl | rfl <;> rfl
  have hle := reach_le (l := l) (n := m) (by omega) (by omega)
  rw [reachR_t hok, oddsR_t hw, ← hf]
  have hne := even_not_all (l := l) hm
  have A : fdC m l t = 1 → reachN m l = fact m := fun e => by
    rcases hF : fateR m l t with o | k
    · rcases o with _ | q
      · rw [(fd_over h hF).2] at e; omega
      · have := found_all (by omega) (by omega) hF; omega
    · rw [(fd_go h hF).2] at e; omega
  refine ⟨hok, hw, by omega, fun e => ⟨by rw [A e], fun e2 => hne (by omega) (A e)⟩, fun e e2 => hne (by omega) (by omega), by omega, fun e3 => ?_⟩
  obtain rfl : m = 3 := by omega
  have hoc : okCount ((3 : Nat) : Int) l = true := by rw [okCount, hw]; rfl
  rw [countR_t hoc]
  have hc := srch_cnt 3 l 5 (roundsS 3) [roundsS 3] [] t
  have hfr : fateR 3 l t = srch 3 l 5 (roundsS 3) [roundsS 3] [] t := rfl
  refine ⟨hoc, by omega, fun e => ?_, fun e => ?_⟩
  · rcases hF : fateR 3 l t with o | k
    · rcases o with _ | q
      · rw [(fd_over h hF).2] at e; omega
      · have := hc.1 q (by rw [← hfr]; exact hF); omega
    · rw [(fd_go h hF).2] at e; omega
  · rcases hF : fateR 3 l t with o | k
    · rcases o with _ | q
      · rw [(fd_over h hF).2] at e; omega
      · rw [(fd_hit h hF).2] at e; omega
    · have := hc.2 k (by rw [← hfr]; exact hF); omega
end Go.Proofs.Ytpccbmndgdiloaa
/- Lists of rows that are groups, and their even elements, in plain Lean. -/
namespace Go.Proofs.Ytpccbmndgdiloaa
set_option linter.unusedVariables false
set_option linter.unusedSimpArgs false
open Go.ChangeShapes Go.WideShapes Go.ChangeAt Go.RowKit Go.Deep
/-! signs of products -/
theorem evB_add (a b : Nat) : evB (a + b) = (evB a == evB b) := by
  simp only [evB]
  rcases Nat.mod_two_eq_zero_or_one a with h1 | h1 <;> rcases Nat.mod_two_eq_zero_or_one b with h2 | h2
  · rw [decide_eq_true (by omega), decide_eq_true h1, decide_eq_true h2]; rfl
  · rw [decide_eq_false (by omega), decide_eq_true h1, decide_eq_false (by omega)]; rfl
  · rw [decide_eq_false (by omega), decide_eq_false (by omega), decide_eq_true h2]; rfl
  · rw [decide_eq_true (by omega), decide_eq_false (by omega), decide_eq_false (by omega)]; rfl
theorem invs_perm {f : Int → Int} {l m : List Int} (h : l.Perm m) : l.Nodup → (∀ x ∈ l, ∀ y ∈ l, f x = f y → x = y) → (evB (invs (l.map f)) == evB (invs l)) = (evB (invs (m.map f)) == evB (invs m)) := by
  induction h with
  | nil => intro _ _; rfl
  | @cons x l m h ih =>
    intro hn hf
    have i2 := ih (List.nodup_cons.1 hn).2 (fun a ha b hb => hf a (List.mem_cons_of_mem _ ha) b (List.mem_cons_of_mem _ hb))
    have c1 : cnt (f x) (l.map f) = cnt (f x) (m.map f) := (h.map f).countP_eq _
    have c2 : cnt x l = cnt x m := h.countP_eq _
    simp only [List.map_cons, invs, evB_add, c1, c2]
    revert i2
    generalize evB (invs (l.map f)) = p; generalize evB (invs l) = q; generalize evB (invs (m.map f)) = r; generalize evB (invs m) = s
    generalize evB (cnt (f x) (m.map f)) = t; generalize evB (cnt x m) = u
    revert p q r s t u
    decide
  | swap x y l =>
    intro hn hf
    have hne : y ≠ x := fun e => (List.nodup_cons.1 hn).1 (by rw [e]; exact List.mem_cons_self ..)
    have hfe : f y ≠ f x := fun e => hne (hf y (List.mem_cons_self ..) x (List.mem_cons_of_mem _ (List.mem_cons_self ..)) e)
    have e1 := invs_swap hne l []
    have e2 := invs_swap hfe (l.map f) []
    simp only [List.nil_append] at e1 e2
    rw [List.map_cons, List.map_cons, List.map_cons, List.map_cons, e1, e2]
    generalize evB (invs (f x :: f y :: l.map f)) = p; generalize evB (invs (x :: y :: l)) = q
    revert p q
    decide
  | trans h1 h2 ih1 ih2 =>
    intro hn hf
    rw [ih1 hn hf, ih2 (h1.nodup_iff.1 hn) (fun x hx y hy => hf x (h1.mem_iff.2 hx) y (h1.mem_iff.2 hy))]
theorem even_rounds : ∀ n, n < 9 → evenRow (roundsS n) = true := of_decide_eq_true (by kernel_rfl)
theorem sign_times {n : Nat} {a b : ByteArray} (ha : RowN n a) (hb : RowN n b) : evenRow (timesS a b) = (evenRow a == evenRow b) := by
  have hs := ha.st
  have hr := rowN_rounds hs.1 hs.2
  have hp := row_perm (goodRow_list hb.1) (goodRow_list hr.1) (by rw [nums_len, nums_len, hb.2, hr.2])
  have la := goodRow_list ha.1
  have lb := goodRow_list hb.1
  have hinj : ∀ x ∈ nums b, ∀ y ∈ nums b, PlainAid.bt a (x - 49).toNat = PlainAid.bt a (y - 49).toNat → x = y := fun x hx y hy e => by
    have hx1 := lb.2 x hx; have hy1 := lb.2 y hy
    rw [nums_len, hb.2] at hx1 hy1
    have p1 := nums_at (s := a) (k := (x - 49).toNat) (by rw [ha.2]; omega)
    have p2 := nums_at (s := a) (k := (y - 49).toNat) (by rw [ha.2]; omega)
    have hd := la.1
    rw [List.nodup_iff_pairwise_ne, List.pairwise_iff_getElem] at hd
    have l1 := (List.getElem?_eq_some_iff.1 p1); have l2 := (List.getElem?_eq_some_iff.1 p2)
    obtain ⟨l1, q1⟩ := l1; obtain ⟨l2, q2⟩ := l2
    rcases Nat.lt_trichotomy (x - 49).toNat (y - 49).toNat with h | h | h
    · exact absurd (by rw [q1, q2, e]) (hd _ _ l1 l2 h)
    · omega
    · exact absurd (by rw [q1, q2, e]) (hd _ _ l2 l1 h)
  have key := invs_perm (f := fun z => PlainAid.bt a (z - 49).toNat) hp lb.1 hinj
  have e1 : (nums b).map (fun z => PlainAid.bt a (z - 49).toNat) = nums (timesS a b) := (nums_times ha.1 hb.1 (by rw [ha.2, hb.2])).symm
  have e2 : (nums (roundsS n)).map (fun z => PlainAid.bt a (z - 49).toNat) = nums a := by
    have h1 := nums_times ha.1 hr.1 (by rw [ha.2, hr.2])
    have h2 := times_rounds ha.1
    rw [ha.2] at h2
    rw [h2] at h1
    exact h1.symm
  rw [e1, e2, ← even_invs, ← even_invs, ← even_invs, ← even_invs, even_rounds n (by omega)] at key
  revert key
  generalize evenRow (timesS a b) = p; generalize evenRow a = q; generalize evenRow b = r
  revert p q r
  decide
/-! groups -/
theorem len_sub : ∀ {l R : List ByteArray}, l.Nodup → (∀ x ∈ l, x ∈ R) → l.length ≤ R.length
  | [], _, _, _ => Nat.zero_le _
  | x :: t, R, hn, hs => by
    have hx := List.nodup_cons.1 hn
    have hm : x ∈ R := hs x (List.mem_cons_self ..)
    have h2 : ∀ y ∈ t, y ∈ R.filter (fun y => decide (y ≠ x)) := fun y hy => by
      have hne : y ≠ x := fun e => hx.1 (e ▸ hy)
      exact List.mem_filter.2 ⟨hs y (List.mem_cons_of_mem _ hy), decide_eq_true hne⟩
    have h3 := len_sub hx.2 h2
    have h4 : (R.filter (fun y => decide (y ≠ x))).length < R.length := List.length_filter_lt_length_iff_exists.2 ⟨x, hm, by simp⟩
    rw [List.length_cons]
    omega
theorem halves_len {α : Type} (l : List α) (p : α → Bool) : (l.filter p).length + (l.filter fun s => !p s).length = l.length := by
  induction l with
  | nil => rfl
  | cons x r ih =>
    rcases e : p x
    · rw [List.filter_cons_of_neg (by rw [e]; simp), List.filter_cons_of_pos (by rw [e]; rfl), List.length_cons, List.length_cons]; omega
    · rw [List.filter_cons_of_pos (by rw [e]), List.filter_cons_of_neg (by rw [e]; simp), List.length_cons, List.length_cons]; omega
def hd0 (l : List ByteArray) : ByteArray := l.getD 0 ByteArray.empty
def shutL (l : List ByteArray) : Bool := l.all fun a => l.all fun b => inL l (timesS a b)
/-- The list's first row is rounds, and products stay in the list. -/
def grpR (l : List ByteArray) : Bool := decide (l[0]? = some (roundsS (hd0 l).size)) && shutL l
theorem shutL_iff {l : List ByteArray} : shutL l = true ↔ ∀ a ∈ l, ∀ b ∈ l, timesS a b ∈ l := by
  rw [shutL, List.all_eq_true]
  constructor
  · intro h a ha b hb
    have := h a ha
    rw [List.all_eq_true] at this
    exact inL_iff.1 (this b hb)
  · intro h a ha
    rw [List.all_eq_true]
    exact fun b hb => inL_iff.2 (h a ha b hb)
theorem hd0_of {l : List ByteArray} {x : ByteArray} (h : l[0]? = some x) : hd0 l = x := by rw [hd0, List.getD, h]; rfl
theorem grpR_iff {n : Nat} {l : List ByteArray} (h8 : n ≤ 8) : (∃ x, l[0]? = some x ∧ x.size = n) → (grpR l = true ↔ l[0]? = some (roundsS n) ∧ ∀ a ∈ l, ∀ b ∈ l, timesS a b ∈ l) := by
  rintro ⟨x, hx, hs⟩
  rw [grpR, Bool.and_eq_true, decide_eq_true_eq, shutL_iff, hd0_of hx, hs]
theorem grp_first {l : List ByteArray} {x : ByteArray} (h : l[0]? = some x) (hn : x ≠ roundsS x.size) : grpR l = false := by
  rw [grpR, hd0_of h, h, decide_eq_false (fun e => hn (by injection e))]; rfl
theorem grp_nil : grpR [] = false := rfl
theorem grp_bad {l : List ByteArray} {a b : ByteArray} (ha : a ∈ l) (hb : b ∈ l) (h : timesS a b ∉ l) : grpR l = false := by
  have : shutL l = false := by
    rcases e : shutL l
    · rfl
    · exact absurd (shutL_iff.1 e a ha b hb) h
  rw [grpR, this, Bool.and_false]
theorem grp_good {l : List ByteArray} {x : ByteArray} (h : l[0]? = some x) (hx : x = roundsS x.size) (hs : ∀ a ∈ l, ∀ b ∈ l, timesS a b ∈ l) : grpR l = true := by
  rw [grpR, shutL_iff.2 hs, hd0_of h, h, ← hx, decide_eq_true rfl]; rfl
theorem clF_in {n : Nat} {gs l : List ByteArray} (h0 : roundsS n ∈ l) (hg : ∀ g ∈ gs, g ∈ l) (hs : ∀ a ∈ l, ∀ b ∈ l, timesS a b ∈ l) : ∀ s ∈ clF n gs, s ∈ l :=
  clAt_all (Q := fun s => s ∈ l) h0 (fun x hx g hgg => hs x hx g (hg g hgg)) _
theorem clF_mul {n : Nat} {gs : List ByteArray} (h3 : 3 ≤ n) (h8 : n ≤ 8) (hg : ∀ g ∈ gs, RowN n g) {a b : ByteArray} (ha : a ∈ clF n gs) (hb : b ∈ clF n gs) : timesS a b ∈ clF n gs := by
  have hok := clF_ok h3 h8 hg
  have hr := rowN_rounds h3 h8
  have key : ∀ s ∈ clF n gs, RowN n s ∧ ∀ a ∈ clF n gs, timesS a s ∈ clF n gs := by
    refine clAt_all (Q := fun s => RowN n s ∧ ∀ a ∈ clF n gs, timesS a s ∈ clF n gs) ⟨hr, fun a ha => ?_⟩ (fun x hx g hgg => ⟨hx.1.times (hg g hgg), fun a ha => ?_⟩) _
    · have h2 := times_rounds (hok.2 a ha).1
      rw [(hok.2 a ha).2] at h2
      rw [h2]; exact ha
    · have hA := hok.2 a ha
      rw [times_assoc hA.1 hx.1.1 (hg g hgg).1 (by rw [hA.2, hx.1.2]) (by rw [hx.1.2, (hg g hgg).2])]
      exact clF_shut h3 h8 hg (hx.2 a ha) hgg
  exact (key b hb).2 a ha
theorem grp_no {n : Nat} {l gs : List ByteArray} (h3 : 3 ≤ n) (h8 : n ≤ 8) (hl : ∀ s ∈ l, RowN n s) (hne : ∃ x, l[0]? = some x) (hsub : ∀ g ∈ gs, g ∈ l) (hf : l.length < (clF n gs).length) : grpR l = false := by
  rcases e : grpR l
  · rfl
  · exfalso
    obtain ⟨x, hx⟩ := hne
    have hg := (grpR_iff h8 ⟨x, hx, (hl x (List.mem_of_getElem? hx)).2⟩).1 e
    have h1 := len_sub (clF_ok h3 h8 (fun g h => hl g (hsub g h))).1 (clF_in (List.mem_of_getElem? hg.1) hsub hg.2)
    omega
theorem grp_end {n : Nat} {l gs group : List ByteArray} (h3 : 3 ≤ n) (h8 : n ≤ 8) (hl : ∀ s ∈ l, RowN n s) (h0 : l[0]? = some (roundsS n)) (hsub : ∀ g ∈ gs, g ∈ l) (hall : ∀ s ∈ l, s ∈ clF n gs) (hp : group.Perm (clF n gs)) (hs : Srt group) (hS : Srt l) (hn : l.Nodup) : decide (group = l) = grpR l := by
  have hgs := fun g h => hl g (hsub g h)
  have hx0 := grpR_iff h8 ⟨_, h0, rounds_size n (by omega)⟩
  rw [Bool.eq_iff_iff, decide_eq_true_eq, hx0]
  constructor
  · intro e
    refine ⟨h0, fun a ha b hb => ?_⟩
    have := hp.mem_iff.2 (clF_mul h3 h8 hgs (hall a ha) (hall b hb))
    rw [e] at this
    exact this
  · rintro ⟨_, h⟩
    have hin := clF_in (List.mem_of_getElem? h0) hsub h
    refine srt_unique hs hS (hp.trans ((List.perm_ext_iff_of_nodup (clF_ok h3 h8 hgs).1 hn).2 fun s => ⟨hin s, hall s⟩))
theorem inc_pw {l : List ByteArray} (h : incB l = true) : l.Pairwise fun a b => less a b = true := by
  rw [List.pairwise_iff_getElem]
  intro i j hi hj hij
  exact inc_less h (j - i - 1) i _ _ (List.getElem?_eq_getElem hi) (by rw [show i + (j - i - 1) + 1 = j by omega]; exact List.getElem?_eq_getElem hj)
theorem inc_of {l : List ByteArray} (h : l.Pairwise fun a b => less a b = true) : incB l = true := by
  rw [List.pairwise_iff_getElem] at h
  rw [incB, List.all_eq_true]
  intro k hk
  have hk := List.mem_range.1 hk
  by_cases h0 : 0 < k
  · rw [okInc_pos h0 (List.getElem?_eq_getElem (by omega : k - 1 < l.length)) (List.getElem?_eq_getElem hk)]
    exact h _ _ (by omega) hk (by omega)
  · exact okInc_z h0
theorem goodRows_of' {n : Nat} {l : List ByteArray} (h : ∀ x ∈ l, RowN n x) (hl : l.length ≤ 800) : goodRows l = true := by
  rw [goodRows, Bool.and_eq_true, List.all_eq_true]
  refine ⟨fun k hk => ?_, decide_eq_true hl⟩
  have hk := List.mem_range.1 hk
  obtain ⟨x, hx⟩ := some_of_lt (l := l) (k := 0) (by omega)
  obtain ⟨y, hy⟩ := some_of_lt hk
  have h1 := h x (List.mem_of_getElem? hx); have h2 := h y (List.mem_of_getElem? hy)
  rw [okRow_at hx hy, h2.1, h2.2, h1.2]
  simp
theorem rows_of {l : List ByteArray} {x : ByteArray} (h : goodRows l = true) (hx : l[0]? = some x) : (3 ≤ x.size ∧ x.size ≤ 8) ∧ ∀ s ∈ l, RowN x.size s := by
  refine ⟨goodRow_n (goodRows_mem h x (List.mem_of_getElem? hx)), fun s hs => ⟨goodRows_mem h s hs, ?_⟩⟩
  obtain ⟨k, hk⟩ := List.getElem?_of_mem hs
  exact goodRows_size h hk hx
/-! even elements -/
def evR (l : List ByteArray) : List ByteArray := if goodRows l = true then l.filter evenRow else []
theorem evR_f {l : List ByteArray} (h : goodRows l = false) : evR l = [] := by rw [evR, if_neg (by rw [h]; simp)]
theorem evR_t {l : List ByteArray} (h : goodRows l = true) : evR l = l.filter evenRow := by rw [evR, if_pos h]
theorem evens_group {l : List ByteArray} (h : goodRows l = true) (hi : incB l = true) (hg : grpR l = true) :
    ((l.filter evenRow).length = l.length ∨ 2 * (l.filter evenRow).length = l.length) ∧ goodRows (l.filter evenRow) = true ∧ incB (l.filter evenRow) = true ∧ grpR (l.filter evenRow) = true := by
  rcases h0 : l[0]? with _ | x
  · rw [grpR, h0] at hg; cases hg
  · obtain ⟨⟨h3, h8⟩, hl⟩ := rows_of h h0
    obtain ⟨hr, hm⟩ := (grpR_iff h8 ⟨x, h0, rfl⟩).1 hg
    have hnd := inc_nodup hi
    refine ⟨?_, goodRows_of' (n := x.size) (fun s hs => hl s (List.mem_filter.1 hs).1) (Nat.le_trans (List.length_filter_le ..) (goodRows_len h)), inc_of ((inc_pw hi).filter _), ?_⟩
    · have hsum := halves_len l evenRow
      rcases ho : l.filter fun s => !evenRow s with _ | ⟨o, os⟩
      · rw [ho, List.length_nil] at hsum
        exact .inl (by omega)
      · right
        have hom : o ∈ l.filter fun s => !evenRow s := by rw [ho]; exact List.mem_cons_self ..
        have hol := (List.mem_filter.1 hom).1
        have hoo : evenRow o = false := by have := (List.mem_filter.1 hom).2; simpa using this
        have nd : ∀ p : ByteArray → Bool, ((l.filter p).map fun s => timesS s o).Nodup := fun p => by
          rw [List.nodup_iff_pairwise_ne, List.pairwise_map]
          have := (hnd.filter p)
          refine (List.Pairwise.and_mem.1 this).imp ?_
          rintro a b ⟨ha, hb, hab⟩ e
          exact hab (times_cancel (hl a (List.mem_filter.1 ha).1) (hl b (List.mem_filter.1 hb).1) (hl o hol) e)
        have l1 := len_sub (R := l.filter fun s => !evenRow s) (nd evenRow) (fun s hs => by
          obtain ⟨a, ha, rfl⟩ := List.mem_map.1 hs
          obtain ⟨ha1, ha2⟩ := List.mem_filter.1 ha
          refine List.mem_filter.2 ⟨hm a ha1 o hol, ?_⟩
          rw [sign_times (hl a ha1) (hl o hol), ha2, hoo]; rfl)
        have l2 := len_sub (R := l.filter evenRow) (nd fun s => !evenRow s) (fun s hs => by
          obtain ⟨a, ha, rfl⟩ := List.mem_map.1 hs
          obtain ⟨ha1, ha2⟩ := List.mem_filter.1 ha
          have ha3 : evenRow a = false := by simpa using ha2
          refine List.mem_filter.2 ⟨hm a ha1 o hol, ?_⟩
          rw [sign_times (hl a ha1) (hl o hol), ha3, hoo]; rfl)
        rw [List.length_map] at l1 l2
        omega
    · have e0 : (l.filter evenRow)[0]? = some (roundsS x.size) := by
        rcases l with _ | ⟨y, t⟩
        · cases h0
        · simp only [List.getElem?_cons_zero] at hr
          injection hr with hr
          rw [List.filter_cons, if_pos (by rw [hr]; exact even_rounds _ (by omega)), List.getElem?_cons_zero, hr]
      refine (grpR_iff h8 ⟨_, e0, rounds_size _ (by omega)⟩).2 ⟨e0, fun a ha b hb => ?_⟩
      obtain ⟨ha1, ha2⟩ := List.mem_filter.1 ha
      obtain ⟨hb1, hb2⟩ := List.mem_filter.1 hb
      refine List.mem_filter.2 ⟨hm a ha1 b hb1, ?_⟩
      rw [sign_times (hl a ha1) (hl b hb1), ha2, hb2]; rfl
theorem signs_many (l : List ByteArray) : (signsR l).countP id = (evR l).length := by
  rcases h : goodRows l
  · rw [signsR_f h, evR_f h]; rfl
  · rw [signsR_t h, evR_t h, List.countP_map, List.countP_eq_length_filter]; rfl
end Go.Proofs.Ytpccbmndgdiloaa
/- The laws' own conversions of []string: copying, comparing, counting, marking. -/
namespace Go.Proofs.Ytpccbmndgdiloaa
set_option linter.unusedVariables false
set_option linter.unusedSimpArgs false
open Go.ChangeShapes Go.WideShapes Go.ChangeAt Go.RowKit Go.Deep
theorem bytes_same {a b : ByteArray} (h : (a.toList == b.toList) = true) : a = b := by
  have h1 : a.toList = b.toList := by simpa using h
  rw [ByteArray.toList_eq, ByteArray.toList_eq] at h1
  cases a; cases b
  congr 1
  exact Array.ext' h1
/-- The room that a list of texts takes. -/
def szS (l : List ByteArray) : Int := (l.map fun s => (s.size : Int)).sum + l.length
theorem szS_nil : szS [] = 0 := rfl
theorem szS_cons (s : ByteArray) (l : List ByteArray) : szS (s :: l) = (s.size : Int) + szS l + 1 := by simp only [szS, List.map_cons, List.sum_cons, List.length_cons]; omega
theorem szS_len : ∀ (l : List ByteArray), (l.length : Int) ≤ szS l
  | [] => by simp [szS]
  | s :: l => by have := szS_len l; rw [szS_cons, List.length_cons]; omega
theorem szS_each : ∀ (l : List ByteArray) (s : ByteArray), s ∈ l → (s.size : Int) ≤ szS l
  | x :: l, s, h => by
    rw [szS_cons]
    have h0 := szS_len l
    rcases List.mem_cons.1 h with rfl | h
    · omega
    · have := szS_each l s h
      omega
/-- The digits of k ahead of a text. -/
def dgt (n : Nat) : ByteArray := strOfNums [48 + (n : Int) % 10]
theorem dgt_size (n : Nat) : (dgt n).size = 1 := rfl
def mkD (k : Nat) (out : ByteArray) : ByteArray := if k = 0 then out else mkD (k / 10) (dgt k ++ out)
termination_by k
decreasing_by omega
theorem mkD_0 (out : ByteArray) : mkD 0 out = out := by rw [mkD, if_pos rfl]
theorem mkD_pos {k : Nat} (h : 0 < k) (out : ByteArray) : mkD k out = mkD (k / 10) (dgt k ++ out) := by rw [mkD, if_neg (by omega)]
def markT (k : Nat) : ByteArray := ⟨#[109]⟩ ++ mkD k ByteArray.empty
def markS (k0 : Int) (j : Nat) : ByteArray := markT (k0 + (j : Int)).toNat
end Go.Proofs.Ytpccbmndgdiloaa
/- The walks through the reference's test of groups. -/
namespace Go.Proofs.Ytpccbmndgdiloaa
set_option linter.unusedVariables false
set_option linter.unusedSimpArgs false
open Go.ChangeShapes Go.WideShapes Go.ChangeAt Go.RowKit Go.Deep
set_option maxRecDepth 100000 in
theorem spec_l6Rising {A : Option Addr} {N c : Nat} {l : List ByteArray} {w : World} (hN : l.length = N) (h : Strs w A l) (hz : N ≤ 16777216) (hs : ∀ s ∈ l, s.size ≤ 16777216) :
    Calls Try.prog 92 #[.slice A N c] w fun e w' => e = .returned (.bool (incB l && goodRows l)) ∧ Below w.heap.size w w' := by
  subst hN
  have HG : Hid (incB l = (List.range l.length).all (okInc l)) := Lib.hid rfl
  have HS := Lib.hid hs
  clear hs
  go_in
  go_wp2
  go_loopw [6] (fun i wr => ∃ k : Nat, k ≤ l.length ∧ i = .int .i64 k ∧ Hid (∀ j, j < k → okInc l j = true) ∧ Below w.heap.size w wr) (fun i _ => l.length - (intOf i).toNat)
  case atStart => exact ⟨0, Nat.zero_le _, rfl, Lib.hid (fun j hj => absurd hj (by omega)), Below.refl _ _⟩
  case round =>
    obtain ⟨k, hk, rfl, HK, hb⟩ := hrel
    by_cases hlt : k < l.length
    · have hr := h.below hb (Nat.le_refl _)
      obtain ⟨b1, o1, y, rfl, hbb, hy, hcy⟩ := hr.at_str hlt
      by_cases hk0 : 0 < k
      · obtain ⟨b2, o2, x, e, _, hx, hcx⟩ := hr.at_str (k := k - 1) (by omega)
        injection e with e
        injection e with e1 e2
        subst e1 e2
        have E := Lib.hid (okInc_pos hk0 hx hy)
        have hwk := wrap_pred hk0 (by omega)
        have hlt1 : k - 1 < l.length := by omega
        have hk1 : decide ((0 : Int) < (k : Int)) = true := decide_eq_true (by omega)
        clear hr hx hy
        rcases hl : less x y
        · obtain ⟨h1, h2⟩ := less_no hl
          have e0 := Lib.hid (show okInc l k = false by rw [E.out, hl])
          clear hl h2 h
          go_wp2
          go_quiet (fail)
          go_wp2
          go_ret
          refine ⟨ret_bool ?_, by (repeat' (first | (with_reducible exact Below.refl _ _) | (with_reducible assumption) | (with_reducible refine below_drewN ?_ _) | (with_reducible refine Below.drew ?_) | (with_reducible refine below_alloc ?_ _) | (with_reducible refine Below.alloc ?_ ?_ _) | (with_reducible refine Below.setCell ?_ ?_ _) | (with_reducible refine below_go ?_ (by with_reducible assumption)) | (with_reducible refine below_then (by with_reducible assumption) ?_ ?_) | go_size))⟩
          rw [HG.out, all_no hlt e0.out, Bool.false_and]
        · obtain ⟨h1, h2, h3⟩ := less_yes hl
          have e0 := Lib.hid (show okInc l k = true by rw [E.out, hl])
          have HH := Lib.hid h
          clear hl h
          go_wp2
          go_quiet (fail)
          go_wp2
          go_roundw
          case rel => exact ⟨k + 1, by omega, by go_num, Lib.hid (upto_succ HK.out e0.out), by (repeat' (first | (with_reducible exact Below.refl _ _) | (with_reducible assumption) | (with_reducible refine below_drewN ?_ _) | (with_reducible refine Below.drew ?_) | (with_reducible refine below_alloc ?_ _) | (with_reducible refine Below.alloc ?_ ?_ _) | (with_reducible refine Below.setCell ?_ ?_ _) | (with_reducible refine below_go ?_ (by with_reducible assumption)) | (with_reducible refine below_then (by with_reducible assumption) ?_ ?_) | go_size))⟩
          case measure => simp [intOf]; omega
      · have e0 := Lib.hid (show okInc l k = true by rw [okInc_z hk0])
        have hk1 : decide ((0 : Int) < (k : Int)) = false := decide_eq_false (by omega)
        have HH := Lib.hid h
        clear hr hy h
        go_wp2
        go_quiet (fail)
        go_wp2
        go_roundw
        case rel => exact ⟨k + 1, by omega, by go_num, Lib.hid (upto_succ HK.out e0.out), by (repeat' (first | (with_reducible exact Below.refl _ _) | (with_reducible assumption) | (with_reducible refine below_drewN ?_ _) | (with_reducible refine Below.drew ?_) | (with_reducible refine below_alloc ?_ _) | (with_reducible refine Below.alloc ?_ ?_ _) | (with_reducible refine Below.setCell ?_ ?_ _) | (with_reducible refine below_go ?_ (by with_reducible assumption)) | (with_reducible refine below_then (by with_reducible assumption) ?_ ?_) | go_size))⟩
        case measure => simp [intOf]; omega
    · obtain rfl : k = l.length := by omega
      have e0 := Lib.hid (show (incB l && goodRows l) = goodRows l by rw [HG.out, all_yes (fun j hj => HK.out j hj), Bool.true_and])
      go_wp2_with fail
      refine (spec_l6Rows rfl (h.below hb (Nat.le_refl _)) hz HS.out).mono ?_; rintro e w2 ⟨rfl, hb2⟩
      go_wp2
      go_ret
      exact ⟨ret_bool e0.out.symm, below_go hb hb2⟩
theorem upto_mem {l : List ByteArray} {Q : ByteArray → Prop} (h : ∀ j x, j < l.length → l[j]? = some x → Q x) : ∀ x ∈ l, Q x := fun x hx => by
  obtain ⟨j, hj⟩ := List.getElem?_of_mem hx
  exact h j x (List.getElem?_eq_some_iff.1 hj).1 hj
theorem upto_one {l : List ByteArray} {Q : ByteArray → Prop} {k : Nat} {y : ByteArray} (h : ∀ j x, j < k → l[j]? = some x → Q x) (hy : l[k]? = some y) (hq : Q y) : ∀ j x, j < k + 1 → l[j]? = some x → Q x := fun j x hj hx => by
  rcases Nat.lt_or_ge j k with h1 | h1
  · exact h j x h1 hx
  · obtain rfl : j = k := by omega
    rw [hy] at hx
    injection hx with hx
    exact hx ▸ hq
set_option maxHeartbeats 1000000 in
set_option maxRecDepth 100000 in
theorem spec_l6Group {A : Option Addr} {N c : Nat} {l : List ByteArray} {w : World} (hN : l.length = N) (h : Strs w A l) (hg : goodRows l = true) :
    Calls Try.prog 93 #[.slice A N c] w fun e w' => e = .returned (.bool (grpR l)) ∧ Below w.heap.size w w' := by
  subst hN
  rcases Nat.eq_zero_or_pos l.length with h0 | h0
  · have e := List.eq_nil_of_length_eq_zero h0
    subst e
    go_in
    go_wp2
    go_quiet (fail)
    go_wp2
    go_ret
    exact ⟨rfl, by (repeat' (first | (with_reducible exact Below.refl _ _) | (with_reducible assumption) | (with_reducible refine below_drewN ?_ _) | (with_reducible refine Below.drew ?_) | (with_reducible refine below_alloc ?_ _) | (with_reducible refine Below.alloc ?_ ?_ _) | (with_reducible refine Below.setCell ?_ ?_ _) | (with_reducible refine below_go ?_ (by with_reducible assumption)) | (with_reducible refine below_then (by with_reducible assumption) ?_ ?_) | go_size))⟩
  · obtain ⟨b1, o1, x0, rfl, hbb, hx0, hcx⟩ := h.at_str h0
    obtain ⟨⟨h3, h8⟩, hl⟩ := rows_of hg hx0
    have h800 := goodRows_len hg
    have HX0 := Lib.hid hx0
    have HL := Lib.hid hl
    simp only [Nat.add_zero] at hcx
    have hne0 : decide ((l.length : Int) = 0) = false := decide_eq_false (by omega)
    have hne0' : ((l.length : Int) == 0) = false := beq_false_of_ne (by omega)
    by_cases hr : x0 = roundsS x0.size
    · have hb1 : (x0.toList != (roundsS x0.size).toList) = false := by rw [← hr]; simp
      have hb2 : (x0.toList == (roundsS x0.size).toList) = true := by rw [← hr]; simp
      have HR := Lib.hid hr
      clear hr hx0 hl hg
      have h40 : fact x0.size ≤ 40320 := fact_le8 h8
      go_in
      go_wp2
      go_quiet (first | (go_at_call 108; exact quiet_left (spec_l1Rounds h8)))
      go_wp2_with fail
      refine (spec_l6Seen h8).mono ?_; rintro e w1 ⟨gm, rfl, hom, hb1⟩
      have hb1' : Below w.heap.size w w1 := below_go (below_drewN (Below.refl _ _) nq) hb1
      have hom' : Owned boolE 1 4 w1 w.heap.size (some ⟨gm, 0, none⟩) (fact x0.size) (fact x0.size) (List.replicate (fact x0.size) false) := by simpa using hom
      obtain ⟨hgl, hgh⟩ := hom'.at_own
      have HOM := Lib.hid hom'
      have HMK := Lib.hid (MarkR.none x0.size)
      clear hom hom' hb1 hcx
      go_wp2
      go_loopw [31] (fun i wr => ∃ (k : Nat) (m : List Bool), k ≤ l.length ∧ i = .int .i64 k ∧ Hid (MarkR x0.size (l.take k) m) ∧ Hid (Owned boolE 1 4 wr w.heap.size (some ⟨gm, 0, none⟩) (fact x0.size) (fact x0.size) m) ∧ Below w.heap.size w wr) (fun i _ => l.length - (intOf i).toNat)
      case atStart => exact ⟨0, _, Nat.zero_le _, rfl, HMK, HOM, hb1'⟩
      case round =>
        clear HMK HOM
        obtain ⟨k, m, hk, rfl, HMK, HM, hb⟩ := hrel
        rename World => w2
        by_cases hlt : k < l.length
        · obtain ⟨b3, o3, y, e, _, hy, hcy⟩ := (h.below hb (Nat.le_refl _)).at_str hlt
          injection e with e
          injection e with e1 e2
          subst e1 e2
          have hyN := HL.out y (List.mem_of_getElem? hy)
          have hys := hyN.2
          have hpl := rowN_place hyN
          have HYN := Lib.hid hyN
          have E := Lib.hid (take_succ_some hy)
          obtain ⟨p, hp⟩ : ∃ p, p = place y := ⟨_, rfl⟩
          rw [← hp] at hpl
          have HP := Lib.hid hp
          clear hy hp hyN
          have hy8 : y.size ≤ 8 := by rw [hys]; exact h8
          clear hys
          go_wp2_with fail
          refine (spec_l1Place hy8).mono ?_; rw [← HP.out]; rintro e w3 ⟨rfl, hb3⟩
          have hB3 := below_go hb hb3
          have HM3 := Lib.hid (HM.out.up hb3)
          have hold := HMK.out.at_ HYN.out
          rw [← HP.out] at hold
          obtain ⟨HM4, hg4⟩ := HM3.out.put (k := p) (j := 0) (x := true) (u := .bool true) hold (by decide) rfl
          obtain ⟨g', e, _, _, gc, gf⟩ := HM3.out.at_ (fact_pos x0.size)
          injection e with e
          injection e with e
          subst e
          have c1 := gc p _ 0 _ hold rfl
          have f1 := gf p
          simp only [Nat.mul_one, Nat.add_zero] at HM4 hg4 c1
          have hb4 : Below w.heap.size w (w3.setCell ⟨gm, p, none⟩ (.bool true)) := hB3.grown hg4 hB3.size (fun k hk => by injection hk with hk; omega)
          have HM4 := Lib.hid HM4
          have HB4 := Lib.hid hb4
          have HK4 : Hid (MarkR x0.size (l.take (k + 1)) (m.set p true)) := Lib.hid (by rw [E.out, HP.out]; exact HMK.out.add HYN.out)
          have hs3 := hb3.size
          clear hold gc gf hg4 hb4
          go_wp2
          go_roundw
          case rel => exact ⟨k + 1, _, by omega, by go_num, HK4, HM4, HB4.out⟩
          case measure => simp [intOf]; omega
        · obtain rfl : k = l.length := by omega
          have HMK : Hid (MarkR x0.size l m) := Lib.hid (by have := HMK.out; rw [List.take_length] at this; exact this)
          go_wp2
          go_loopw [42] (fun i wr => ∃ k : Nat, k ≤ l.length ∧ i = .int .i64 k ∧ Hid (∀ j x, j < k → l[j]? = some x → ∀ y ∈ l, timesS x y ∈ l) ∧ Below w2.heap.size w2 wr) (fun i _ => l.length - (intOf i).toNat)
          case atStart => exact ⟨0, Nat.zero_le _, rfl, Lib.hid (fun j x hj _ => absurd hj (by omega)), Below.refl _ _⟩
          case round =>
            obtain ⟨k, hk, rfl, HK, hbb3⟩ := hrel
            rename World => w3
            have hb03 := below_go hb hbb3
            by_cases hlt : k < l.length
            · obtain ⟨b3, o3, a, e, _, ha, hca⟩ := (h.below hb03 (Nat.le_refl _)).at_str hlt
              injection e with e
              injection e with e1 e2
              subst e1 e2
              have HA := Lib.hid ha
              have HAN := Lib.hid (HL.out a (List.mem_of_getElem? ha))
              have haz : a.size ≤ 16777216 := by rw [HAN.out.2]; omega
              clear ha
              go_wp2
              go_loopw [48] (fun i wr => ∃ k : Nat, k ≤ l.length ∧ i = .int .i64 k ∧ Hid (∀ j x, j < k → l[j]? = some x → timesS a x ∈ l) ∧ Below w2.heap.size w2 wr) (fun i _ => l.length - (intOf i).toNat)
              case atStart => exact ⟨0, Nat.zero_le _, rfl, Lib.hid (fun j x hj _ => absurd hj (by omega)), hbb3⟩
              case round =>
                clear hbb3 hb03
                obtain ⟨j, hj, rfl, HJ, hbb3⟩ := hrel
                rename World => w4
                have hb03 := below_go hb hbb3
                by_cases hjl : j < l.length
                · obtain ⟨b3, o3, y, e, _, hy, hcy⟩ := (h.below hb03 (Nat.le_refl _)).at_str hjl
                  injection e with e
                  injection e with e1 e2
                  subst e1 e2
                  have HY := Lib.hid hy
                  have HYN := Lib.hid (HL.out y (List.mem_of_getElem? hy))
                  have hyz : y.size ≤ 16777216 := by rw [HYN.out.2]; omega
                  have hft := rowN_fits HAN.out HYN.out
                  have hrN := HAN.out.times HYN.out
                  obtain ⟨r, hr'⟩ : ∃ r, r = timesS a y := ⟨_, rfl⟩
                  have HRD := Lib.hid hr'
                  rw [← hr'] at hrN
                  have hrz : r.size ≤ 8 := by rw [hrN.2]; exact h8
                  obtain ⟨p, hp⟩ : ∃ p, p = place r := ⟨_, rfl⟩
                  have HP := Lib.hid hp
                  have hpF : p < fact x0.size := by rw [hp]; exact rowN_place hrN
                  have hcm := HMK.out.at_ hrN
                  rw [← hp] at hcm
                  have HCM := Lib.hid hcm
                  clear hy hr' hp hcm hrN
                  go_wp2_with fail
                  refine (spec_l1Times haz hyz hft).mono ?_; rw [← HRD.out]; rintro e w' ⟨rfl, rfl⟩
                  go_wp2_with fail
                  refine (spec_l1Place hrz).mono ?_; rw [← HP.out]; rintro e w6 ⟨rfl, hb6⟩
                  have hB6 := below_go hbb3 hb6
                  have HM6 := Lib.hid (HM.out.up hB6)
                  obtain ⟨g', e, _, _, gc, gf⟩ := HM6.out.at_ (fact_pos x0.size)
                  injection e with e
                  injection e with e
                  subst e
                  have cm := gc p _ 0 _ HCM.out rfl
                  simp only [Nat.mul_one, Nat.add_zero] at cm
                  have hs6 := hb6.size
                  clear gc gf
                  rcases hin : inL l r
                  · rw [hin] at cm
                    have e1 := Lib.hid (grp_bad (l := l) (List.mem_of_getElem? HA.out) (List.mem_of_getElem? HY.out) (by rw [← HRD.out]; intro q; rw [inL_iff.2 q] at hin; cases hin))
                    clear hin
                    go_wp2
                    go_ret
                    exact ⟨ret_bool e1.out.symm, below_go hb hB6⟩
                  · rw [hin] at cm
                    have HJ2 := Lib.hid (upto_one (Q := fun x => timesS a x ∈ l) HJ.out HY.out (by rw [← HRD.out]; exact inL_iff.1 hin))
                    clear hin
                    go_wp2
                    go_roundw
                    case rel => exact ⟨j + 1, by omega, by go_num, HJ2, hB6⟩
                    case measure => simp [intOf]; omega
                · obtain rfl : j = l.length := by omega
                  have HK2 := Lib.hid (upto_one (Q := fun x => ∀ y ∈ l, timesS x y ∈ l) HK.out HA.out (upto_mem HJ.out))
                  go_wp2
                  go_roundw
                  case rel => exact ⟨k + 1, by omega, by go_num, HK2, hbb3⟩
                  case measure => simp [intOf]; omega
            · obtain rfl : k = l.length := by omega
              have e1 := Lib.hid (grp_good HX0.out HR.out (upto_mem HK.out))
              go_wp2
              go_ret
              exact ⟨ret_bool e1.out.symm, hb03⟩
    · have hb1 : (x0.toList != (roundsS x0.size).toList) = true := bne_iff_ne.2 (fun e => hr (bytes_same (by rw [e]; simp)))
      have hb2 : (x0.toList == (roundsS x0.size).toList) = false := beq_false_of_ne (fun e => hr (bytes_same (by rw [e]; simp)))
      have E := Lib.hid (grp_first hx0 hr)
      clear hr hx0 hl hg
      go_in
      go_wp2
      go_quiet (first | (go_at_call 108; exact quiet_left (spec_l1Rounds h8)))
      go_wp2
      go_ret
      exact ⟨ret_bool E.out.symm, by (repeat' (first | (with_reducible exact Below.refl _ _) | (with_reducible assumption) | (with_reducible refine below_drewN ?_ _) | (with_reducible refine Below.drew ?_) | (with_reducible refine below_alloc ?_ _) | (with_reducible refine Below.alloc ?_ ?_ _) | (with_reducible refine Below.setCell ?_ ?_ _) | (with_reducible refine below_go ?_ (by with_reducible assumption)) | (with_reducible refine below_then (by with_reducible assumption) ?_ ?_) | go_size))⟩
set_option maxRecDepth 100000 in
theorem spec_IsGroup {A : Option Addr} {N c : Nat} {l : List ByteArray} {w : World} (hN : l.length = N) (h : Strs w A l) (hz : N ≤ 16777216) (hs : ∀ s ∈ l, s.size ≤ 16777216) :
    Calls Try.prog 24 #[.slice A N c] w fun e w' => e = .returned (.tuple #[.bool (incB l && goodRows l && grpR l), .bool (incB l && goodRows l)]) ∧ Below w.heap.size w w' := by
  have HS := Lib.hid hs
  clear hs
  rcases hg : incB l && goodRows l
  · go_in
    go_wp2_with fail
    refine (spec_l6Rising hN h hz HS.out).mono ?_; rw [hg]; rintro e w1 ⟨rfl, hb1⟩
    go_wp2
    go_ret2
    exact ⟨rfl, hb1⟩
  · go_in
    go_wp2_with fail
    refine (spec_l6Rising hN h hz HS.out).mono ?_; rw [hg]; rintro e w1 ⟨rfl, hb1⟩
    go_wp2_with fail
    refine (spec_l6Group hN (h.below hb1 (Nat.le_refl _)) (Bool.and_eq_true_iff.1 hg).2).mono ?_; rintro e w2 ⟨rfl, hb2⟩
    go_wp2
    go_ret2
    exact ⟨by simp, below_go hb1 hb2⟩
end Go.Proofs.Ytpccbmndgdiloaa
/-
  DERIVED: THE SHELF's CONTRACTS AT THIS DUMP, IN PLAIN WORDS (tools/lay-plain.mjs out of 'YtpccbmndgdiloaaShelfb.lean', which tools/lay-shelf.mjs wrote): THE SAME DECLARATIONS UNDER THE SAME NAMES: 'import', 'namespace', 'open', 'def', 'theorem' AND NOTHING ELSE: no command of the shelf's: FOR A HAND-IN. Each laying: the table of numbers ('.._ren') and one theorem, a field a fact of the dump's own or the kernel's comparison; each contract: ONE APPLICATION.
-/
namespace Go.Proofs
open Go.Shelf
def Try.laysNm226_ren : Go.Shelf.Ren := ⟨fun | 26 => 216 | 33 => 235 | 34 => 236 | 38 => 241 | n => n, fun | 24 => 24 | 9 => 9 | 3 => 3 | 4 => 4 | 40 => 192 | 0 => 0 | n => n, fun | n => n⟩
theorem Try.laysNm226 : Go.Proofs.Lays2.n26 Try.prog Try.laysNm226_ren := {
  mixed := by kernel_rfl
  f26 := Try.func216.trans (congrArg some (by kernel_rfl))
  f33 := Try.func235.trans (congrArg some (by kernel_rfl))
  f34 := Try.func236.trans (congrArg some (by kernel_rfl))
  f38 := Try.func241.trans (congrArg some (by kernel_rfl))
  t0 := Try.underlying0
  a0 := Try.isAgg0
  z0 := Try.sizeOf0
  v0 := Try.zeroValue0
  t3 := Try.underlying3
  a3 := Try.isAgg3
  z3 := Try.sizeOf3
  v3 := Try.zeroValue3
  t4 := Try.underlying4
  a4 := Try.isAgg4
  z4 := Try.sizeOf4
  v4 := Try.zeroValue4
  t9 := Try.underlying9
  a9 := Try.isAgg9
  z9 := Try.sizeOf9
  v9 := Try.zeroValue9
  t24 := Try.underlying24
  a24 := Try.isAgg24
  z24 := Try.sizeOf24
  v24 := Try.zeroValue24
  t40 := Try.underlying192
  a40 := Try.isAgg192
  z40 := Try.sizeOf192
  v40 := Try.zeroValue192 }
theorem Try.slices_BinarySearch_string (b off n c : Nat) (Sx : Nat → ByteArray) (x : ByteArray) (w : World) (hbig : n < 4611686018427387904) (hc : ∀ j, j < n → w.cell? ⟨b, off + j, none⟩ = some (.string (Sx j))) :
    Calls Try.prog 216 #[.slice (some ⟨b, off, none⟩) n c, .string x] w fun e w' =>
      e = .returned (.tuple #[.int .i64 (Lib.bsGo (fun t => Op.bytesLess (Sx t).toList x.toList) n 0 n : Nat), .bool (decide (Lib.bsGo (fun t => Op.bytesLess (Sx t).toList x.toList) n 0 n < n ∧ Sx (Lib.bsGo (fun t => Op.bytesLess (Sx t).toList x.toList) n 0 n) = x))]) ∧ ∃ q, w' = w.drewN q := Any2.slices_BinarySearch_string Try.laysNm226 b off n c Sx x w hbig hc
theorem Try.slices_BinarySearch_string_empty (a : Option Addr) (c : Nat) (x : ByteArray) (w : World) :
    Calls Try.prog 216 #[.slice a 0 c, .string x] w fun e w' => e = .returned (.tuple #[.int .i64 0, .bool false]) ∧ w' = w := Any2.slices_BinarySearch_string_empty Try.laysNm226 a c x w
end Go.Proofs
/- The walk through the program's search of a row in a sorted list. -/
namespace Go.Proofs.Ytpccbmndgdiloaa
set_option linter.unusedVariables false
set_option linter.unusedSimpArgs false
open Go.ChangeShapes Go.WideShapes Go.ChangeAt Go.RowKit Go.Deep
theorem first_false (f : Nat → Bool) : ∀ n, f n = false → ∃ k, k ≤ n ∧ (∀ t, t < k → f t = true) ∧ f k = false
  | 0, h => ⟨0, Nat.le_refl _, fun t ht => absurd ht (by omega), h⟩
  | n + 1, h => by
    by_cases hb : ∃ k, k ≤ n ∧ f k = false
    · obtain ⟨j, hj, hf⟩ := hb
      obtain ⟨k, hk, h1, h2⟩ := first_false (fun t => if t < j then f t else false) n (by simp [show ¬ n < j by omega])
      by_cases hkj : k < j
      · refine ⟨k, by omega, fun t ht => ?_, by simpa [hkj] using h2⟩
        have := h1 t ht
        simpa [show t < j by omega] using this
      · refine ⟨j, by omega, fun t ht => ?_, hf⟩
        have := h1 t (by omega)
        simpa [ht] using this
    · refine ⟨n + 1, Nat.le_refl _, fun t ht => ?_, h⟩
      rcases hc : f t with _ | _
      · exact absurd ⟨t, by omega, hc⟩ hb
      · rfl
theorem srt_le {l : List ByteArray} (h : Srt l) {i j : Nat} {x y : ByteArray} (hij : i < j) (hx : l[i]? = some x) (hy : l[j]? = some y) : less y x = false := by
  obtain ⟨h1, e1⟩ := List.getElem?_eq_some_iff.1 hx
  obtain ⟨h2, e2⟩ := List.getElem?_eq_some_iff.1 hy
  have := (List.pairwise_iff_getElem.1 h) i j h1 h2 hij
  rw [e1, e2, leS] at this
  rcases hc : less y x with _ | _
  · rfl
  · rw [hc] at this; cases this
theorem search_in {l : List ByteArray} {s : ByteArray} (h : Srt l) : decide (Lib.bsGo (fun t => less (l.getD t s) s) l.length 0 l.length < l.length ∧ l.getD (Lib.bsGo (fun t => less (l.getD t s) s) l.length 0 l.length) s = s) = inL l s := by
  have hout : ∀ t, l.length ≤ t → less (l.getD t s) s = false := fun t ht => by rw [List.getD, List.getElem?_eq_none ht]; exact less_irr s
  obtain ⟨k, hk, h1, h2⟩ := first_false (fun t => less (l.getD t s) s) l.length (hout _ (Nat.le_refl _))
  have h3 : ∀ t, k ≤ t → less (l.getD t s) s = false := fun t ht => by
    rcases Nat.lt_or_ge t l.length with hl | hl
    · rcases Nat.lt_or_ge k t with hkt | hkt
      · rcases hc : less (l.getD t s) s with _ | _
        · rfl
        · have hy := List.getElem?_eq_getElem hl
          have hx := List.getElem?_eq_getElem (show k < l.length by omega)
          have hle := srt_le h hkt hx hy
          have e1 : l.getD k s = l[k] := by rw [List.getD, hx]; rfl
          have e2 : l.getD t s = l[t] := by rw [List.getD, hy]; rfl
          rw [e1] at h2
          rw [e2] at hc
          rcases less_tri l[k] l[t] with h4 | h4 | h4
          · have := less_trans h4 hc
            rw [h2] at this; cases this
          · rw [h4, hc] at h2; cases h2
          · rw [hle] at h4; cases h4
      · obtain rfl : t = k := by omega
        exact h2
    · exact hout t hl
  rw [Lib.bsGo_spec _ k h1 h3 l.length 0 l.length (by omega) (by omega) hk]
  rw [Bool.eq_iff_iff, decide_eq_true_iff, inL_iff]
  constructor
  · rintro ⟨hl, e⟩
    rw [List.getD, List.getElem?_eq_getElem hl] at e
    rw [← e]; exact List.getElem_mem hl
  · intro hm
    obtain ⟨j, hj⟩ := List.getElem?_of_mem hm
    have hjl := (List.getElem?_eq_some_iff.1 hj).1
    have hkj : k ≤ j := by
      rcases Nat.lt_or_ge j k with hc | hc
      · have := h1 j hc
        rw [List.getD, hj] at this
        have h5 : less s s = true := this
        rw [less_irr] at h5; cases h5
      · exact hc
    refine ⟨by omega, ?_⟩
    rcases Nat.lt_or_ge k j with hc | hc
    · have hx := List.getElem?_eq_getElem (show k < l.length by omega)
      have hle := srt_le h hc hx hj
      have e1 : l.getD k s = l[k] := by rw [List.getD, hx]; rfl
      rw [e1] at h2 ⊢
      rcases less_tri l[k] s with h4 | h4 | h4
      · rw [h2] at h4; cases h4
      · exact h4
      · rw [hle] at h4; cases h4
    · obtain rfl : j = k := by omega
      rw [List.getD, hj]; rfl
theorem search_strs {A : Option Addr} {N c : Nat} {l : List ByteArray} {s : ByteArray} {w : World} (hN : l.length = N) (h : Strs w A l) (hz : N ≤ 16777216) (hs : Srt l) :
    Calls Try.prog 216 #[.slice A N c, .string s] w fun e w' => ∃ i : Int, e = .returned (.tuple #[.int .i64 i, .bool (inL l s)]) ∧ ∃ q, w' = w.drewN q := by
  subst hN
  rcases Nat.eq_zero_or_pos l.length with h0 | h0
  · have e := List.eq_nil_of_length_eq_zero h0
    subst e
    refine (Try.slices_BinarySearch_string_empty A c s w).mono ?_
    rintro e w' ⟨rfl, rfl⟩
    exact ⟨0, rfl, 0, rfl⟩
  · obtain ⟨b, o, y, rfl, _, _, _⟩ := h.at_str h0
    refine (Try.slices_BinarySearch_string b o l.length c (fun t => l.getD t s) s w (by omega) (fun j hj => ?_)).mono ?_
    · obtain ⟨b2, o2, x, e, _, hx, hcx⟩ := h.at_str hj
      injection e with e
      injection e with e1 e2
      subst e1 e2
      rw [hcx, List.getD, hx]; rfl
    · rintro e w' ⟨rfl, hq⟩
      have hin := search_in (s := s) hs
      rw [← hin]
      exact ⟨_, rfl, hq⟩
theorem impl_has {A : Option Addr} {N c : Nat} {l : List ByteArray} {s : ByteArray} {w : World} (hN : l.length = N) (h : Strs w A l) (hz : N ≤ 16777216) (hs : Srt l) :
    Calls Try.prog 171 #[.slice A N c, .string s] w fun e w' => e = .returned (.bool (inL l s)) ∧ Below w.heap.size w w' := by
  go_in
  go_wp2_with fail
  refine (search_strs hN h hz hs).mono ?_; rintro e w1 ⟨i, rfl, q, rfl⟩
  go_wp2
  go_ret
  exact ⟨rfl, by (repeat' (first | (with_reducible exact Below.refl _ _) | (with_reducible assumption) | (with_reducible refine below_drewN ?_ _) | (with_reducible refine Below.drew ?_) | (with_reducible refine below_alloc ?_ _) | (with_reducible refine Below.alloc ?_ ?_ _) | (with_reducible refine Below.setCell ?_ ?_ _) | (with_reducible refine below_go ?_ (by with_reducible assumption)) | (with_reducible refine below_then (by with_reducible assumption) ?_ ?_) | go_size))⟩
end Go.Proofs.Ytpccbmndgdiloaa
/- The walk through the library's comparison of two lists of texts. -/
namespace Go.Proofs.Ytpccbmndgdiloaa
set_option linter.unusedVariables false
set_option linter.unusedSimpArgs false
open Go.ChangeShapes Go.WideShapes Go.ChangeAt Go.RowKit Go.Deep
set_option maxRecDepth 100000 in
theorem equal_strs (A C : Option Addr) (n n' c d : Nat) (l m : List ByteArray) (w : World) (hn : l.length = n) (hn' : m.length = n') (h : Recs strE 1 w A l) (g : Recs strE 1 w C m) (hz : n ≤ 16777216) (hz' : n' ≤ 16777216) :
    Calls Try.prog 173 #[.slice A n c, .slice C n' d] w fun e w' => e = .returned (.bool (decide (l = m))) ∧ Below w.heap.size w w' := by
  subst hn hn'
  by_cases hl : l.length = m.length
  · have HL := Lib.hid hl
    rw [← hl]
    clear hl
    go_in
    go_wp2
    go_loopw [13] (fun i wr => ∃ k : Nat, k ≤ l.length ∧ i = .int .i64 k ∧ Hid (∀ j, j < k → l[j]? = m[j]?) ∧ Below w.heap.size w wr) (fun i _ => l.length - (intOf i).toNat)
    case atStart => exact ⟨0, Nat.zero_le _, rfl, Lib.hid (fun j hj => absurd hj (by omega)), Below.refl _ _⟩
    case round =>
      obtain ⟨k, hk, rfl, HT, hb⟩ := hrel
      by_cases hlt : k < l.length
      · obtain ⟨b1, o1, x, rfl, _, hx, hcx⟩ := (h.below hb (Nat.le_refl _)).at_str hlt
        obtain ⟨b2, o2, y, rfl, _, hy, hcy⟩ := (g.below hb (Nat.le_refl _)).at_str (by rw [← HL.out]; exact hlt)
        have HX := Lib.hid hx
        have HY := Lib.hid hy
        clear hx hy h g
        rcases hne : (x.toList == y.toList)
        · have he := Lib.hid hne
          go_wp2
          go_quiet (fail)
          go_wp2
          go_ret
          refine ⟨ret_bool ?_, by (repeat' (first | (with_reducible exact Below.refl _ _) | (with_reducible assumption) | (with_reducible refine below_drewN ?_ _) | (with_reducible refine Below.drew ?_) | (with_reducible refine below_alloc ?_ _) | (with_reducible refine Below.alloc ?_ ?_ _) | (with_reducible refine Below.setCell ?_ ?_ _) | (with_reducible refine below_go ?_ (by with_reducible assumption)) | (with_reducible refine below_then (by with_reducible assumption) ?_ ?_) | go_size))⟩
          have hd : l ≠ m := fun e => by
            have h1 := HX.out
            rw [e, HY.out] at h1
            injection h1 with h1
            have h2 := he.out
            rw [h1] at h2
            simp at h2
          simp [hd]
        · have he := Lib.hid hne
          go_wp2
          go_quiet (fail)
          go_wp2
          go_roundw
          case rel => exact ⟨k + 1, by omega, by go_num, Lib.hid (upto_succ HT.out (by rw [HX.out, HY.out, bytes_same he.out])), by (repeat' (first | (with_reducible exact Below.refl _ _) | (with_reducible assumption) | (with_reducible refine below_drewN ?_ _) | (with_reducible refine Below.drew ?_) | (with_reducible refine below_alloc ?_ _) | (with_reducible refine Below.alloc ?_ ?_ _) | (with_reducible refine Below.setCell ?_ ?_ _) | (with_reducible refine below_go ?_ (by with_reducible assumption)) | (with_reducible refine below_then (by with_reducible assumption) ?_ ?_) | go_size))⟩
          case measure => simp [intOf]; omega
      · go_wp2
        go_ret
        refine ⟨ret_bool ?_, hb⟩
        have hd : l = m := eq_of_upto (fun j hj => HT.out j hj) (by omega) (by have := HL.out; omega)
        simp [hd]
  · have hne : ((l.length : Int) != (m.length : Int)) = true := by simp; omega
    have hd : l ≠ m := fun e => hl (by rw [e])
    have HD := Lib.hid hd
    clear hd hl
    go_in
    go_wp2
    go_ret
    refine ⟨ret_bool ?_, by (repeat' (first | (with_reducible exact Below.refl _ _) | (with_reducible assumption) | (with_reducible refine below_drewN ?_ _) | (with_reducible refine Below.drew ?_) | (with_reducible refine below_alloc ?_ _) | (with_reducible refine Below.alloc ?_ ?_ _) | (with_reducible refine Below.setCell ?_ ?_ _) | (with_reducible refine below_go ?_ (by with_reducible assumption)) | (with_reducible refine below_then (by with_reducible assumption) ?_ ?_) | go_size))⟩
    simp [HD.out]
end Go.Proofs.Ytpccbmndgdiloaa
/- The walks through the program's test of groups. -/
namespace Go.Proofs.Ytpccbmndgdiloaa
set_option linter.unusedVariables false
set_option linter.unusedSimpArgs false
open Go.ChangeShapes Go.WideShapes Go.ChangeAt Go.RowKit Go.Deep
def Dr (w w' : World) : Prop := ∃ n, w' = w.drewN n
theorem Dr.refl (w : World) : Dr w w := ⟨0, rfl⟩
theorem Dr.drewN {w w' : World} (h : Dr w w') (n : Nat) : Dr w (w'.drewN n) := by
  obtain ⟨m, rfl⟩ := h
  exact ⟨m + n, by simp only [World.drewN, Nat.add_assoc]⟩
theorem Dr.below {w w' : World} (h : Dr w w') : Below w.heap.size w w' := by
  obtain ⟨m, rfl⟩ := h
  exact below_drewN (Below.refl _ _) _
theorem Dr.more {P : Program} {f : FuncId} {args : Array Value} {w : World} {n : Nat} {v : Value} (h : Calls P f args (w.drewN n) fun e w' => e = .returned v ∧ Dr (w.drewN n) w') :
    Calls P f args (w.drewN n) fun e w'' => e = .returned v ∧ ∃ m, w'' = w.drewN m :=
  h.mono fun _ _ h => ⟨h.1, by obtain ⟨m, rfl⟩ := h.2; exact Dr.drewN (w := w) (w' := w.drewN n) ⟨n, rfl⟩ m⟩
theorem clAt_nil (r : ByteArray) : ∀ k, clAt [] r k = [r]
  | 0 => rfl
  | k + 1 => by
    rw [clAt, clAt_nil r k]
    rcases k with _ | k <;> rfl
theorem clF_nil (n : Nat) : clF n [] = [roundsS n] := clAt_nil _ _
theorem clF_more {n : Nat} {gs : List ByteArray} {g : ByteArray} (h3 : 3 ≤ n) (h8 : n ≤ 8) (hg : ∀ s ∈ gs ++ [g], RowN n s) : ∀ s ∈ clF n gs, s ∈ clF n (gs ++ [g]) :=
  clAt_all (Q := fun s => s ∈ clF n (gs ++ [g])) (clF_first h3 h8 hg) (fun _ hx _ hgg => clF_shut h3 h8 hg hx (List.mem_append_left _ hgg)) _
theorem clF_has {n : Nat} {gs : List ByteArray} {g : ByteArray} (h3 : 3 ≤ n) (h8 : n ≤ 8) (hg : ∀ s ∈ gs, RowN n s) (h : g ∈ gs) : g ∈ clF n gs := by
  have := clF_shut h3 h8 hg (clF_first h3 h8 hg) h
  rwa [rounds_times (hg g h)] at this
theorem up_one {l : List ByteArray} {Q : ByteArray → Prop} {k : Nat} {y : ByteArray} (h : ∀ j x, j < k → l[j]? = some x → Q x) (hy : l[k]? = some y) (hq : Q y) : ∀ j x, j < k + 1 → l[j]? = some x → Q x := fun j x hj hx => by
  rcases Nat.lt_or_ge j k with h1 | h1
  · exact h j x h1 hx
  · obtain rfl : j = k := by omega
    rw [hy] at hx
    injection hx with hx
    exact hx ▸ hq
theorem up_mem {l : List ByteArray} {Q : ByteArray → Prop} (h : ∀ j x, j < l.length → l[j]? = some x → Q x) : ∀ x ∈ l, Q x := fun x hx => by
  obtain ⟨j, hj⟩ := List.getElem?_of_mem hx
  exact h j x (List.getElem?_eq_some_iff.1 hj).1 hj
set_option maxRecDepth 100000 in
theorem impl_increasingQ {A : Option Addr} {N c : Nat} {l : List ByteArray} {w : World} (hN : l.length = N) (h : Strs w A l) (hz : N ≤ 16777216) :
    Calls Try.prog 90 #[.slice A N c] w fun e w' => e = .returned (.bool (incB l)) ∧ Dr w w' := by
  subst hN
  have HG : Hid (incB l = (List.range l.length).all (okInc l)) := Lib.hid rfl
  go_in
  go_wp2
  go_loopw [3] (fun i wr => ∃ k : Nat, 0 < k ∧ k ≤ l.length + 1 ∧ i = .int .i64 k ∧ Hid (∀ j, j < k → okInc l j = true) ∧ Dr w wr) (fun i _ => l.length + 1 - (intOf i).toNat)
  case atStart => exact ⟨1, by omega, by omega, rfl, Lib.hid (fun j hj => (by have : j = 0 := (by omega); subst this; exact okInc_0 l)), Dr.refl _⟩
  case round =>
    obtain ⟨k, hk0, hk, rfl, HK, hb⟩ := hrel
    by_cases hlt : k < l.length
    · have hr := h.below hb.below (Nat.le_refl _)
      obtain ⟨b1, o1, y, rfl, hbb, hy, hcy⟩ := hr.at_str hlt
      obtain ⟨b2, o2, x, e, _, hx, hcx⟩ := hr.at_str (k := k - 1) (by omega)
      injection e with e
      injection e with e1 e2
      subst e1 e2
      have E := Lib.hid (okInc_pos hk0 hx hy)
      have hwk := wrap_pred hk0 (by omega)
      have hlt1 : k - 1 < l.length := by omega
      clear h hr hx hy
      rcases hl : less x y
      · obtain ⟨h1, h2⟩ := less_no hl
        clear hl
        have e0 := Lib.hid (show okInc l k = false by rw [E.out]; exact h1)
        rcases h2 with h2 | ⟨h2, h3⟩
        all_goals
          go_wp2
          go_quiet (fail)
          go_wp2
          go_ret
          refine ⟨ret_bool ?_, (by first | assumption | exact Dr.drewN (by assumption) _ | exact Dr.refl _)⟩
          rw [HG.out, all_no hlt e0.out]
      · obtain ⟨h1, h2, h3⟩ := less_yes hl
        have e0 := Lib.hid (show okInc l k = true by rw [E.out]; exact hl)
        clear hl
        go_wp2
        go_quiet (fail)
        go_wp2
        go_roundw
        case rel => exact ⟨k + 1, by omega, by omega, by go_num, Lib.hid (upto_succ HK.out e0.out), (by first | assumption | exact Dr.drewN (by assumption) _ | exact Dr.refl _)⟩
        case measure => simp [intOf]; omega
    · go_wp2
      go_ret
      refine ⟨ret_bool ?_, hb⟩
      rw [HG.out, all_yes (fun j hj => HK.out j (by omega))]
set_option maxHeartbeats 1000000 in
set_option maxRecDepth 100000 in
theorem impl_isGroup {A : Option Addr} {N c : Nat} {l : List ByteArray} {w : World} (hN : l.length = N) (h : Strs w A l) (hg : goodRows l = true) (hi : incB l = true) :
    Calls Try.prog 91 #[.slice A N c] w fun e w' => e = .returned (.bool (grpR l)) ∧ Below w.heap.size w w' := by
  subst hN
  have h800 := goodRows_len hg
  have HQ : Hid (∀ n, Calls Try.prog 90 #[.slice A l.length c] (w.drewN n) fun e w'' => e = .returned (.bool true) ∧ ∃ m, w'' = w.drewN m) := Lib.hid (fun n => by rw [← hi]; exact Dr.more (impl_increasingQ rfl (h.up (below_drewN (Below.refl _ _) n)) (by omega)))
  rcases Nat.eq_zero_or_pos l.length with h0 | h0
  · have e := List.eq_nil_of_length_eq_zero h0
    subst e
    go_in
    go_wp2
    go_quiet (fail)
    go_wp2
    go_ret
    exact ⟨rfl, by (repeat' (first | (with_reducible exact Below.refl _ _) | (with_reducible assumption) | (with_reducible refine below_drewN ?_ _) | (with_reducible refine Below.drew ?_) | (with_reducible refine below_alloc ?_ _) | (with_reducible refine Below.alloc ?_ ?_ _) | (with_reducible refine Below.setCell ?_ ?_ _) | (with_reducible refine below_go ?_ (by with_reducible assumption)) | (with_reducible refine below_then (by with_reducible assumption) ?_ ?_) | go_size))⟩
  · obtain ⟨b1, o1, x0, rfl, hbb, hx0, hcx⟩ := h.at_str h0
    obtain ⟨⟨h3, h8⟩, hl⟩ := rows_of hg hx0
    have HX0 := Lib.hid hx0
    have HL := Lib.hid hl
    have HI := Lib.hid hi
    simp only [Nat.add_zero] at hcx
    have hne0 : decide ((l.length : Int) = 0) = false := decide_eq_false (by omega)
    have hne0' : ((l.length : Int) == 0) = false := beq_false_of_ne (by omega)
    by_cases hr : x0 = roundsS x0.size
    · have hb1 : (x0.toList != (roundsS x0.size).toList) = false := by rw [← hr]; simp
      have hb2 : (x0.toList == (roundsS x0.size).toList) = true := by rw [← hr]; simp
      have HR := Lib.hid hr
      clear hr hx0 hl hg hi
      go_in
      go_wp2
      go_quiet (first | (go_at_call 90; exact HQ.out _) | (go_at_call 102; exact quiet_left (impl_rounds h8)))
      rename Nat => nq
      have HO0 := Lib.hid (Owned.empty (E := 9) strE_len (w.drewN nq) (base := w.heap.size) (by simp))
      have HG0 := Lib.hid (own_lit1_at' strE_len ((w.drewN nq).alloc (.cells #[] 9)) 9 x0 rfl (Nat.le_refl _))
      have hb0 : Below w.heap.size w (((w.drewN nq).alloc (.cells #[] 9)).alloc (.cells #[.string x0] 9)) := by (repeat' (first | (with_reducible exact Below.refl _ _) | (with_reducible assumption) | (with_reducible refine below_drewN ?_ _) | (with_reducible refine Below.drew ?_) | (with_reducible refine below_alloc ?_ _) | (with_reducible refine Below.alloc ?_ ?_ _) | (with_reducible refine Below.setCell ?_ ?_ _) | (with_reducible refine below_go ?_ (by with_reducible assumption)) | (with_reducible refine below_then (by with_reducible assumption) ?_ ?_) | go_size))
      have hb0a : Below w.heap.size w ((w.drewN nq).alloc (.cells #[] 9)) := by (repeat' (first | (with_reducible exact Below.refl _ _) | (with_reducible assumption) | (with_reducible refine below_drewN ?_ _) | (with_reducible refine Below.drew ?_) | (with_reducible refine below_alloc ?_ _) | (with_reducible refine Below.alloc ?_ ?_ _) | (with_reducible refine Below.setCell ?_ ?_ _) | (with_reducible refine below_go ?_ (by with_reducible assumption)) | (with_reducible refine below_then (by with_reducible assumption) ?_ ?_) | go_size))
      have c2 := (hb0a.cell (p := ⟨b1, o1, none⟩) hbb).trans hcx
      clear hb0a
      go_wp2
      go_loopw [3, 4, 35] (fun v u i wr => ∃ (k m p : Nat) (A1 A2 : Option Addr) (c1 c2 : Nat) (gs G : List ByteArray), k ≤ l.length ∧ i = .int .i64 k ∧ v = .slice A1 m c1 ∧ u = .slice A2 p c2 ∧ m ≤ k ∧ p ≤ 800 ∧ Hid (Owned strE 1 9 wr w.heap.size A1 m c1 gs) ∧ Hid (Strs wr A2 G ∧ G.length = p ∧ G.Perm (clF x0.size gs) ∧ Srt G ∧ (∀ g ∈ gs, g ∈ l) ∧ ∀ j x, j < k → l[j]? = some x → x ∈ clF x0.size gs) ∧ Below w.heap.size w wr) (fun _ _ i _ => l.length - (intOf i).toNat)
      case atStart =>
        have hc1 : clF x0.size [] = [x0] := by rw [clF_nil, ← HR.out]
        refine ⟨0, 0, 1, _, _, 0, 1, [], [x0], Nat.zero_le _, rfl, rfl, rfl, by omega, by omega, Lib.hid (HO0.out.alloc _), Lib.hid ⟨?_, rfl, by rw [hc1], List.pairwise_singleton .., by simp, fun j x hj _ => absurd hj (by omega)⟩, hb0⟩
        have h9 := HG0.out.recs
        simp at h9
        exact h9
      case round =>
        clear HO0 HG0 hb0
        obtain ⟨k, m, p, A1, A2, c1, c2, gs, G, hk, rfl, rfl, rfl, hm, hp, HO, HG, hb⟩ := hrel
        rename World => w2
        have hsz := hb.size
        by_cases hlt : k < l.length
        · obtain ⟨b3, o3, y, e, _, hy, hcy⟩ := (h.below hb (Nat.le_refl _)).at_str hlt
          injection e with e
          injection e with e1 e2
          subst e1 e2
          have HY := Lib.hid hy
          have HYN := Lib.hid (HL.out y (List.mem_of_getElem? hy))
          have hyz : y.size = x0.size := HYN.out.2
          clear hy
          go_wp2_with fail
          refine (impl_has HG.out.2.1 HG.out.1 (by omega) HG.out.2.2.2.1).mono ?_; rintro e w3 ⟨rfl, hb3⟩
          have hB3 := below_go hb hb3
          have HO3 := Lib.hid (HO.out.up hb3)
          have hs3 := hb3.size
          rcases hin : inL G y
          · have hgs2 : Hid (∀ s ∈ gs ++ [y], s ∈ l) := Lib.hid (fun s hs => by
              rcases List.mem_append.1 hs with h | h
              · exact HG.out.2.2.2.2.1 s h
              · obtain rfl := List.mem_singleton.1 h
                exact List.mem_of_getElem? HY.out)
            have hgN : Hid (∀ s ∈ gs ++ [y], RowN x0.size s) := Lib.hid (fun s hs => HL.out s (hgs2.out s hs))
            have hall : Hid (∀ j x, j < k + 1 → l[j]? = some x → x ∈ clF x0.size (gs ++ [y])) := Lib.hid (up_one (Q := fun x => x ∈ clF x0.size (gs ++ [y])) (fun j x hj hx => clF_more h3 h8 hgN.out _ (HG.out.2.2.2.2.2 j x hj hx)) HY.out (clF_has h3 h8 hgN.out (by simp)))
            have hsz1 := hB3.size
            go_wp2_with (first | (at_builtin; go_must ((refine wpList_append_recs Try.elStr strE_one rfl (.tmp 42) (.tmp 44) rfl rfl (HO3.out.alloc _) rfl (own_lit1_at' strE_len _ 9 y rfl (Nat.le_refl _)).recs rfl ?_ (by decide) ?_ ?_; (focus (first | omega | (simp only [World.size_alloc]; done) | (simp only [World.size_alloc]; omega) | (simp; done) | (simp; omega))); (simp; omega); intro A6 c6 w6 ho6 hg6 hl6; have HO6 := Lib.hid ho6; have HB6 := Lib.hid ((hB3.alloc hsz1 (.cells #[.string y] 9)).trans (grown_base hg6 (by simp; omega) (fun k hk => (HO3.out.blk hk).1))); clear ho6 hg6 hl6))))
            have hlen6 : Hid ((gs ++ [y]).length = m + 1) := Lib.hid HO6.out.len
            refine (impl_generated (n := x0.size) hlen6.out HO6.out.recs (by omega) h3 h8 hgN.out (by omega) (by omega)).mono ?_; rintro e w7 ⟨A7, m7, c7, rfl, hyes, hno, hb7⟩
            have HB7 := below_go HB6.out hb7
            have HO7 := Lib.hid (HO6.out.up hb7)
            by_cases hle : (clF x0.size (gs ++ [y])).length ≤ l.length
            · have hd := Lib.hid (decide_eq_true hle)
              obtain ⟨rfl, L, hoL, hpL, hsL⟩ := hyes hle
              have HG7 := Lib.hid (show Strs w7 A7 L ∧ L.length = (clF x0.size (gs ++ [y])).length ∧ L.Perm (clF x0.size (gs ++ [y])) ∧ Srt L ∧ (∀ g ∈ gs ++ [y], g ∈ l) ∧ ∀ j x, j < k + 1 → l[j]? = some x → x ∈ clF x0.size (gs ++ [y]) from ⟨hoL.recs, hpL.length_eq, hpL, hsL, hgs2.out, hall.out⟩)
              rw [hd.out]
              clear hyes hno hoL hpL hsL hin
              go_wp2
              go_roundw
              case rel => exact ⟨k + 1, m + 1, (clF x0.size (gs ++ [y])).length, A6, A7, c6, c7, gs ++ [y], L, by omega, by go_num, rfl, rfl, by omega, by omega, HO7, HG7, HB7⟩
              case measure => simp [intOf]; omega
            · have hd := Lib.hid (decide_eq_false hle)
              obtain ⟨rfl, rfl, rfl⟩ := hno hle
              have e1 := Lib.hid (grp_no h3 h8 HL.out ⟨_, HX0.out⟩ hgs2.out (by omega))
              rw [hd.out]
              clear hyes hno hin
              go_wp2
              go_ret
              exact ⟨ret_bool e1.out.symm, HB7⟩
          · have hy2 : Hid (y ∈ clF x0.size gs) := Lib.hid (HG.out.2.2.1.mem_iff.1 (inL_iff.1 hin))
            have HG3 := Lib.hid (show Strs w3 A2 G ∧ G.length = p ∧ G.Perm (clF x0.size gs) ∧ Srt G ∧ (∀ g ∈ gs, g ∈ l) ∧ ∀ j x, j < k + 1 → l[j]? = some x → x ∈ clF x0.size gs from ⟨HG.out.1.up hb3, HG.out.2.1, HG.out.2.2.1, HG.out.2.2.2.1, HG.out.2.2.2.2.1, up_one (Q := fun x => x ∈ clF x0.size gs) HG.out.2.2.2.2.2 HY.out hy2.out⟩)
            clear hin
            go_wp2
            go_roundw
            case rel => exact ⟨k + 1, m, p, A1, A2, c1, c2, gs, G, by omega, by go_num, rfl, rfl, by omega, hp, HO3, HG3, hB3⟩
            case measure => simp [intOf]; omega
        · obtain rfl : k = l.length := by omega
          have e1 := Lib.hid (grp_end h3 h8 HL.out (by rw [HX0.out, ← HR.out]) HG.out.2.2.2.2.1 (up_mem HG.out.2.2.2.2.2) HG.out.2.2.1 HG.out.2.2.2.1 (inc_srt HI.out) (inc_nodup HI.out))
          go_wp2_with fail
          refine (equal_strs _ _ _ _ _ _ G l _ HG.out.2.1 rfl HG.out.1 (h.below hb (Nat.le_refl _)) (by omega) (by omega)).mono ?_; rintro e w3 ⟨rfl, hb3⟩
          go_wp2
          go_ret
          exact ⟨ret_bool e1.out, below_go hb hb3⟩
    · have hb1 : (x0.toList != (roundsS x0.size).toList) = true := bne_iff_ne.2 (fun e => hr (bytes_same (by rw [e]; simp)))
      have hb2 : (x0.toList == (roundsS x0.size).toList) = false := beq_false_of_ne (fun e => hr (bytes_same (by rw [e]; simp)))
      have E := Lib.hid (grp_first hx0 hr)
      clear hr hx0 hl hg hi
      go_in
      go_wp2
      go_quiet (first | (go_at_call 90; exact HQ.out _) | (go_at_call 102; exact quiet_left (impl_rounds h8)))
      go_wp2
      go_ret
      exact ⟨ret_bool E.out.symm, by (repeat' (first | (with_reducible exact Below.refl _ _) | (with_reducible assumption) | (with_reducible refine below_drewN ?_ _) | (with_reducible refine Below.drew ?_) | (with_reducible refine below_alloc ?_ _) | (with_reducible refine Below.alloc ?_ ?_ _) | (with_reducible refine Below.setCell ?_ ?_ _) | (with_reducible refine below_go ?_ (by with_reducible assumption)) | (with_reducible refine below_then (by with_reducible assumption) ?_ ?_) | go_size))⟩
set_option maxRecDepth 100000 in
theorem impl_IsGroup {A : Option Addr} {N c : Nat} {l : List ByteArray} {w : World} (hN : l.length = N) (h : Strs w A l) (hz : N ≤ 16777216) (hs : ∀ s ∈ l, s.size ≤ 16777216) :
    Calls Try.prog 23 #[.slice A N c] w fun e w' => e = .returned (.tuple #[.bool (incB l && goodRows l && grpR l), .bool (incB l && goodRows l)]) ∧ Below w.heap.size w w' := by
  have HS := Lib.hid hs
  clear hs
  rcases hg : goodRows l
  · go_in
    go_wp2_with fail
    refine (impl_GoodRows hN h hz HS.out).mono ?_; rw [hg]; rintro e w1 ⟨rfl, rfl⟩
    go_wp2
    go_ret2
    exact ⟨by simp, by (repeat' (first | (with_reducible exact Below.refl _ _) | (with_reducible assumption) | (with_reducible refine below_drewN ?_ _) | (with_reducible refine Below.drew ?_) | (with_reducible refine below_alloc ?_ _) | (with_reducible refine Below.alloc ?_ ?_ _) | (with_reducible refine Below.setCell ?_ ?_ _) | (with_reducible refine below_go ?_ (by with_reducible assumption)) | (with_reducible refine below_then (by with_reducible assumption) ?_ ?_) | go_size))⟩
  · rcases hi : incB l
    · go_in
      go_wp2_with fail
      refine (impl_GoodRows hN h hz HS.out).mono ?_; rw [hg]; rintro e w1 ⟨rfl, rfl⟩
      go_wp2_with fail
      refine (impl_increasing hN h hz).mono ?_; rw [hi]; rintro e w1 ⟨rfl, hb1⟩
      go_wp2
      go_ret2
      exact ⟨by simp, hb1⟩
    · go_in
      go_wp2_with fail
      refine (impl_GoodRows hN h hz HS.out).mono ?_; rw [hg]; rintro e w1 ⟨rfl, rfl⟩
      go_wp2_with fail
      refine (impl_increasing hN h hz).mono ?_; rw [hi]; rintro e w1 ⟨rfl, hb1⟩
      go_wp2_with fail
      refine (impl_isGroup hN (h.below hb1 (Nat.le_refl _)) hg hi).mono ?_; rintro e w2 ⟨rfl, hb2⟩
      go_wp2
      go_ret2
      exact ⟨by simp, below_go hb1 hb2⟩
end Go.Proofs.Ytpccbmndgdiloaa
/- The walks through the even elements of a list of rows, both sides. -/
namespace Go.Proofs.Ytpccbmndgdiloaa
set_option linter.unusedVariables false
set_option linter.unusedSimpArgs false
open Go.ChangeShapes Go.WideShapes Go.ChangeAt Go.RowKit Go.Deep
theorem evf_hit {l : List ByteArray} {k : Nat} {x : ByteArray} (h : l[k]? = some x) (hx : evenRow x = true) : (l.take (k + 1)).filter evenRow = (l.take k).filter evenRow ++ [x] := by
  rw [take_succ_some h, List.filter_append, List.filter_cons_of_pos hx, List.filter_nil]
theorem evf_miss {l : List ByteArray} {k : Nat} {x : ByteArray} (h : l[k]? = some x) (hx : evenRow x = false) : (l.take (k + 1)).filter evenRow = (l.take k).filter evenRow := by
  rw [take_succ_some h, List.filter_append, List.filter_cons_of_neg (by rw [hx]; simp), List.filter_nil, List.append_nil]
set_option maxHeartbeats 1000000 in
set_option maxRecDepth 100000 in
theorem impl_EvenOnes {A : Option Addr} {N c : Nat} {l : List ByteArray} {w : World} (hN : l.length = N) (h : Strs w A l) (hz : N ≤ 1000000) (hs : ∀ s ∈ l, s.size ≤ 16777216) :
    Calls Try.prog 25 #[.slice A N c] w fun e w' => ∃ A' c', e = .returned (.tuple #[.slice A' (evR l).length c', .bool (goodRows l)]) ∧ Owned strE 1 9 w' w.heap.size A' (evR l).length c' (evR l) ∧ (evR l).length ≤ 1000000 ∧ Below w.heap.size w w' := by
  subst hN
  have HS := Lib.hid hs
  clear hs
  rcases hg : goodRows l
  · have e1 := Lib.hid (evR_f hg)
    go_in
    go_wp2_with fail
    refine (impl_GoodRows rfl h (by omega) HS.out).mono ?_; rw [hg]; rintro e w' ⟨rfl, rfl⟩
    go_wp2
    go_ret2
    rw [e1.out]
    exact ⟨none, 0, rfl, Owned.nil strE_len _ _ _, by simp, Below.refl _ _⟩
  · have e1 := Lib.hid (evR_t hg)
    go_in
    go_wp2_with fail
    refine (impl_GoodRows rfl h (by omega) HS.out).mono ?_; rw [hg]; rintro e w' ⟨rfl, rfl⟩
    have ho0 := Lib.hid (Owned.empty (E := 9) strE_len w (Nat.le_refl _))
    have hb0 : Below w.heap.size w (w.alloc (.cells #[] 9)) := by (repeat' (first | (with_reducible exact Below.refl _ _) | (with_reducible assumption) | (with_reducible refine below_drewN ?_ _) | (with_reducible refine Below.drew ?_) | (with_reducible refine below_alloc ?_ _) | (with_reducible refine Below.alloc ?_ ?_ _) | (with_reducible refine Below.setCell ?_ ?_ _) | (with_reducible refine below_go ?_ (by with_reducible assumption)) | (with_reducible refine below_then (by with_reducible assumption) ?_ ?_) | go_size))
    go_wp2
    go_loopw [4, 13] (fun v i wr => ∃ (k m : Nat) (A' : Option Addr) (c' : Nat), k ≤ l.length ∧ i = .int .i64 k ∧ v = .slice A' m c' ∧ m ≤ k ∧ Hid (Owned strE 1 9 wr w.heap.size A' m c' ((l.take k).filter evenRow)) ∧ Below w.heap.size w wr) (fun _ i _ => l.length - (intOf i).toNat)
    case atStart => exact ⟨0, 0, _, _, Nat.zero_le _, rfl, rfl, Nat.le_refl _, ho0, hb0⟩
    case round =>
      obtain ⟨k, m, A', c', hk, rfl, rfl, hm, HO, hb⟩ := hrel
      rename World => wr
      have hsz := hb.size
      by_cases hlt : k < l.length
      · obtain ⟨b1, o1, y, rfl, _, hy, hcy⟩ := (h.below hb (Nat.le_refl _)).at_str hlt
        have hyz := HS.out y (List.mem_of_getElem? hy)
        rcases hev : evenRow y
        · have E := Lib.hid (evf_miss hy hev)
          clear hy
          go_wp2_with fail
          refine (impl_even hyz).mono ?_; rw [hev]; rintro e w3 ⟨rfl, hb3⟩
          go_wp2
          go_roundw
          case rel => exact ⟨k + 1, m, A', c', by omega, by go_num, rfl, by omega, Lib.hid (by rw [E.out]; exact HO.out.up hb3), below_go hb hb3⟩
          case measure => simp [intOf]; omega
        · have E := Lib.hid (evf_hit hy hev)
          clear hy
          go_wp2_with fail
          refine (impl_even hyz).mono ?_; rw [hev]; rintro e w3 ⟨rfl, hb3⟩
          have HO3 := Lib.hid (HO.out.up hb3)
          have hb3' := below_go hb hb3
          have hs3 := hb3'.size
          go_wp2_with (first | (at_builtin; go_must ((refine wpList_append_recs Try.elStr strE_one rfl (.tmp 19) (.tmp 21) rfl rfl (HO3.out.alloc _) rfl (own_lit1_at' strE_len _ 9 y rfl (Nat.le_refl _)).recs rfl ?_ (by decide) ?_ ?_; (focus (first | omega | (simp only [World.size_alloc]; done) | (simp only [World.size_alloc]; omega) | (simp; done) | (simp; omega))); (simp; omega); intro A6 c6 w6 ho6 hg6 hl6; have HO6 := Lib.hid ho6; have HB6 := Lib.hid ((hb3'.alloc hs3 (.cells #[.string y] 9)).trans (grown_base hg6 (by simp; omega) (fun k hk => (HO3.out.blk hk).1))); clear ho6 hg6 hl6))))
          go_roundw
          case rel => exact ⟨k + 1, m + 1, A6, c6, by omega, by go_num, rfl, by omega, Lib.hid (by rw [E.out]; exact HO6.out), HB6.out⟩
          case measure => simp [intOf]; omega
      · obtain rfl : k = l.length := by omega
        have HO2 : Hid (Owned strE 1 9 wr w.heap.size A' m c' (evR l)) := Lib.hid (by have := HO.out; rw [List.take_length] at this; rw [e1.out]; exact this)
        have hml := Lib.hid HO2.out.len
        go_wp2
        go_ret2
        rw [hml.out]
        exact ⟨_, _, rfl, HO2.out, by omega, hb⟩
set_option maxHeartbeats 1000000 in
set_option maxRecDepth 100000 in
theorem spec_EvenOnes {A : Option Addr} {N c : Nat} {l : List ByteArray} {w : World} (hN : l.length = N) (h : Strs w A l) (hz : N ≤ 1000000) (hs : ∀ s ∈ l, s.size ≤ 16777216) :
    Calls Try.prog 27 #[.slice A N c] w fun e w' => ∃ A' c', e = .returned (.tuple #[.slice A' (evR l).length c', .bool (goodRows l)]) ∧ Owned strE 1 9 w' w.heap.size A' (evR l).length c' (evR l) ∧ (evR l).length ≤ 1000000 ∧ Below w.heap.size w w' := by
  subst hN
  have HS := Lib.hid hs
  clear hs
  rcases hg : goodRows l
  · have e1 := Lib.hid (evR_f hg)
    go_in
    go_wp2_with fail
    refine (spec_l6Rows rfl h (by omega) HS.out).mono ?_; rw [hg]; rintro e w1 ⟨rfl, hb1⟩
    go_wp2
    go_ret2
    rw [e1.out]
    exact ⟨none, 0, rfl, Owned.nil strE_len _ _ _, by simp, hb1⟩
  · have e1 := Lib.hid (evR_t hg)
    go_in
    go_wp2_with fail
    refine (spec_l6Rows rfl h (by omega) HS.out).mono ?_; rw [hg]; rintro e w1 ⟨rfl, hb1⟩
    go_wp2
    go_loopw [4, 12] (fun v i wr => ∃ (k m : Nat) (A' : Option Addr) (c' : Nat), k ≤ l.length ∧ i = .int .i64 k ∧ v = .slice A' m c' ∧ m ≤ k ∧ Hid (Owned strE 1 9 wr w.heap.size A' m c' ((l.take k).filter evenRow)) ∧ Below w.heap.size w wr) (fun _ i _ => l.length - (intOf i).toNat)
    case atStart => exact ⟨0, 0, none, 0, Nat.zero_le _, rfl, rfl, Nat.le_refl _, Lib.hid (Owned.nil strE_len _ _ _), hb1⟩
    case round =>
      obtain ⟨k, m, A', c', hk, rfl, rfl, hm, HO, hb⟩ := hrel
      rename World => wr
      have hsz := hb.size
      by_cases hlt : k < l.length
      · obtain ⟨b1, o1, y, rfl, _, hy, hcy⟩ := (h.below hb (Nat.le_refl _)).at_str hlt
        have hyz := HS.out y (List.mem_of_getElem? hy)
        rcases hev : evenRow y
        · have E := Lib.hid (evf_miss hy hev)
          clear hy
          go_wp2_with fail
          refine (spec_l1Even hyz).mono ?_; rw [hev]; rintro e w3 ⟨rfl, hb3⟩
          go_wp2
          go_roundw
          case rel => exact ⟨k + 1, m, A', c', by omega, by go_num, rfl, by omega, Lib.hid (by rw [E.out]; exact HO.out.up hb3), below_go hb hb3⟩
          case measure => simp [intOf]; omega
        · have E := Lib.hid (evf_hit hy hev)
          clear hy
          go_wp2_with fail
          refine (spec_l1Even hyz).mono ?_; rw [hev]; rintro e w3 ⟨rfl, hb3⟩
          have HO3 := Lib.hid (HO.out.up hb3)
          have hb3' := below_go hb hb3
          have hs3 := hb3'.size
          go_wp2_with (first | (at_builtin; go_must ((refine wpList_append_recs Try.elStr strE_one rfl (.tmp 18) (.tmp 20) rfl rfl (HO3.out.alloc _) rfl (own_lit1_at' strE_len _ 9 y rfl (Nat.le_refl _)).recs rfl ?_ (by decide) ?_ ?_; (focus (first | omega | (simp only [World.size_alloc]; done) | (simp only [World.size_alloc]; omega) | (simp; done) | (simp; omega))); (simp; omega); intro A6 c6 w6 ho6 hg6 hl6; have HO6 := Lib.hid ho6; have HB6 := Lib.hid ((hb3'.alloc hs3 (.cells #[.string y] 9)).trans (grown_base hg6 (by simp; omega) (fun k hk => (HO3.out.blk hk).1))); clear ho6 hg6 hl6))))
          go_roundw
          case rel => exact ⟨k + 1, m + 1, A6, c6, by omega, by go_num, rfl, by omega, Lib.hid (by rw [E.out]; exact HO6.out), HB6.out⟩
          case measure => simp [intOf]; omega
      · obtain rfl : k = l.length := by omega
        have HO2 : Hid (Owned strE 1 9 wr w.heap.size A' m c' (evR l)) := Lib.hid (by have := HO.out; rw [List.take_length] at this; rw [e1.out]; exact this)
        have hml := Lib.hid HO2.out.len
        go_wp2
        go_ret2
        rw [hml.out]
        exact ⟨_, _, rfl, HO2.out, by omega, hb⟩
end Go.Proofs.Ytpccbmndgdiloaa
/- The walks through the generator's cursor. -/
namespace Go.Proofs.Ytpccbmndgdiloaa
set_option linter.unusedVariables false
set_option linter.unusedSimpArgs false
open Go.ChangeShapes Go.WideShapes Go.ChangeAt Go.RowKit Go.Deep
/-- Block p is a cursor over n bytes with address A, at most a steps on. -/
def Cur (w : World) (p : Nat) (A : Option Addr) (n c a : Nat) : Prop := ∃ (k : Nat) (s : Int), Blk w p 104 [.slice A n c, .int .i64 k, .int .u64 s] ∧ k ≤ a ∧ 0 ≤ s ∧ s ≤ 18446744073709551615
/-- The bytes that a cursor reads, as they stood in world w0. -/
def Src (w0 : World) (A : Option Addr) (n : Nat) : Prop := ∃ l : List Int, l.length = n ∧ n ≤ 1048576 ∧ (∀ x ∈ l, 0 ≤ x ∧ x ≤ 255) ∧ Recs byteE 1 w0 A l
theorem Cur.mono {w : World} {p : Nat} {A : Option Addr} {n c a b : Nat} (h : Cur w p A n c a) (hb : a ≤ b) : Cur w p A n c b := by
  obtain ⟨k, s, h1, h2, h3⟩ := h
  exact ⟨k, s, h1, by omega, h3⟩
theorem Cur.lt {w : World} {p : Nat} {A : Option Addr} {n c a : Nat} (h : Cur w p A n c a) : p < w.heap.size := by
  obtain ⟨k, s, h1, _⟩ := h
  exact h1.lt
theorem Cur.grown {w w' : World} {p : Nat} {A : Option Addr} {n c a : Nat} {row : Option Nat} (h : Cur w p A n c a) (hg : w.grownBy w' row) (hne : some p ≠ row) : Cur w' p A n c a := by
  obtain ⟨k, s, h1, h2⟩ := h
  exact ⟨k, s, h1.grown hg hne, h2⟩
theorem Cur.up {w w' : World} {p : Nat} {A : Option Addr} {n c a : Nat} (h : Cur w p A n c a) (hb : Below w.heap.size w w') : Cur w' p A n c a := h.grown (grown_of_below hb) (by simp)
theorem Recs.at_byte {w : World} {A : Option Addr} {l : List Int} {k : Nat} (h : Recs byteE 1 w A l) (hk : k < l.length) : ∃ b off x, A = some ⟨b, off, none⟩ ∧ b < w.heap.size ∧ l[k]? = some x ∧ w.cell? ⟨b, off + k, none⟩ = some (.int .u8 x) := by
  obtain ⟨b, off, hA, hb, hc⟩ := h.cells (by omega)
  obtain ⟨x, hx⟩ := some_of_lt hk
  exact ⟨b, off, x, hA, hb, hx, by simpa using hc k x 0 _ hx rfl⟩
theorem u64_bd (x : Int) : 0 ≤ IntKind.u64.wrap x ∧ IntKind.u64.wrap x ≤ 18446744073709551615 := by rw [IntKind.wrap_u64]; omega
theorem and255 {x : Int} (h0 : 0 ≤ x) (h1 : x ≤ 18446744073709551615) : 0 ≤ bits .and .u64 x 255 ∧ bits .and .u64 x 255 ≤ 255 := by
  obtain ⟨n, rfl⟩ := Int.eq_ofNat_of_zero_le h0
  have e : bits .and .u64 (n : Int) ((255 : Nat) : Int) = ((n &&& 255 : Nat) : Int) := bits_and_u64_nat n 255 (by omega) (by omega)
  have h := Nat.and_le_right (n := n) (m := 255)
  rw [show ((255 : Int)) = ((255 : Nat) : Int) from rfl, e]
  omega
set_option maxRecDepth 100000 in
theorem cur_next {A : Option Addr} {n c a p : Nat} {w0 w : World} (hS : Src w0 A n) (hb : Below w0.heap.size w0 w) (hp : w0.heap.size ≤ p) (hc : Cur w p A n c a) (ha : a ≤ 16777216) :
    Calls Try.prog 179 #[.pointer (some ⟨p, 0, none⟩)] w fun e w' => ∃ x : Int, e = .returned (.int .i64 x) ∧ 0 ≤ x ∧ x ≤ 255 ∧ Cur w' p A n c (a + 1) ∧ w.grownBy w' (some p) := by
  obtain ⟨l, rfl, hn, hlb, hR⟩ := hS
  obtain ⟨k, s, K, hk, s0, s1⟩ := hc
  have k0 := K.cell 0; have k1 := K.cell 1; have k2 := K.cell 2
  have f1 := K.frozen 1; have f2 := K.frozen 2
  simp only [List.getElem?_cons_zero, List.getElem?_cons_succ] at k0 k1 k2
  have HK := Lib.hid K
  clear K
  by_cases hlt : k < l.length
  · have hI : (k : Int) < (l.length : Int) := by omega
    have hJ : (k : Int) + 1 ≤ (l.length : Int) := by omega
    obtain ⟨b, o, x, rfl, _, hx, hcx⟩ := (hR.below hb (Nat.le_refl _)).at_byte hlt
    have hxb := hlb x (List.mem_of_getElem? hx)
    have gx : IntKind.i64.wrap x = x := wrap_id (by omega)
    clear hx hR hlb
    go_in
    go_wp2
    go_quiet (fail)
    go_wp2
    go_quiet (fail)
    go_wp2
    go_quiet (fail)
    go_wp2
    go_ret
    refine ⟨_, rfl, hxb.1, hxb.2, ⟨k + 1, _, ((HK.out.drewN _).set_ 1 _).set_ 2 _, by omega, (u64_bd _).1, (u64_bd _).2⟩, ?_⟩
    exact grownBy_trans (grownBy_trans (grown_any (below_drewN (Below.refl _ _) _) _) (only_set _ (p := ⟨p, 1, none⟩) _)) (grownBy_trans (only_set _ (p := ⟨p, 2, none⟩) _) (grown_any (below_drewN (Below.refl _ _) _) _))
  · have hI : ¬ (k : Int) < (l.length : Int) := by omega
    have hJ : ¬ (k : Int) + 1 ≤ (l.length : Int) := by omega
    clear hR hlb
    go_in
    go_wp2
    go_quiet (fail)
    go_wp2
    go_quiet (fail)
    go_wp2
    obtain ⟨T, hT⟩ : ∃ T, T = IntKind.u64.wrap (IntKind.u64.wrap (IntKind.u64.wrap (s * 6364136223846793005)) + 1442695040888963407) := ⟨_, rfl⟩
    have hTb : 0 ≤ T ∧ T ≤ 18446744073709551615 := by rw [hT]; exact u64_bd _
    rw [← hT]
    clear hT
    have hA := and255 (x := T / 1099511627776) (by omega) (by omega)
    obtain ⟨v, hv⟩ : ∃ v, v = bits BinOp.and IntKind.u64 (T / 1099511627776) 255 := ⟨_, rfl⟩
    rw [← hv] at hA ⊢
    clear hv
    have hwv : wrap64 v = v := by unfold wrap64; omega
    rw [hwv]
    clear hwv
    go_ret
    refine ⟨_, rfl, hA.1, hA.2, ⟨k + 1, _, ((HK.out.drewN _).set_ 1 _).set_ 2 _, by omega, hTb.1, hTb.2⟩, ?_⟩
    exact grownBy_trans (grownBy_trans (grown_any (below_drewN (Below.refl _ _) _) _) (only_set _ (p := ⟨p, 1, none⟩) _)) (grownBy_trans (only_set _ (p := ⟨p, 2, none⟩) _) (grown_any (below_drewN (Below.refl _ _) _) _))
theorem grown_below {w0 w w' : World} {p : Nat} (hb : Below w0.heap.size w0 w) (hp : w0.heap.size ≤ p) (hg : w.grownBy w' (some p)) : Below w0.heap.size w0 w' := hb.grown hg hb.size fun k hk => by injection hk with hk; omega
/-- A number below n, or 0. -/
def upTo (n x : Int) : Prop := 0 ≤ x ∧ (x < n ∨ x = 0)
set_option maxRecDepth 100000 in
theorem cur_pick {A : Option Addr} {n c a p : Nat} {N : Int} {w0 w : World} (hS : Src w0 A n) (hb : Below w0.heap.size w0 w) (hp : w0.heap.size ≤ p) (hc : Cur w p A n c a) (ha : a ≤ 16777216) (hN : N ≤ 200) (hN0 : -1000 ≤ N) :
    Calls Try.prog 97 #[.pointer (some ⟨p, 0, none⟩), .int .i64 N] w fun e w' => ∃ x : Int, e = .returned (.int .i64 x) ∧ upTo N x ∧ Cur w' p A n c (a + 1) ∧ w.grownBy w' (some p) := by
  by_cases h1 : N ≤ 1
  · go_in
    go_wp2
    go_ret
    exact ⟨0, rfl, ⟨Int.le_refl _, .inr rfl⟩, hc.mono (by omega), grown_any (Below.refl _ _) _⟩
  · go_in
    go_wp2_with fail
    refine (cur_next hS hb hp hc ha).mono ?_; rintro e w1 ⟨x, rfl, x0, x1, hc1, hg1⟩
    have hm : x.tmod N = x % N := Int.tmod_eq_emod_of_nonneg x0
    have m0 := Int.emod_nonneg x (show N ≠ 0 by omega)
    have m1 := Int.emod_lt_of_pos x (show 0 < N by omega)
    have hN1 : ¬ N = 0 := by omega
    go_wp2
    go_ret
    exact ⟨_, rfl, ⟨by omega, .inl (by omega)⟩, hc1, hg1⟩
theorem cur_one {A : Option Addr} {n c a p : Nat} {N : Int} {w0 w : World} (hS : Src w0 A n) (hb : Below w0.heap.size w0 w) (hp : w0.heap.size ≤ p) (hc : Cur w p A n c a) (ha : a ≤ 16777216) (hN : N ≤ 200) (hN0 : -1000 ≤ N) :
    Calls Try.prog 85 #[.pointer (some ⟨p, 0, none⟩), .int .i64 N] w fun e w' => ∃ b : Bool, e = .returned (.bool b) ∧ Cur w' p A n c (a + 1) ∧ w.grownBy w' (some p) := by
  go_in
  go_wp2_with fail
  refine (cur_pick hS hb hp hc ha hN hN0).mono ?_; rintro e w1 ⟨x, rfl, _, hc1, hg1⟩
  go_wp2
  go_ret
  exact ⟨_, rfl, hc1, hg1⟩
theorem lit_ints (w : World) (t : TypeId) (l : List Int) : Ints (w.alloc (.cells ⟨l.map fun x => Value.int .i64 x⟩ t)) (some ⟨w.heap.size, 0, none⟩) l := by
  refine ⟨intE_len, by rw [flatMap_len intE_len], fun hn => ⟨w.heap.size, 0, rfl, by simp, fun j u hu => ?_⟩⟩
  have h := Box.new w (l.map fun x => Value.int .i64 x) t
  rw [Nat.zero_add]
  refine h j u ?_
  rw [← hu]
  congr 1
  exact (flatMap_one (fun x => Value.int .i64 x) l).symm
theorem cur_among {A B : Option Addr} {n c a p m d : Nat} {l : List Int} {w0 w : World} (hS : Src w0 A n) (hb : Below w0.heap.size w0 w) (hp : w0.heap.size ≤ p) (hc : Cur w p A n c a) (ha : a ≤ 16777216) (hm : l.length = m) (hl : Ints w B l) (hm0 : 0 < m) (hm1 : m ≤ 200) (hne : ∀ b o, B = some ⟨b, o, none⟩ → b ≠ p) :
    Calls Try.prog 99 #[.pointer (some ⟨p, 0, none⟩), .slice B m d] w fun e w' => ∃ x ∈ l, e = .returned (.int .i64 x) ∧ Cur w' p A n c (a + 1) ∧ w.grownBy w' (some p) := by
  subst hm
  go_in
  go_wp2_with fail
  refine (cur_pick hS hb hp hc ha (by omega) (by omega)).mono ?_; rintro e w1 ⟨x, rfl, ⟨x0, x1⟩, hc1, hg1⟩
  obtain ⟨k, rfl⟩ := Int.eq_ofNat_of_zero_le x0
  have hk : k < l.length := by omega
  obtain ⟨b, o, y, rfl, hbb, hy, hcy⟩ := hl.at_int hk
  have hcz : w1.cell? ⟨b, o + k, none⟩ = some (.int .i64 y) := (hg1.cell_far ⟨b, o + k, none⟩ hbb (fun e => hne b o rfl (by injection e))).trans hcy
  have HY := Lib.hid hy
  clear hy hl hcy x1
  go_wp2
  go_ret
  exact ⟨y, List.mem_of_getElem? HY.out, rfl, hc1, hg1⟩
theorem cur_skip {A : Option Addr} {n c a p : Nat} {w0 w : World} (hS : Src w0 A n) (hb : Below w0.heap.size w0 w) (hp : w0.heap.size ≤ p) (hc : Cur w p A n c a) (ha : a ≤ 16777216) :
    Calls Try.prog 128 #[.pointer (some ⟨p, 0, none⟩)] w fun e w' => ∃ x : Int, e = .returned (.int .i64 x) ∧ 0 ≤ x ∧ x ≤ 10001 ∧ Cur w' p A n c (a + 1) ∧ w.grownBy w' (some p) := by
  have hl := lit_ints w 3 [50, 50, 100, 10, 0, 10000, 10001]
  have hlt := hc.lt
  go_in
  go_wp2_with fail
  refine (cur_among hS (hb.alloc hb.size _) hp (hc.up ((Below.refl _ _).alloc (Nat.le_refl _) _)) ha rfl hl (by decide) (by decide) (fun b o e => by injection e with e; injection e with e; omega)).mono ?_; rintro e w1 ⟨x, hx, rfl, hc1, hg1⟩
  go_wp2
  go_ret
  simp only [List.mem_cons, List.not_mem_nil, or_false] at hx
  exact ⟨x, rfl, by omega, by omega, hc1, grownBy_trans (World.grownBy_alloc _ _ _) hg1⟩
end Go.Proofs.Ytpccbmndgdiloaa
