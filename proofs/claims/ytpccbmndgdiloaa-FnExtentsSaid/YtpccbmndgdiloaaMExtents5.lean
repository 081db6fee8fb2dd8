/- Texts 5 of 6 that the claim leans on: plain laws and the walks' contracts, in order. -/
import Derived.Test.YtpccbmndgdiloaaMExtents4
import Derived.Deep.DeepCutAuto
import Derived.Maps.StringElems
/- The walk through closures, the reference's side. -/
namespace Go.Proofs.Ytpccbmndgdiloaa
set_option linter.unusedVariables false
set_option linter.unusedSimpArgs false
open Go.ChangeShapes Go.WideShapes Go.ChangeAt Go.RowKit Go.Deep
set_option maxHeartbeats 1000000 in
set_option maxRecDepth 100000 in
theorem spec_l6Close {A : Option Addr} {N c n : Nat} {gs : List ByteArray} {w : World} (hN : gs.length = N) (h : Strs w A gs) (h0 : 0 < N) (hz : N ≤ 16777216) (h3 : 3 ≤ n) (h8 : n ≤ 8) (hg : ∀ g ∈ gs, RowN n g) :
    Calls Try.prog 168 #[.slice A N c] w fun e w' => ∃ A' m' c', e = .returned (.tuple #[.slice A' m' c', .bool (decide ((clF n gs).length ≤ 800))]) ∧ ((clF n gs).length ≤ 800 → m' = (clF n gs).length ∧ ∃ L, Owned strE 1 9 w' w.heap.size A' m' c' L ∧ L.Perm (clF n gs) ∧ Srt L) ∧ (¬ (clF n gs).length ≤ 800 → A' = none ∧ m' = 0 ∧ c' = 0) ∧ Below w.heap.size w w' := by
  subst hN
  have HG := Lib.hid hg
  have hr := rowN_rounds h3 h8
  have h40 : fact n ≤ 40320 := fact_le8 h8
  have HOK := Lib.hid (fun k => clAt_ok hr hg k)
  have HEND := Lib.hid (fun k (hk : (clAt gs (roundsS n) k).length = k) => clF_end h3 h8 hg hk)
  have HPRE := Lib.hid (fun k => pre_len (clF_pre h3 h8 hg k))
  have HLE := Lib.hid (fun k => (clAt_ok hr hg k).le)
  obtain ⟨b1, o1, g0, rfl, hbb, hg0, hcg0⟩ := h.at_str (k := 0) h0
  have hg0s := (hg g0 (List.mem_of_getElem? hg0)).2
  have hpl := rowN_place hr
  have hrs := hr.2
  obtain ⟨r0, hr0⟩ : ∃ r, r = roundsS n := ⟨_, rfl⟩
  obtain ⟨p0, hp0⟩ : ∃ p, p = place r0 := ⟨_, rfl⟩
  rw [← hr0] at hr HOK hpl hrs
  rw [← hp0] at hpl
  have HR0 := Lib.hid hr0
  have HP0 := Lib.hid hp0
  have HEND : Hid (∀ k, (clAt gs r0 k).length = k → clF n gs = clAt gs r0 k) := Lib.hid (by rw [hr0]; exact HEND.out)
  have HPRE : Hid (∀ k, (clAt gs r0 k).length ≤ (clF n gs).length) := Lib.hid (by rw [hr0]; exact HPRE.out)
  have HLE : Hid (∀ k, (clAt gs r0 k).length ≤ fact n) := Lib.hid (by rw [hr0]; exact HLE.out)
  have HF := Lib.hid (clAt_first (gs := gs) (r := r0))
  clear hg hg0 hr0 hp0
  simp only [Nat.add_zero] at hcg0
  go_in
  go_wp2_with fail
  refine (spec_l1Rounds h8).mono ?_; rw [← HR0.out]; rintro e w' ⟨rfl, rfl⟩
  go_wp2_with fail
  refine (spec_l6Seen h8).mono ?_; rintro e w1 ⟨gm, rfl, hom, hb1⟩
  have hmk0 := Lib.hid (MarkR.none n)
  obtain ⟨hgl, hgh⟩ := hom.at_own
  have HOM := Lib.hid hom
  clear hom hcg0
  go_wp2_with fail
  refine (spec_l1Place (by rw [hrs]; exact h8)).mono ?_; rw [← HP0.out]; rintro e w2 ⟨rfl, hb2⟩
  have HOM2 := Lib.hid (HOM.out.up hb2)
  have hold := hmk0.out.2 r0 hr
  rw [← HP0.out] at hold
  obtain ⟨HM3, hg3⟩ := HOM2.out.put (k := p0) (j := 0) (x := true) (u := .bool true) hold (by decide) rfl
  obtain ⟨g', e, _, _, gc, gf⟩ := HOM2.out.at_ (fact_pos n)
  injection e with e
  injection e with e
  subst e
  have c1 := gc p0 _ 0 _ hold rfl
  have f1 := gf p0
  simp only [Nat.mul_one, Nat.add_zero] at HM3 hg3 c1
  have hb3 : Below w.heap.size w (w2.setCell ⟨gm, p0, none⟩ (.bool true)) := (below_go hb1 hb2).grown hg3 (below_go hb1 hb2).size (fun k hk => by injection hk with hk; omega)
  have HM3 := Lib.hid HM3
  have HK3 := Lib.hid (show MarkR n (clAt gs r0 0) ((List.replicate (fact n) false).set p0 true) from by rw [HP0.out]; exact hmk0.out.add hr)
  have HB3 := Lib.hid hb3
  have hs2 := hb2.size
  clear hold gc gf hg3 hb3 HOM HOM2
  clear hg0s
  go_wp2_with fail
  have HO3 := Lib.hid (own_lit1_at' strE_len (w2.setCell ⟨gm, p0, none⟩ (.bool true)) 9 r0 (b := w2.heap.size) (base := w1.heap.size) (by simp) (by simpa using hs2))
  have HRS := Lib.hid hrs
  clear hrs
  go_loopw [6, 7] (fun v i wr => ∃ (k : Nat) (A' : Option Addr) (c' : Nat) (m : List Bool), k ≤ (clAt gs r0 k).length ∧ (clAt gs r0 k).length ≤ 800 ∧ i = .int .i64 k ∧ v = .slice A' (clAt gs r0 k).length c' ∧ Hid (MarkR n (clAt gs r0 k) m) ∧ Hid (Owned boolE 1 4 wr w.heap.size (some ⟨gm, 0, none⟩) (fact n) (fact n) m) ∧ Hid (Owned strE 1 9 wr w1.heap.size A' (clAt gs r0 k).length c' (clAt gs r0 k)) ∧ Below w.heap.size w wr) (fun _ i _ => fact n - (intOf i).toNat)
  case atStart => exact ⟨0, some ⟨w2.heap.size, 0, none⟩, 1, _, Nat.zero_le _, (by show 1 ≤ 800; decide), rfl, rfl, HK3, Lib.hid (HM3.out.alloc _), HO3, by have := HB3.out; (repeat' (first | (with_reducible exact Below.refl _ _) | (with_reducible assumption) | (with_reducible refine below_drewN ?_ _) | (with_reducible refine Below.drew ?_) | (with_reducible refine below_alloc ?_ _) | (with_reducible refine Below.alloc ?_ ?_ _) | (with_reducible refine Below.setCell ?_ ?_ _) | (with_reducible refine below_go ?_ (by with_reducible assumption)) | (with_reducible refine below_then (by with_reducible assumption) ?_ ?_) | go_size))⟩
  case round =>
    clear HK3 HM3 HO3 HB3
    obtain ⟨k, A1, c1, m, hk, hk8, rfl, rfl, HMK, HM, HO, hb⟩ := hrel
    rename World => w4
    have hle := HLE.out k
    have hle1 := HLE.out (k + 1)
    by_cases hlt : k < (clAt gs r0 k).length
    · obtain ⟨x, hx⟩ := some_of_lt hlt
      have HX := Lib.hid hx
      have hxN := (HOK.out k).2 x (List.mem_of_getElem? hx)
      have HNX := Lib.hid (clAt_more (gs := gs) (r := r0) hx)
      have HPO := Lib.hid (fun j => (HOK.out k).part hxN HG.out j)
      clear hx
      go_wp2
      go_loopw [6, 33] (fun v i wr => ∃ (j : Nat) (A' : Option Addr) (c' : Nat) (m : List Bool), j ≤ gs.length ∧ i = .int .i64 j ∧ v = .slice A' (clPart gs x j (clAt gs r0 k)).length c' ∧ Hid (MarkR n (clPart gs x j (clAt gs r0 k)) m) ∧ Hid (Owned boolE 1 4 wr w.heap.size (some ⟨gm, 0, none⟩) (fact n) (fact n) m) ∧ Hid (Owned strE 1 9 wr w1.heap.size A' (clPart gs x j (clAt gs r0 k)).length c' (clPart gs x j (clAt gs r0 k))) ∧ Below w.heap.size w wr) (fun _ i _ => gs.length - (intOf i).toNat)
      case atStart => exact ⟨0, A1, c1, m, Nat.zero_le _, rfl, rfl, HMK, HM, HO, hb⟩
      case round =>
        clear HMK HM HO hb
        obtain ⟨j, A1, c1, m, hj, rfl, rfl, HMK, HM, HO, hb⟩ := hrel
        rename World => w5
        have hlen := (HPO.out j).le
        have hpl := pre_len (clPart_pre gs x j (clAt gs r0 k))
        by_cases hjl : j < gs.length
        · obtain ⟨b3, o3, g, e, _, hgj, hcg0⟩ := h.at_str hjl
          injection e with e
          injection e with e1 e2
          subst e1 e2
          have hcg := (hb.cell (p := ⟨b1, o1 + j, none⟩) hbb).trans hcg0
          obtain ⟨b2, rfl, hb2lo, hb2hi, gc, _⟩ := HO.out.at_ (by omega)
          have hcx := gc k x 0 _ (pre_at (clPart_pre gs x j (clAt gs r0 k)) HX.out) rfl
          simp only [Nat.mul_one, Nat.add_zero] at hcx
          have hgN := HG.out g (List.mem_of_getElem? hgj)
          have hft := rowN_fits hxN hgN
          have hxs : x.size ≤ 16777216 := by rw [hxN.2]; omega
          have hgz : g.size ≤ 16777216 := by rw [hgN.2]; omega
          have hrN := hxN.times hgN
          have HS := Lib.hid (clPart_succ (x := x) (clAt gs r0 k) hgj)
          obtain ⟨r, hr'⟩ : ∃ r, r = timesS x g := ⟨_, rfl⟩
          have HRD := Lib.hid hr'
          rw [← hr'] at hrN
          have hrz : r.size ≤ 8 := by rw [hrN.2]; exact h8
          obtain ⟨p, hp⟩ : ∃ p, p = place r := ⟨_, rfl⟩
          have HP := Lib.hid hp
          have hpF : p < fact n := by rw [hp]; exact rowN_place hrN
          have HRN := Lib.hid hrN
          have hcm := HMK.out.at_ hrN
          rw [← hp] at hcm
          have HCM := Lib.hid hcm
          clear gc hgj hcg0 hr' hp hcm hrN
          go_wp2_with fail
          refine (spec_l1Times hxs hgz hft).mono ?_; rw [← HRD.out]; rintro e w' ⟨rfl, rfl⟩
          clear hcx hcg hft
          go_wp2_with fail
          refine (spec_l1Place hrz).mono ?_; rw [← HP.out]; rintro e w6 ⟨rfl, hb6⟩
          have hB6 := below_go hb hb6
          have HM6 := Lib.hid (HM.out.up hb6)
          have HO6 := Lib.hid (HO.out.up hb6)
          obtain ⟨g', e, _, _, gc, gf⟩ := HM6.out.at_ (fact_pos n)
          injection e with e
          injection e with e
          subst e
          have cm := gc p _ 0 _ HCM.out rfl
          simp only [Nat.mul_one, Nat.add_zero] at cm
          have hs6 := hb6.size
          clear gc gf
          rcases hin : inL (clPart gs x j (clAt gs r0 k)) r
          · rw [hin] at cm
            have e1 := Lib.hid (show clPart gs x (j + 1) (clAt gs r0 k) = (clPart gs x j (clAt gs r0 k)) ++ [r] by rw [HS.out, clAdd_new (by rw [← HRD.out]; intro q; rw [inL_iff.2 q] at hin; cases hin), ← HRD.out])
            have el : ((clPart gs x j (clAt gs r0 k)) ++ [r]).length = (clPart gs x j (clAt gs r0 k)).length + 1 := by simp
            have EL := Lib.hid el
            clear hin el
            go_wp2_with fail
            refine (spec_l1Place hrz).mono ?_; rw [← HP.out]; rintro e w7 ⟨rfl, hb7⟩
            clear cm
            have hB7 := below_go hB6 hb7
            have HM7 := Lib.hid (HM6.out.up hb7)
            have HO7 := Lib.hid (HO6.out.up hb7)
            have hs7 := hb7.size
            obtain ⟨HM8, hg8⟩ := HM7.out.put (k := p) (j := 0) (x := true) (u := .bool true) HCM.out (by decide) rfl
            obtain ⟨g', e, _, _, gc, gf⟩ := HM7.out.at_ (fact_pos n)
            injection e with e
            injection e with e
            subst e
            have c2 := gc p _ 0 _ HCM.out rfl
            have f2 := gf p
            simp only [Nat.mul_one, Nat.add_zero] at HM8 hg8 c2
            have hB8 : Below w.heap.size w (w7.setCell ⟨gm, p, none⟩ (.bool true)) := hB7.grown hg8 hB7.size (fun k hk => by injection hk with hk; omega)
            have HB8 := Lib.hid hB8
            have HO8 := Lib.hid (HO7.out.past hg8 hgh)
            have HM8 := Lib.hid HM8
            have hno : b2 ≠ gm := by omega
            clear gc gf hg8 hB8
            go_wp2_with (first | (at_builtin; go_must ((refine wpList_append_recs Try.elStr strE_one rfl (.tmp 53) (.tmp 55) rfl rfl (HO8.out.alloc _) rfl (own_lit1_at' strE_len (w7.setCell ⟨gm, p, none⟩ (.bool true)) 9 r (by simp) (Nat.le_refl _)).recs rfl ?_ (by decide) ?_ ?_; (focus (first | omega | (simp only [World.size_alloc]; done) | (simp only [World.size_alloc]; omega) | (simp; done) | (simp; omega))); (focus (first | omega | (simp only [World.size_alloc]; done) | (simp only [World.size_alloc]; omega) | (simp; done) | (simp; omega))); intro A3 c3 w9 ho9 hg9 hl9))))
            have hm9 := (HM8.out.alloc (.cells #[.string r] 9)).kept hg9 (fun k hk e => by injection hk with hk; injection e with e; dsimp only at hk e; omega)
            have hb9 : Below w.heap.size w w9 := ((HB8.out.alloc (by have := HB8.out.size; exact this) _)).trans (grown_base hg9 (by have := HB8.out.size; simp at this ⊢; omega) (fun k hk => by injection hk with hk; dsimp only at hk; have := hb1.size; omega))
            have hmk9 := HMK.out.add HRN.out
            rw [← HP.out] at hmk9
            go_roundw
            case rel => exact ⟨j + 1, A3, c3, m.set p true, by omega, by go_num, by rw [e1.out, EL.out], Lib.hid (by rw [e1.out]; exact hmk9), Lib.hid hm9, Lib.hid (by rw [e1.out, EL.out]; exact ho9), hb9⟩
            case measure => simp [intOf]; omega
          · rw [hin] at cm
            have e1 := Lib.hid (show clPart gs x (j + 1) (clAt gs r0 k) = (clPart gs x j (clAt gs r0 k)) by rw [HS.out, clAdd_in (by rw [← HRD.out]; exact inL_iff.1 hin)])
            clear hin
            go_wp2
            go_roundw
            case rel => exact ⟨j + 1, _, _, m, by omega, by go_num, by rw [e1.out], Lib.hid (by rw [e1.out]; exact HMK.out), HM6, Lib.hid (by rw [e1.out]; exact HO6.out), hB6⟩
            case measure => simp [intOf]; omega
        · obtain rfl : j = gs.length := by omega
          by_cases h8 : (clPart gs x gs.length (clAt gs r0 k)).length ≤ 800
          · have hq : ¬ (800 : Int) < ((clPart gs x gs.length (clAt gs r0 k)).length : Int) := by omega
            go_wp2
            go_roundw
            case rel => exact ⟨k + 1, A1, c1, m, by rw [HNX.out]; omega, by rw [HNX.out]; exact h8, by go_num, by rw [HNX.out], Lib.hid (by rw [HNX.out]; exact HMK.out), HM, Lib.hid (by rw [HNX.out]; exact HO.out), hb⟩
            case measure => simp [intOf]; omega
          · have hq : (800 : Int) < ((clPart gs x gs.length (clAt gs r0 k)).length : Int) := by omega
            have hno := Lib.hid (show ¬ (clF n gs).length ≤ 800 by
              have := HPRE.out (k + 1)
              rw [HNX.out] at this; omega)
            have hdec := Lib.hid (decide_eq_false hno.out)
            go_wp2
            go_ret2
            rw [hdec.out]
            exact ⟨none, 0, 0, rfl, fun q => absurd q hno.out, fun _ => ⟨rfl, rfl, rfl⟩, hb⟩
    · have hke : (clAt gs r0 k).length = k := by omega
      have e1 := Lib.hid (HEND.out k hke)
      clear hke
      have hz8 : (clAt gs r0 k).length ≤ 16777216 := by omega
      go_wp2_with fail
      refine (spec_l6Sort _ _ _ _ _ rfl HO.out.recs (by omega) (fun s hs => by rw [((HOK.out k).2 s hs).2]; omega)).mono ?_; rintro e w5 ⟨A5, c5, L, rfl, hoL, hpL, hsL, hb5⟩
      go_wp2
      go_ret2
      rw [e1.out, decide_eq_true hk8]
      exact ⟨_, _, _, rfl, fun _ => ⟨rfl, L, hoL.base_le hb.size, hpL, hsL⟩, fun q => absurd hk8 q, below_go hb hb5⟩
end Go.Proofs.Ytpccbmndgdiloaa
/- The walks through the odd changes of a list, both sides. -/
namespace Go.Proofs.Ytpccbmndgdiloaa
set_option linter.unusedVariables false
set_option linter.unusedSimpArgs false
open Go.ChangeShapes Go.WideShapes Go.ChangeAt Go.RowKit Go.Deep
theorem wrap_pred {k : Nat} (h0 : 0 < k) (h1 : k ≤ 16777216) : IntKind.i64.wrap ((k : Int) - 1) = ((k - 1 : Nat) : Int) := by
  rw [PlainAid.i64_is]; unfold wrap64; omega
set_option maxRecDepth 100000 in
theorem impl_increasing {A : Option Addr} {N c : Nat} {l : List ByteArray} {w : World} (hN : l.length = N) (h : Strs w A l) (hz : N ≤ 16777216) :
    Calls Try.prog 90 #[.slice A N c] w fun e w' => e = .returned (.bool (incB l)) ∧ Below w.heap.size w w' := by
  subst hN
  have HG : Hid (incB l = (List.range l.length).all (okInc l)) := Lib.hid rfl
  go_in
  go_wp2
  go_loopw [3] (fun i wr => ∃ k : Nat, 0 < k ∧ k ≤ l.length + 1 ∧ i = .int .i64 k ∧ Hid (∀ j, j < k → okInc l j = true) ∧ Below w.heap.size w wr) (fun i _ => l.length + 1 - (intOf i).toNat)
  case atStart => exact ⟨1, by omega, by omega, rfl, Lib.hid (fun j hj => (by have : j = 0 := (by omega); subst this; exact okInc_0 l)), Below.refl _ _⟩
  case round =>
    obtain ⟨k, hk0, hk, rfl, HK, hb⟩ := hrel
    by_cases hlt : k < l.length
    · have hr := h.below hb (Nat.le_refl _)
      obtain ⟨b1, o1, y, rfl, hbb, hy, hcy⟩ := hr.at_str hlt
      obtain ⟨b2, o2, x, e, _, hx, hcx⟩ := hr.at_str (k := k - 1) (by omega)
      injection e with e
      injection e with e1 e2
      subst e1 e2
      have E := Lib.hid (okInc_pos hk0 hx hy)
      have hwk := wrap_pred hk0 (by omega)
      have hlt1 : k - 1 < l.length := by omega
      clear h hr hx hy
      rcases hl : less x y
      · obtain ⟨h1, h2⟩ := less_no hl
        clear hl
        have e0 := Lib.hid (show okInc l k = false by rw [E.out]; exact h1)
        rcases h2 with h2 | ⟨h2, h3⟩
        all_goals
          go_wp2
          go_quiet (fail)
          go_wp2
          go_ret
          refine ⟨ret_bool ?_, by (repeat' (first | (with_reducible exact Below.refl _ _) | (with_reducible assumption) | (with_reducible refine below_drewN ?_ _) | (with_reducible refine Below.drew ?_) | (with_reducible refine below_alloc ?_ _) | (with_reducible refine Below.alloc ?_ ?_ _) | (with_reducible refine Below.setCell ?_ ?_ _) | (with_reducible refine below_go ?_ (by with_reducible assumption)) | (with_reducible refine below_then (by with_reducible assumption) ?_ ?_) | go_size))⟩
          rw [HG.out, all_no hlt e0.out]
      · obtain ⟨h1, h2, h3⟩ := less_yes hl
        have e0 := Lib.hid (show okInc l k = true by rw [E.out]; exact hl)
        clear hl
        go_wp2
        go_quiet (fail)
        go_wp2
        go_roundw
        case rel => exact ⟨k + 1, by omega, by omega, by go_num, Lib.hid (upto_succ HK.out e0.out), by (repeat' (first | (with_reducible exact Below.refl _ _) | (with_reducible assumption) | (with_reducible refine below_drewN ?_ _) | (with_reducible refine Below.drew ?_) | (with_reducible refine below_alloc ?_ _) | (with_reducible refine Below.alloc ?_ ?_ _) | (with_reducible refine Below.setCell ?_ ?_ _) | (with_reducible refine below_go ?_ (by with_reducible assumption)) | (with_reducible refine below_then (by with_reducible assumption) ?_ ?_) | go_size))⟩
        case measure => simp [intOf]; omega
    · go_wp2
      go_ret
      refine ⟨ret_bool ?_, hb⟩
      rw [HG.out, all_yes (fun j hj => HK.out j (by omega))]
set_option maxRecDepth 100000 in
theorem spec_l19With {A : Option Addr} {N c : Nat} {l : List ByteArray} {n : Int} {w : World} (hN : l.length = N) (h : Strs w A l) (hz : N ≤ 16777216) (hs : ∀ s ∈ l, s.size ≤ 16777216) (hn : I64 n) :
    Calls Try.prog 105 #[.int .i64 n, .slice A N c] w fun e w' => e = .returned (.bool (goodWith n l)) ∧ w = w' := by
  subst hN
  have HG : Hid (goodWith n l = ((List.range l.length).all (okWith n l) && inB l.length 1 30)) := Lib.hid rfl
  have HW : Hid (∀ k, okWith n l k = (okCh n l k && okInc l k)) := Lib.hid (fun _ => rfl)
  have HS := Lib.hid hs
  clear hs
  go_in
  go_wp2
  go_loopw [9] (fun i wr => ∃ k : Nat, k ≤ l.length ∧ i = .int .i64 k ∧ Hid (∀ j, j < k → okWith n l j = true) ∧ w = wr) (fun i _ => l.length - (intOf i).toNat)
  case atStart => exact ⟨0, Nat.zero_le _, rfl, Lib.hid (fun j hj => absurd hj (by omega)), rfl⟩
  case round =>
    obtain ⟨k, hk, rfl, HK, rfl⟩ := hrel
    by_cases hlt : k < l.length
    · obtain ⟨b1, o1, y, rfl, hbb, hy, hcy⟩ := h.at_str hlt
      have hys := HS.out y (List.mem_of_getElem? hy)
      have EC := Lib.hid (okCh_at (n := n) hy)
      rcases hg : goodChange n y
      · have e0 := Lib.hid (show okWith n l k = false by rw [HW.out, EC.out, hg]; rfl)
        clear hy
        go_wp2_with (first | (go_at_call 82; refine (spec_l2Change hys hn).mono ?_; rintro e w' ⟨rfl, rfl⟩))
        go_ret
        refine ⟨ret_bool ?_, rfl⟩
        rw [HG.out, all_bad hlt e0.out]
      by_cases hk0 : 0 < k
      · obtain ⟨b2, o2, x, e, _, hx, hcx⟩ := h.at_str (k := k - 1) (by omega)
        injection e with e
        injection e with e1 e2
        subst e1 e2
        have E := Lib.hid (okInc_pos hk0 hx hy)
        have hlt1 : k - 1 < l.length := by omega
        clear hx hy
        rcases hl : less x y
        · obtain ⟨h1, h2⟩ := less_no hl
          clear h2
          have e0 := Lib.hid (show okWith n l k = false by rw [HW.out, EC.out, hg, E.out, hl]; rfl)
          clear hl
          go_wp2_with (first | (go_at_call 82; refine (spec_l2Change hys hn).mono ?_; rintro e w' ⟨rfl, rfl⟩))
          go_ret
          refine ⟨ret_bool ?_, rfl⟩
          rw [HG.out, all_bad hlt e0.out]
        · obtain ⟨h1, h2, h3⟩ := less_yes hl
          have e0 := Lib.hid (show okWith n l k = true by rw [HW.out, EC.out, hg, E.out, hl]; rfl)
          clear hl
          go_wp2_with (first | (go_at_call 82; refine (spec_l2Change hys hn).mono ?_; rintro e w' ⟨rfl, rfl⟩))
          go_roundw
          case rel => exact ⟨k + 1, by omega, by go_num, Lib.hid (upto_succ HK.out e0.out), trivial⟩
          case measure => simp [intOf]; omega
      · have e0 := Lib.hid (show okWith n l k = true by rw [HW.out, EC.out, hg, okInc_z hk0]; rfl)
        have hk1 : decide ((0 : Int) < (k : Int)) = false := decide_eq_false (by omega)
        clear hy
        go_wp2_with (first | (go_at_call 82; refine (spec_l2Change hys hn).mono ?_; rintro e w' ⟨rfl, rfl⟩))
        go_roundw
        case rel => exact ⟨k + 1, by omega, by go_num, Lib.hid (upto_succ HK.out e0.out), trivial⟩
        case measure => simp [intOf]; omega
    · obtain rfl : k = l.length := by omega
      go_wp2_with (first | (go_at_call 104; refine (spec_l1In _ _ _ _).mono ?_; rintro e w' ⟨rfl, rfl⟩))
      go_ret
      refine ⟨ret_bool ?_, rfl⟩
      rw [HG.out, all_good (fun j hj => HK.out j hj)]
set_option maxRecDepth 100000 in
theorem impl_goodWith {A : Option Addr} {N c : Nat} {l : List ByteArray} {n : Int} {w : World} (hN : l.length = N) (h : Strs w A l) (hz : N ≤ 16777216) (hs : ∀ s ∈ l, s.size ≤ 16777216) :
    Calls Try.prog 101 #[.int .i64 n, .slice A N c] w fun e w' => e = .returned (.bool (goodWith n l)) ∧ Below w.heap.size w w' := by
  subst hN
  rcases h1 : inB n 3 8
  · have e0 := Lib.hid (goodWith_stage (l := l) h1)
    go_in
    go_wp2_with (first | (go_at_call 110; refine (impl_isStage _ _).mono ?_; rintro e w' ⟨rfl, rfl⟩))
    go_ret
    exact ⟨ret_bool e0.out.symm, Below.refl _ _⟩
  have HP := Lib.hid (goodWith_parts n l)
  rcases h2 : inB l.length 1 30
  · have e0 := Lib.hid (show goodWith n l = false by rw [HP.out, h2]; rfl)
    go_in
    go_wp2_with (first | (go_at_call 110; refine (impl_isStage _ _).mono ?_; rintro e w' ⟨rfl, rfl⟩) | (go_at_call 100; refine (impl_within _ _ _ _).mono ?_; rintro e w' ⟨rfl, rfl⟩))
    go_ret
    exact ⟨ret_bool e0.out.symm, Below.refl _ _⟩
  rcases h3 : incB l
  · have e0 := Lib.hid (show goodWith n l = false by rw [HP.out, h2, h3]; rfl)
    go_in
    go_wp2_with (first | (go_at_call 110; refine (impl_isStage _ _).mono ?_; rintro e w' ⟨rfl, rfl⟩) | (go_at_call 100; refine (impl_within _ _ _ _).mono ?_; rintro e w' ⟨rfl, rfl⟩) | (go_at_call 90; refine (impl_increasing rfl h hz).mono ?_; rintro e w1 ⟨rfl, hb1⟩))
    go_ret
    exact ⟨ret_bool e0.out.symm, hb1⟩
  have HG := Lib.hid (show goodWith n l = (List.range l.length).all (okCh n l) by rw [HP.out, h2, h3]; rfl)
  have HS := Lib.hid hs
  clear hs
  go_in
  go_wp2_with (first | (go_at_call 110; refine (impl_isStage _ _).mono ?_; rintro e w' ⟨rfl, rfl⟩) | (go_at_call 100; refine (impl_within _ _ _ _).mono ?_; rintro e w' ⟨rfl, rfl⟩) | (go_at_call 90; refine (impl_increasing rfl h hz).mono ?_; rintro e w1 ⟨rfl, hb1⟩))
  go_loopw [23] (fun i wr => ∃ k : Nat, k ≤ l.length ∧ i = .int .i64 k ∧ Hid (∀ j, j < k → okCh n l j = true) ∧ Below w.heap.size w wr) (fun i _ => l.length - (intOf i).toNat)
  case atStart => exact ⟨0, Nat.zero_le _, rfl, Lib.hid (fun j hj => absurd hj (by omega)), hb1⟩
  case round =>
    obtain ⟨k, hk, rfl, HK, hb⟩ := hrel
    by_cases hlt : k < l.length
    · obtain ⟨b1, o1, y, rfl, hbb, hy, hcy⟩ := (h.below hb (Nat.le_refl _)).at_str hlt
      have hys := HS.out y (List.mem_of_getElem? hy)
      have EC := Lib.hid (okCh_at (n := n) hy)
      clear hy
      rcases hg : goodChange n y
      · have e0 := Lib.hid (show okCh n l k = false by rw [EC.out, hg])
        go_wp2_with (first | (go_at_call 80; refine (impl_GoodChange hys).mono ?_; rintro e w2 ⟨rfl, hb2⟩))
        go_ret
        refine ⟨ret_bool ?_, below_go hb hb2⟩
        rw [HG.out, all_no hlt e0.out]
      · have e0 := Lib.hid (show okCh n l k = true by rw [EC.out, hg])
        go_wp2_with (first | (go_at_call 80; refine (impl_GoodChange hys).mono ?_; rintro e w2 ⟨rfl, hb2⟩))
        go_roundw
        case rel => exact ⟨k + 1, by omega, by go_num, Lib.hid (upto_succ HK.out e0.out), below_go hb hb2⟩
        case measure => simp [intOf]; omega
    · obtain rfl : k = l.length := by omega
      go_wp2
      go_ret
      refine ⟨ret_bool ?_, hb⟩
      rw [HG.out, all_yes (fun j hj => HK.out j hj)]
end Go.Proofs.Ytpccbmndgdiloaa
/- The walks through ReachBy, both sides. -/
namespace Go.Proofs.Ytpccbmndgdiloaa
set_option linter.unusedVariables false
set_option linter.unusedSimpArgs false
open Go.ChangeShapes Go.WideShapes Go.ChangeAt Go.RowKit Go.Deep
def okReach (n : Int) (l : List ByteArray) : Bool := goodWith n l && decide (n ≤ 5)
def reachN (n : Nat) (l : List ByteArray) : Nat := (clF n (l.map (chRow n))).length
def reachR (n : Int) (l : List ByteArray) : Int := if okReach n l = true then (reachN n.toNat l : Int) else 0
theorem reachR_f {n : Int} {l : List ByteArray} (h : okReach n l = false) : reachR n l = 0 := by rw [reachR, if_neg (by rw [h]; simp)]
theorem reachR_t {m : Nat} {l : List ByteArray} (h : okReach m l = true) : reachR m l = (reachN m l : Int) := by rw [reachR, if_pos h]; rfl
theorem chs_rows {n : Nat} (h3 : 3 ≤ n) (h8 : n ≤ 8) (l : List ByteArray) : ∀ g ∈ l.map (chRow n), RowN n g := by
  intro g hg
  obtain ⟨c, _, rfl⟩ := List.mem_map.1 hg
  exact ⟨good_ch ⟨h3, h8⟩ c, chRow_size n c⟩
end Go.Proofs.Ytpccbmndgdiloaa
/- Plain laws of the program's search: it finds one, or counts all. -/
namespace Go.Proofs.Ytpccbmndgdiloaa
set_option linter.unusedVariables false
set_option linter.unusedSimpArgs false
open Go.ChangeShapes Go.WideShapes Go.ChangeAt Go.RowKit Go.Deep
abbrev FateG := Option (List ByteArray) ⊕ (Nat × Nat)
def gL (rec : ByteArray → List ByteArray → List ByteArray → Nat → Nat → FateG) (n : Nat) (al full : Bool) (r : ByteArray) (V P : List ByteArray) : List ByteArray → Nat → Nat → FateG
  | [], left, k => .inr (left, k)
  | _ :: _, 0, _ => .inl none
  | c :: cs, left + 1, k =>
    if full = true ∧ decide (applyR r c = roundsS n) = true then (if al = true then gL rec n al full r V P cs left (k + 1) else .inl (some (P ++ [c])))
    else if full = true ∨ inL V (applyR r c) = true then gL rec n al full r V P cs left k
    else match rec (applyR r c) (V ++ [applyR r c]) (P ++ [c]) left k with
      | .inr lk => gL rec n al full r V P cs lk.1 lk.2
      | .inl o => .inl o
def gX (n : Nat) (W : List ByteArray) (al : Bool) : Nat → ByteArray → List ByteArray → List ByteArray → Nat → Nat → FateG
  | 0, r, V, P, left, k => gL (fun _ _ _ l k => .inr (l, k)) n al true r V P W left k
  | d + 1, r, V, P, left, k => gL (gX n W al d) n al false r V P W left k
def recG (n : Nat) (W : List ByteArray) (al : Bool) (d : Nat) : ByteArray → List ByteArray → List ByteArray → Nat → Nat → FateG := match d with | 0 => fun _ _ _ l k => .inr (l, k) | d + 1 => gX n W al d
theorem gX_recG (n : Nat) (W : List ByteArray) (al : Bool) (d : Nat) (r : ByteArray) (V P : List ByteArray) (left k : Nat) : gX n W al d r V P left k = gL (recG n W al d) n al (decide (d = 0)) r V P W left k := by
  cases d <;> rfl
section
variable {rec : ByteArray → List ByteArray → List ByteArray → Nat → Nat → FateG} {n : Nat} {al full : Bool} {r c : ByteArray} {V P cs : List ByteArray} {left k : Nat}
theorem gL_over : gL rec n al full r V P (c :: cs) 0 k = .inl none := by rw [gL]
theorem gL_hit (h : full = true) (h2 : applyR r c = roundsS n) (ha : al = false) : gL rec n al full r V P (c :: cs) (left + 1) k = .inl (some (P ++ [c])) := by
  rw [gL, if_pos ⟨h, decide_eq_true h2⟩, if_neg (by rw [ha]; simp)]
theorem gL_one (h : full = true) (h2 : applyR r c = roundsS n) (ha : al = true) : gL rec n al full r V P (c :: cs) (left + 1) k = gL rec n al full r V P cs left (k + 1) := by
  rw [gL, if_pos ⟨h, decide_eq_true h2⟩, if_pos ha]
theorem gL_skip (h : ¬ (full = true ∧ applyR r c = roundsS n)) (h2 : full = true ∨ inL V (applyR r c) = true) : gL rec n al full r V P (c :: cs) (left + 1) k = gL rec n al full r V P cs left k := by
  rw [gL, if_neg (fun q => h ⟨q.1, of_decide_eq_true q.2⟩), if_pos h2]
theorem gL_in (h : full = false) (h2 : inL V (applyR r c) = false) : gL rec n al full r V P (c :: cs) (left + 1) k = match rec (applyR r c) (V ++ [applyR r c]) (P ++ [c]) left k with
      | .inr lk => gL rec n al full r V P cs lk.1 lk.2
      | .inl o => .inl o := by
  rw [gL, if_neg (fun q => by rw [h] at q; cases q.1), if_neg (fun q => by rw [h, h2] at q; rcases q with q | q <;> cases q)]
theorem gL_in_go {lk : Nat × Nat} (h : full = false) (h2 : inL V (applyR r c) = false) (h3 : rec (applyR r c) (V ++ [applyR r c]) (P ++ [c]) left k = .inr lk) : gL rec n al full r V P (c :: cs) (left + 1) k = gL rec n al full r V P cs lk.1 lk.2 := by
  rw [gL_in h h2, h3]
theorem gL_in_end {o : Option (List ByteArray)} (h : full = false) (h2 : inL V (applyR r c) = false) (h3 : rec (applyR r c) (V ++ [applyR r c]) (P ++ [c]) left k = .inl o) : gL rec n al full r V P (c :: cs) (left + 1) k = .inl o := by
  rw [gL_in h h2, h3]
end
theorem gL_le {rec : ByteArray → List ByteArray → List ByteArray → Nat → Nat → FateG} (hr : ∀ r V P left k lk, rec r V P left k = .inr lk → lk.1 ≤ left ∧ lk.2 + lk.1 ≤ k + left) (n : Nat) (al full : Bool) (r : ByteArray) (V P : List ByteArray) : ∀ (cs : List ByteArray) (left k : Nat) (lk : Nat × Nat), gL rec n al full r V P cs left k = .inr lk → lk.1 ≤ left ∧ lk.2 + lk.1 ≤ k + left
  | [], left, k, lk, h => by rw [gL] at h; injection h with h; subst h; exact ⟨Nat.le_refl _, Nat.le_refl _⟩
  | c :: cs, 0, k, lk, h => by rw [gL] at h; cases h
  | c :: cs, left + 1, k, lk, h => by
    rw [gL] at h
    split at h
    · split at h
      · have := gL_le hr n al full r V P cs left (k + 1) lk h; omega
      · cases h
    · split at h
      · have := gL_le hr n al full r V P cs left k lk h; omega
      · rcases q : rec (applyR r c) (V ++ [applyR r c]) (P ++ [c]) left k with o | l2
        · rw [q] at h; cases h
        · rw [q] at h
          have h1 := gL_le hr n al full r V P cs l2.1 l2.2 lk h
          have h2 := hr _ _ _ _ _ _ q
          omega
theorem gX_le (n : Nat) (W : List ByteArray) (al : Bool) : ∀ (d : Nat) (r : ByteArray) (V P : List ByteArray) (left k : Nat) (lk : Nat × Nat), gX n W al d r V P left k = .inr lk → lk.1 ≤ left ∧ lk.2 + lk.1 ≤ k + left
  | 0, r, V, P, left, k, lk, h => gL_le (fun r V P left k lk h => by injection h with h; subst h; exact ⟨Nat.le_refl _, Nat.le_refl _⟩) n al true r V P W left k lk h
  | d + 1, r, V, P, left, k, lk, h => gL_le (gX_le n W al d) n al false r V P W left k lk h
/-! one way -/
def withK (k : Nat) : Fate → FateG
  | .inr l => .inr (l, k)
  | .inl o => .inl o
theorem gL_find {rg : ByteArray → List ByteArray → List ByteArray → Nat → Nat → FateG} {rs : ByteArray → List ByteArray → List ByteArray → Nat → Fate} (hr : ∀ r V P left k, rg r V P left k = withK k (rs r V P left)) (n : Nat) (full : Bool) (r : ByteArray) (V P : List ByteArray) (k : Nat) : ∀ (cs : List ByteArray) (left : Nat), gL rg n false full r V P cs left k = withK k (srchL rs n full r V P cs left)
  | [], left => by rw [gL, srchL]; rfl
  | c :: cs, 0 => by rw [gL, srchL]; rfl
  | c :: cs, left + 1 => by
    rw [gL, srchL]
    split
    · rw [if_neg (by simp)]; rfl
    · split
      · exact gL_find hr n full r V P k cs left
      · rw [hr]
        rcases rs (applyR r c) (V ++ [applyR r c]) (P ++ [c]) left with o | l
        · rfl
        · exact gL_find hr n full r V P k cs l
theorem gX_find (n : Nat) (W : List ByteArray) : ∀ (d : Nat) (r : ByteArray) (V P : List ByteArray) (left k : Nat), gX n W false d r V P left k = withK k (srch n W d r V P left)
  | 0, r, V, P, left, k => gL_find (rs := fun _ _ _ l => .inr l) (fun _ _ _ _ _ => rfl) n true r V P k W left
  | d + 1, r, V, P, left, k => gL_find (gX_find n W d) n false r V P k W left
/-! all ways -/
theorem gL_count {rg : ByteArray → List ByteArray → List ByteArray → Nat → Nat → FateG} {rc rs : ByteArray → List ByteArray → Nat} (hr : ∀ r V P left k, rs r V ≤ left → rg r V P left k = .inr (left - rs r V, k + rc r V)) (n : Nat) (full : Bool) (r : ByteArray) (V P : List ByteArray) : ∀ (cs : List ByteArray) (left k : Nat), stpL rs full r V cs ≤ left → gL rg n true full r V P cs left k = .inr (left - stpL rs full r V cs, k + cntL rc n full r V cs)
  | [], left, k, h => by rw [gL, stpL, cntL]; rfl
  | c :: cs, 0, k, h => by rw [stpL] at h; omega
  | c :: cs, left + 1, k, h => by
    rw [stpL] at h ⊢
    by_cases hf : full = true
    · subst hf
      rw [if_pos (.inl rfl)] at h ⊢
      by_cases hx : applyR r c = roundsS n
      · rw [gL_one rfl hx rfl, gL_count hr n true r V P cs left (k + 1) (by omega), cntL, if_pos rfl, if_pos (decide_eq_true hx)]
        congr 2 <;> omega
      · rw [gL_skip (fun q => hx q.2) (.inl rfl), gL_count hr n true r V P cs left k (by omega), cntL, if_pos rfl, if_neg (by rw [decide_eq_false hx]; simp)]
        congr 2 <;> omega
    · have hf2 : full = false := by cases full <;> simp_all
      subst hf2
      rcases hin : inL V (applyR r c)
      · rw [if_neg (by rw [hin]; simp)] at h
        rw [if_neg (by simp)]
        rw [gL_in_go rfl hin (hr _ _ _ left k (by omega)), gL_count hr n false r V P cs _ _ (by simp only; omega), cntL, if_neg (by simp), if_neg (by rw [hin]; simp)]
        simp only
        congr 2 <;> omega
      · rw [if_pos (.inr hin)] at h
        rw [if_pos (.inr rfl)]
        rw [gL_skip (fun q => by cases q.1) (.inr hin), gL_count hr n false r V P cs left k (by omega), cntL, if_neg (by simp), if_pos hin]
        congr 2 <;> omega
theorem gX_count (n : Nat) (W : List ByteArray) : ∀ (d : Nat) (r : ByteArray) (V P : List ByteArray) (left k : Nat), stpX W d r V ≤ left → gX n W true d r V P left k = .inr (left - stpX W d r V, k + cntX n W d r V)
  | 0, r, V, P, left, k, h => gL_count (rc := fun _ _ => 0) (rs := fun _ _ => 0) (fun _ _ _ _ _ _ => rfl) n true r V P W left k h
  | d + 1, r, V, P, left, k, h => gL_count (fun r V P left k h => gX_count n W d r V P left k h) n false r V P W left k h
end Go.Proofs.Ytpccbmndgdiloaa
/- Plain laws of extents: how few changes a stage of three has; what the outer functions give. -/
namespace Go.Proofs.Ytpccbmndgdiloaa
set_option linter.unusedVariables false
set_option linter.unusedSimpArgs false
open Go.ChangeShapes Go.WideShapes Go.ChangeAt Go.RowKit Go.Deep
theorem inc_less {l : List ByteArray} (h : incB l = true) : ∀ (d i : Nat) (x y : ByteArray), l[i]? = some x → l[i + d + 1]? = some y → less x y = true
  | 0, i, x, y, hx, hy => by
    rw [incB, List.all_eq_true] at h
    have := h (i + 1) (List.mem_range.2 (List.getElem?_eq_some_iff.1 hy).1)
    rwa [okInc_pos (by omega) (by simpa using hx) hy] at this
  | d + 1, i, x, y, hx, hy => by
    have hl := (List.getElem?_eq_some_iff.1 hy).1
    obtain ⟨z, hz⟩ := some_of_lt (l := l) (k := i + d + 1) (by omega)
    have h1 := inc_less h d i x z hx hz
    have h2 := inc_less h 0 (i + d + 1) z y hz hy
    exact less_trans h1 h2
theorem inc_nodup {l : List ByteArray} (h : incB l = true) : l.Nodup := by
  rw [List.nodup_iff_pairwise_ne, List.pairwise_iff_getElem]
  intro i j hi hj hij e
  obtain ⟨d, rfl⟩ : ∃ d, j = i + d + 1 := ⟨j - i - 1, by omega⟩
  have := inc_less h d i _ _ (List.getElem?_eq_getElem hi) (List.getElem?_eq_getElem hj)
  rw [e, less_irr] at this
  cases this
theorem change3 {c : ByteArray} (h : goodChange 3 c = true) : c ∈ [(⟨#[49]⟩ : ByteArray), ⟨#[50]⟩, ⟨#[51]⟩] := by
  have hs : sizeOk 3 c = true := by
    rcases q : sizeOk 3 c
    · rw [goodChange_size q] at h; cases h
    · rfl
  have hz := sizeOk_t hs
  have hc1 : c.size = 1 := by omega
  have hd : isDash c = false := by
    rcases q : isDash c
    · rfl
    · rw [goodChange_dash (by decide) hs q] at h; cases h
  rw [goodChange_chain (by decide) hs hd] at h
  have e1 : digs c = [dg c 0] := by rw [digs, hc1]; rfl
  have hv := chain_in 3 (digs c) 0 (by omega) (by omega) h
  rw [e1] at h hv
  have h2 := chain_len 3 [dg c 0] 0 (by omega) h
  simp only [chain, stepOk, Bool.and_eq_true] at h
  have h3 := inB_t h.1.1
  have hn : nums c = [PlainAid.bt c 0] := by rw [nums, hc1]; rfl
  have hb : PlainAid.bt c 0 = 49 ∨ PlainAid.bt c 0 = 50 ∨ PlainAid.bt c 0 = 51 := by simp only [dg] at h3; omega
  rcases hb with hb | hb | hb
  · have : c = ⟨#[49]⟩ := nums_inj (by rw [hn, hb]; decide)
    rw [this]; simp
  · have : c = ⟨#[50]⟩ := nums_inj (by rw [hn, hb]; decide)
    rw [this]; simp
  · have : c = ⟨#[51]⟩ := nums_inj (by rw [hn, hb]; decide)
    rw [this]; simp
theorem with3 {l : List ByteArray} (h : goodWith 3 l = true) : l.length ≤ 3 := by
  have h1 := (goodWith_stage_t h).2.2
  rw [goodWith_parts, Bool.and_eq_true, Bool.and_eq_true] at h
  have h2 := (inc_nodup h.1.2).length_le_of_subset (l₂ := [(⟨#[49]⟩ : ByteArray), ⟨#[50]⟩, ⟨#[51]⟩]) (fun c hc => change3 (allCh_mem h1 c hc))
  exact h2
def okCount (n : Int) (l : List ByteArray) : Bool := decide (n = 3) && goodWith n l
def countR (n : Int) (l : List ByteArray) : Int := if okCount n l = true then (cntX 3 l 5 (roundsS 3) [roundsS 3] : Int) else 0
theorem countR_f {n : Int} {l : List ByteArray} (h : okCount n l = false) : countR n l = 0 := by rw [countR, if_neg (by rw [h]; simp)]
theorem countR_t {n : Int} {l : List ByteArray} (h : okCount n l = true) : countR n l = (cntX 3 l 5 (roundsS 3) [roundsS 3] : Int) := by rw [countR, if_pos h]
theorem count_le {l : List ByteArray} (h : l.length ≤ 3) : cntX 3 l 5 (roundsS 3) [roundsS 3] ≤ 1092 ∧ stpX l 5 (roundsS 3) [roundsS 3] ≤ 1092 := by
  have h1 := cntX_le 3 l 5 (roundsS 3) [roundsS 3]
  have h2 := stpX_le l 5 (roundsS 3) [roundsS 3]
  have h3 := stB_mono h 5
  have h4 : stB 3 5 = 1092 := by decide
  omega
/-! one extent -/
def okFind (n : Int) (l : List ByteArray) (s : Int) : Bool := (inB n 3 4 && goodWith n l) && inB s 1 200000
def fateR (n : Nat) (l : List ByteArray) (s : Nat) : Fate := srch n l (fact n - 1) (roundsS n) [roundsS n] [] s
def fdL (n : Int) (l : List ByteArray) (s : Int) : List ByteArray := if okFind n l s = true then (match fateR n.toNat l s.toNat with | .inl (some q) => q | _ => []) else []
def fdC (n : Int) (l : List ByteArray) (s : Int) : Int := if okFind n l s = true then (match fateR n.toNat l s.toNat with | .inl (some _) => 1 | .inl none => 3 | .inr _ => 2) else 0
theorem fd_f {n : Int} {l : List ByteArray} {s : Int} (h : okFind n l s = false) : fdL n l s = [] ∧ fdC n l s = 0 := by
  rw [fdL, fdC, if_neg (by rw [h]; simp), if_neg (by rw [h]; simp)]; exact ⟨rfl, rfl⟩
theorem fd_hit {n s : Nat} {l q : List ByteArray} (h : okFind n l s = true) (h2 : fateR n l s = .inl (some q)) : fdL n l s = q ∧ fdC n l s = 1 := by
  rw [fdL, fdC, if_pos h, if_pos h, show ((n : Int).toNat) = n from rfl, show ((s : Int).toNat) = s from rfl, h2]; exact ⟨rfl, rfl⟩
theorem fd_over {n s : Nat} {l : List ByteArray} (h : okFind n l s = true) (h2 : fateR n l s = .inl none) : fdL n l s = [] ∧ fdC n l s = 3 := by
  rw [fdL, fdC, if_pos h, if_pos h, show ((n : Int).toNat) = n from rfl, show ((s : Int).toNat) = s from rfl, h2]; exact ⟨rfl, rfl⟩
theorem fd_go {n s k : Nat} {l : List ByteArray} (h : okFind n l s = true) (h2 : fateR n l s = .inr k) : fdL n l s = [] ∧ fdC n l s = 2 := by
  rw [fdL, fdC, if_pos h, if_pos h, show ((n : Int).toNat) = n from rfl, show ((s : Int).toNat) = s from rfl, h2]; exact ⟨rfl, rfl⟩
/-- The way found: changes from the list, at most as many as there are rows. -/
theorem srchL_way {rec : ByteArray → List ByteArray → List ByteArray → Nat → Fate} {W : List ByteArray} {n D : Nat} (hr : ∀ r V P left q, rec r V P left = .inl (some q) → (∀ c ∈ P, c ∈ W) → (∀ c ∈ q, c ∈ W) ∧ q.length ≤ P.length + D) (full : Bool) (r : ByteArray) (V P : List ByteArray) (hP : ∀ c ∈ P, c ∈ W) :
    ∀ (cs : List ByteArray) (left : Nat) (q : List ByteArray), (∀ c ∈ cs, c ∈ W) → srchL rec n full r V P cs left = .inl (some q) → (∀ c ∈ q, c ∈ W) ∧ q.length ≤ P.length + (D + 1)
  | [], left, q, hc, h => by rw [srchL] at h; cases h
  | c :: cs, 0, q, hc, h => by rw [srchL] at h; cases h
  | c :: cs, left + 1, q, hc, h => by
    have hPc : ∀ c' ∈ P ++ [c], c' ∈ W := fun c' h' => by
      rcases List.mem_append.1 h' with h' | h'
      · exact hP c' h'
      · rw [List.mem_singleton.1 h']; exact hc c (List.mem_cons_self ..)
    rw [srchL] at h
    split at h
    · injection h with h; injection h with h
      subst h
      exact ⟨hPc, by simp⟩
    · split at h
      · exact srchL_way hr full r V P hP cs left q (fun c' h' => hc c' (List.mem_cons_of_mem _ h')) h
      · rcases e : rec (applyR r c) (V ++ [applyR r c]) (P ++ [c]) left with o | l2
        · rw [e] at h
          injection h with h
          subst h
          have := hr _ _ _ _ _ e hPc
          refine ⟨this.1, ?_⟩
          have h2 := this.2
          rw [List.length_append, List.length_singleton] at h2
          omega
        · rw [e] at h
          exact srchL_way hr full r V P hP cs l2 q (fun c' h' => hc c' (List.mem_cons_of_mem _ h')) h
theorem srch_way (n : Nat) (W : List ByteArray) : ∀ (d : Nat) (r : ByteArray) (V P : List ByteArray) (left : Nat) (q : List ByteArray), srch n W d r V P left = .inl (some q) → (∀ c ∈ P, c ∈ W) → (∀ c ∈ q, c ∈ W) ∧ q.length ≤ P.length + (d + 1)
  | 0, r, V, P, left, q, h, hP => srchL_way (D := 0) (rec := fun _ _ _ l => .inr l) (fun r V P left q h _ => by cases h) true r V P hP W left q (fun c h => h) h
  | d + 1, r, V, P, left, q, h, hP => srchL_way (D := d + 1) (fun r V P left q h hP => srch_way n W d r V P left q h hP) false r V P hP W left q (fun c h => h) h
theorem fd_way {n s : Nat} {l q : List ByteArray} (h : fateR n l s = .inl (some q)) (h8 : n ≤ 4) : (∀ c ∈ q, c ∈ l) ∧ q.length ≤ 24 := by
  have h1 := srch_way n l _ _ _ _ _ _ h (fun c hc => by cases hc)
  have h2 : ∀ n, n < 5 → fact n ≤ 24 := of_decide_eq_true (by kernel_rfl)
  have h3 := h2 n (by omega)
  have h4 := fact_pos n
  simp only [List.length_nil] at h1
  exact ⟨h1.1, by omega⟩
end Go.Proofs.Ytpccbmndgdiloaa
/- Plain laws of extents that are not there: an extent needs all rows and an odd change; the count of all agrees. -/
namespace Go.Proofs.Ytpccbmndgdiloaa
set_option linter.unusedVariables false
set_option linter.unusedSimpArgs false
open Go.ChangeShapes Go.WideShapes Go.ChangeAt Go.RowKit Go.Deep
/-! what some rows generate is closed -/
theorem clAdd_mem (x g : ByteArray) (L : List ByteArray) : timesS x g ∈ clAdd x L g := by
  by_cases h : timesS x g ∈ L
  · rw [clAdd_in h]; exact h
  · rw [clAdd_new h]; simp
theorem clPart_mem {gs : List ByteArray} {x g : ByteArray} (L : List ByteArray) (hg : g ∈ gs) : timesS x g ∈ clPart gs x gs.length L := by
  obtain ⟨j, hj⟩ := List.getElem?_of_mem hg
  have hl := (List.getElem?_eq_some_iff.1 hj).1
  obtain ⟨d, e⟩ : ∃ d, gs.length = j + 1 + d := ⟨gs.length - (j + 1), by omega⟩
  have h1 := clPart_mono gs x L (j + 1) d
  rw [← e, clPart_succ L hj] at h1
  exact h1.subset (clAdd_mem x g _)
theorem clF_shut {n : Nat} {gs : List ByteArray} (h3 : 3 ≤ n) (h8 : n ≤ 8) (hg : ∀ g ∈ gs, RowN n g) {x g : ByteArray} (hx : x ∈ clF n gs) (hgg : g ∈ gs) : timesS x g ∈ clF n gs := by
  obtain ⟨k, hk⟩ := List.getElem?_of_mem hx
  have hl := (List.getElem?_eq_some_iff.1 hk).1
  have h1 : k < (clAt gs (roundsS n) k).length := by
    by_cases h : (clAt gs (roundsS n) k).length ≤ k
    · have hle := (clF_ok h3 h8 hg).le
      obtain ⟨d, e⟩ : ∃ d, fact n = k + d := ⟨fact n - k, by omega⟩
      have h2 : clF n gs = clAt gs (roundsS n) k := by rw [clF, e, clAt_stays h]
      rw [h2] at hl; omega
    · omega
  have h2 : (clAt gs (roundsS n) k)[k]? = some x := by
    obtain ⟨t, ht⟩ := clF_pre h3 h8 hg k
    rw [← ht, List.getElem?_append_left h1] at hk
    exact hk
  have h3' := clF_pre h3 h8 hg (k + 1)
  rw [clAt_more h2] at h3'
  exact h3'.subset (clPart_mem _ hgg)
theorem clF_first {n : Nat} {gs : List ByteArray} (h3 : 3 ≤ n) (h8 : n ≤ 8) (hg : ∀ g ∈ gs, RowN n g) : roundsS n ∈ clF n gs := (clF_pre h3 h8 hg 0).subset (by simp [clAt])
theorem clAt_all {Q : ByteArray → Prop} {gs : List ByteArray} {r : ByteArray} (h0 : Q r) (hs : ∀ x, Q x → ∀ g ∈ gs, Q (timesS x g)) : ∀ k, ∀ s ∈ clAt gs r k, Q s
  | 0 => fun s h => by rw [clAt, List.mem_singleton] at h; rw [h]; exact h0
  | k + 1 => by
    have ih := clAt_all h0 hs k
    rcases e : (clAt gs r k)[k]? with _ | x
    · rw [clAt_stop (List.getElem?_eq_none_iff.1 e)]; exact ih
    · rw [clAt_more e]
      have hx := ih x (List.mem_of_getElem? e)
      have key : ∀ (fs L : List ByteArray), (∀ g ∈ fs, g ∈ gs) → (∀ s ∈ L, Q s) → ∀ s ∈ fs.foldl (clAdd x) L, Q s := by
        intro fs
        induction fs with
        | nil => intro L _ hL; exact hL
        | cons g fs ihf =>
          intro L hf hL
          refine ihf _ (fun y hy => hf y (List.mem_cons_of_mem _ hy)) fun s h => ?_
          by_cases hin : timesS x g ∈ L
          · rw [clAdd_in hin] at h; exact hL s h
          · rw [clAdd_new hin] at h
            rcases List.mem_append.1 h with h | h
            · exact hL s h
            · rw [List.mem_singleton.1 h]; exact hs x hx g (hf g (List.mem_cons_self ..))
      exact key _ _ (fun g h => List.mem_of_mem_take h) ih
/-! a way found goes through all rows -/
theorem srchL_all {rec : ByteArray → List ByteArray → List ByteArray → Nat → Fate} {n : Nat} {C W : List ByteArray} {G : Prop} (hC : ∀ v ∈ C, ∀ c ∈ W, applyR v c ∈ C) {d : Nat}
    (hr : ∀ r V P left q, rec r V P left = .inl (some q) → ClOk n V → RowN n r → r ∈ C → (∀ v ∈ V, v ∈ C) → V.length + d = fact n → G)
    {r : ByteArray} {V P : List ByteArray} (hV : ClOk n V) (hrr : RowN n r) (hrC : r ∈ C) (hVC : ∀ v ∈ V, v ∈ C) (hl : V.length + (d + 1) = fact n) : ∀ (cs : List ByteArray) (left : Nat) (q : List ByteArray), (∀ c ∈ cs, c ∈ W) → srchL rec n false r V P cs left = .inl (some q) → G
  | [], left, q, hc, h => by rw [srchL] at h; cases h
  | c :: cs, 0, q, hc, h => by rw [srchL] at h; cases h
  | c :: cs, left + 1, q, hc, h => by
    have hcs : ∀ c' ∈ cs, c' ∈ W := fun c' h' => hc c' (List.mem_cons_of_mem _ h')
    have hcW := hc c (List.mem_cons_self ..)
    rcases hin : inL V (applyR r c)
    · rcases q2 : rec (applyR r c) (V ++ [applyR r c]) (P ++ [c]) left with o | l2
      · rw [srchL_in_end rfl hin q2] at h
        injection h with h
        subst h
        exact hr _ _ _ _ _ q2 (hV.snoc (hrr.apply c) hin) (hrr.apply c) (hC r hrC c hcW) (fun v hv => by
          rcases List.mem_append.1 hv with hv | hv
          · exact hVC v hv
          · rw [List.mem_singleton.1 hv]; exact hC r hrC c hcW) (by rw [List.length_append]; simp only [List.length_singleton]; omega)
      · rw [srchL_in_go rfl hin q2] at h
        exact srchL_all hC hr hV hrr hrC hVC hl cs l2 q hcs h
    · rw [srchL_skip (fun e => by cases e.1) (.inr hin)] at h
      exact srchL_all hC hr hV hrr hrC hVC hl cs left q hcs h
theorem srch_all {n : Nat} {C W : List ByteArray} (hC : ∀ v ∈ C, ∀ c ∈ W, applyR v c ∈ C) : ∀ (d : Nat) (r : ByteArray) (V P : List ByteArray) (left : Nat) (q : List ByteArray), srch n W d r V P left = .inl (some q) → ClOk n V → RowN n r → r ∈ C → (∀ v ∈ V, v ∈ C) → V.length + d = fact n → fact n ≤ C.length
  | 0, r, V, P, left, q, h, hV, hr, hrC, hVC, hl => by
    have := hV.1.length_le_of_subset hVC
    omega
  | d + 1, r, V, P, left, q, h, hV, hr, hrC, hVC, hl => by
    rw [srch] at h
    exact srchL_all hC (srch_all hC d) hV hr hrC hVC hl W left q (fun c h => h) h
/-! the count of all ways -/
theorem srchL_cnt {rs : ByteArray → List ByteArray → List ByteArray → Nat → Fate} {rc : ByteArray → List ByteArray → Nat} (hr : ∀ r V P left, (∀ q, rs r V P left = .inl (some q) → 0 < rc r V) ∧ (∀ l, rs r V P left = .inr l → rc r V = 0)) (n : Nat) (full : Bool) (r : ByteArray) (V P : List ByteArray) :
    ∀ (cs : List ByteArray) (left : Nat), (∀ q, srchL rs n full r V P cs left = .inl (some q) → 0 < cntL rc n full r V cs) ∧ (∀ l, srchL rs n full r V P cs left = .inr l → cntL rc n full r V cs = 0)
  | [], left => ⟨fun q h => (by rw [srchL] at h; cases h), fun l _ => (by rw [cntL])⟩
  | c :: cs, 0 => ⟨fun q h => (by rw [srchL] at h; cases h), fun l h => (by rw [srchL] at h; cases h)⟩
  | c :: cs, left + 1 => by
    have ih := srchL_cnt hr n full r V P cs
    by_cases hf : full = true
    · subst hf
      by_cases hx : applyR r c = roundsS n
      · rw [srchL_hit rfl hx, cntL, if_pos rfl, if_pos (decide_eq_true hx)]
        exact ⟨fun q _ => (by omega), fun l h => (by cases h)⟩
      · rw [srchL_skip (fun q => hx q.2) (.inl rfl), cntL, if_pos rfl, if_neg (by rw [decide_eq_false hx]; simp), Nat.zero_add]
        exact ih left
    · have hf2 : full = false := by cases full <;> simp_all
      subst hf2
      rcases hin : inL V (applyR r c)
      · rw [cntL, if_neg (by simp), if_neg (by rw [hin]; simp)]
        have h1 := hr (applyR r c) (V ++ [applyR r c]) (P ++ [c]) left
        rcases q2 : rs (applyR r c) (V ++ [applyR r c]) (P ++ [c]) left with o | l2
        · rw [srchL_in_end rfl hin q2]
          refine ⟨fun q h => ?_, fun l h => (by cases h)⟩
          injection h with h
          subst h
          have := h1.1 q q2
          omega
        · rw [srchL_in_go rfl hin q2]
          have h2 := h1.2 l2 q2
          rw [h2, Nat.zero_add]
          exact ih l2
      · rw [srchL_skip (fun e => by cases e.1) (.inr hin), cntL, if_neg (by simp), if_pos hin]
        exact ih left
theorem srch_cnt (n : Nat) (W : List ByteArray) : ∀ (d : Nat) (r : ByteArray) (V P : List ByteArray) (left : Nat), (∀ q, srch n W d r V P left = .inl (some q) → 0 < cntX n W d r V) ∧ (∀ l, srch n W d r V P left = .inr l → cntX n W d r V = 0)
  | 0, r, V, P, left => srchL_cnt (rs := fun _ _ _ l => .inr l) (rc := fun _ _ => 0) (fun _ _ _ _ => ⟨fun q h => (by cases h), fun l _ => rfl⟩) n true r V P W left
  | d + 1, r, V, P, left => srchL_cnt (srch_cnt n W d) n false r V P W left
/-! together -/
theorem find_t {n s : Int} {l : List ByteArray} (h : okFind n l s = true) : (3 ≤ n ∧ n ≤ 4) ∧ goodWith n l = true := by
  rw [okFind, Bool.and_eq_true, Bool.and_eq_true] at h
  exact ⟨inB_t h.1.1, h.1.2⟩
theorem found_all {n s : Nat} {l q : List ByteArray} (h3 : 3 ≤ n) (h8 : n ≤ 8) (h : fateR n l s = .inl (some q)) : fact n ≤ reachN n l := by
  have hg := chs_rows h3 h8 l
  have hr := rowN_rounds h3 h8
  refine srch_all (n := n) (W := l) (C := clF n (l.map (chRow n))) (fun v hv c hc => ?_) (fact n - 1) (roundsS n) [roundsS n] [] s q h ⟨by simp, fun s hs => by rw [List.mem_singleton.1 hs]; exact hr⟩ hr (clF_first h3 h8 hg) (fun v hv => by rw [List.mem_singleton.1 hv]; exact clF_first h3 h8 hg) (by have := fact_pos n; simp only [List.length_singleton]; omega)
  have hv2 := (clF_ok h3 h8 hg).2 v hv
  have := clF_shut h3 h8 hg hv (List.mem_map_of_mem (f := chRow n) hc)
  rw [applyR, hv2.2]
  exact this
theorem reach_le {n : Nat} {l : List ByteArray} (h3 : 3 ≤ n) (h8 : n ≤ 8) : reachN n l ≤ fact n := (clF_ok h3 h8 (chs_rows h3 h8 l)).le
theorem odds_zero {m : Nat} {l : List ByteArray} (h : odds m l l.length = 0) : ∀ c ∈ l, evenSwaps m c = true := fun c hc => by
  rw [odds, List.take_length, List.length_eq_zero_iff, List.filter_eq_nil_iff] at h
  have := h c hc
  rcases e : evenSwaps m c
  · rw [isOdd, e] at this; simp at this
  · rfl
theorem odd_row {n : Nat} (h : n = 3 ∨ n = 4) : ∃ x, RowN n x ∧ evenRow x = false := by
  rcases h with rfl | rfl
  · exact ⟨⟨#[50, 49, 51]⟩, ⟨of_decide_eq_true (by kernel_rfl), rfl⟩, of_decide_eq_true (by kernel_rfl)⟩
  · exact ⟨⟨#[50, 49, 51, 52]⟩, ⟨of_decide_eq_true (by kernel_rfl), rfl⟩, of_decide_eq_true (by kernel_rfl)⟩
theorem even_not_all {n : Nat} {l : List ByteArray} (hn : n = 3 ∨ n = 4) (h : odds n l l.length = 0) : reachN n l ≠ fact n := by
  intro e
  have h3 : 3 ≤ n := by omega
  have h8 : n ≤ 8 := by omega
  have hg := chs_rows h3 h8 l
  have hz := odds_zero h
  have hok := clF_ok h3 h8 hg
  obtain ⟨x, hx, hxe⟩ := odd_row hn
  have hin := rows_all hok.1 hok.2 (by have : (clF n (l.map (chRow n))).length = fact n := e; omega) hx
  have hr0 : ∀ n, n < 9 → evenRow (roundsS n) = true := of_decide_eq_true (by kernel_rfl)
  have hall := clAt_all (Q := fun s => RowN n s ∧ evenRow s = true) (gs := l.map (chRow n)) (r := roundsS n) ⟨rowN_rounds h3 h8, hr0 n (by omega)⟩ (fun y hy g hgm => by
    refine ⟨hy.1.times (hg g hgm), ?_⟩
    obtain ⟨c, hc, rfl⟩ := List.mem_map.1 hgm
    have h1 := sign_apply hy.1.1 c
    rw [applyR, hy.1.2] at h1
    rw [h1, hy.2, hz c hc]; rfl) (fact n) x hin
  rw [hall.2] at hxe; cases hxe
def allN (n : Int) : Int := if n = 4 then 24 else 6
theorem noext {n s : Int} {l : List ByteArray} (h : okFind n l s = true) : okReach n l = true ∧ goodWith n l = true ∧ (n = 3 ∨ n = 4) ∧ (fdC n l s = 1 → reachR n l = allN n ∧ oddsR n l ≠ 0) ∧ (oddsR n l = 0 → reachR n l ≠ allN n) ∧ (0 ≤ reachR n l ∧ reachR n l ≤ allN n) ∧
    (n = 3 → okCount n l = true ∧ 0 ≤ countR n l ∧ (fdC n l s = 1 → countR n l ≠ 0) ∧ (fdC n l s = 2 → countR n l = 0)) := by
  obtain ⟨hn, hw⟩ := find_t h
  obtain ⟨m, rfl⟩ : ∃ m : Nat, n = (m : Int) := ⟨n.toNat, by omega⟩
  have hs := h
  rw [okFind, Bool.and_eq_true] at hs
  have hs2 := inB_t hs.2
  obtain ⟨t, rfl⟩ : ∃ t : Nat, s = (t : Int) := ⟨s.toNat, by omega⟩
  have hm : m = 3 ∨ m = 4 := by omega
  have hok : okReach m l = true := by rw [okReach, hw, decide_eq_true (by omega)]; rfl
  have hf : (fact m : Int) = allN m := by rcases hm with rfl | rfl <;> rfl
  have hle := reach_le (l := l) (n := m) (by omega) (by omega)
  rw [reachR_t hok, oddsR_t hw, ← hf]
  have hne := even_not_all (l := l) hm
  have A : fdC m l t = 1 → reachN m l = fact m := fun e => by
    rcases hF : fateR m l t with o | k
    · rcases o with _ | q
      · rw [(fd_over h hF).2] at e; omega
      · have := found_all (by omega) (by omega) hF; omega
    · rw [(fd_go h hF).2] at e; omega
  refine ⟨hok, hw, by omega, fun e => ⟨by rw [A e], fun e2 => hne (by omega) (A e)⟩, fun e e2 => hne (by omega) (by omega), by omega, fun e3 => ?_⟩
  obtain rfl : m = 3 := by omega
  have hoc : okCount ((3 : Nat) : Int) l = true := by rw [okCount, hw]; rfl
  rw [countR_t hoc]
  have hc := srch_cnt 3 l 5 (roundsS 3) [roundsS 3] [] t
  have hfr : fateR 3 l t = srch 3 l 5 (roundsS 3) [roundsS 3] [] t := rfl
  refine ⟨hoc, by omega, fun e => ?_, fun e => ?_⟩
  · rcases hF : fateR 3 l t with o | k
    · rcases o with _ | q
      · rw [(fd_over h hF).2] at e; omega
      · have := hc.1 q (by rw [← hfr]; exact hF); omega
    · rw [(fd_go h hF).2] at e; omega
  · rcases hF : fateR 3 l t with o | k
    · rcases o with _ | q
      · rw [(fd_over h hF).2] at e; omega
      · rw [(fd_hit h hF).2] at e; omega
    · have := hc.2 k (by rw [← hfr]; exact hF); omega
end Go.Proofs.Ytpccbmndgdiloaa
/- Lists of rows that are groups, and their even elements, in plain Lean. -/
namespace Go.Proofs.Ytpccbmndgdiloaa
set_option linter.unusedVariables false
set_option linter.unusedSimpArgs false
open Go.ChangeShapes Go.WideShapes Go.ChangeAt Go.RowKit Go.Deep
/-! signs of products -/
theorem evB_add (a b : Nat) : evB (a + b) = (evB a == evB b) := by
  simp only [evB]
  rcases Nat.mod_two_eq_zero_or_one a with h1 | h1 <;> rcases Nat.mod_two_eq_zero_or_one b with h2 | h2
  · rw [decide_eq_true (by omega), decide_eq_true h1, decide_eq_true h2]; rfl
  · rw [decide_eq_false (by omega), decide_eq_true h1, decide_eq_false (by omega)]; rfl
  · rw [decide_eq_false (by omega), decide_eq_false (by omega), decide_eq_true h2]; rfl
  · rw [decide_eq_true (by omega), decide_eq_false (by omega), decide_eq_false (by omega)]; rfl
theorem invs_perm {f : Int → Int} {l m : List Int} (h : l.Perm m) : l.Nodup → (∀ x ∈ l, ∀ y ∈ l, f x = f y → x = y) → (evB (invs (l.map f)) == evB (invs l)) = (evB (invs (m.map f)) == evB (invs m)) := by
  induction h with
  | nil => intro _ _; rfl
  | @cons x l m h ih =>
    intro hn hf
    have i2 := ih (List.nodup_cons.1 hn).2 (fun a ha b hb => hf a (List.mem_cons_of_mem _ ha) b (List.mem_cons_of_mem _ hb))
    have c1 : cnt (f x) (l.map f) = cnt (f x) (m.map f) := (h.map f).countP_eq _
    have c2 : cnt x l = cnt x m := h.countP_eq _
    simp only [List.map_cons, invs, evB_add, c1, c2]
    revert i2
    generalize evB (invs (l.map f)) = p; generalize evB (invs l) = q; generalize evB (invs (m.map f)) = r; generalize evB (invs m) = s
    generalize evB (cnt (f x) (m.map f)) = t; generalize evB (cnt x m) = u
    revert p q r s t u
    decide
  | swap x y l =>
    intro hn hf
    have hne : y ≠ x := fun e => (List.nodup_cons.1 hn).1 (by rw [e]; exact List.mem_cons_self ..)
    have hfe : f y ≠ f x := fun e => hne (hf y (List.mem_cons_self ..) x (List.mem_cons_of_mem _ (List.mem_cons_self ..)) e)
    have e1 := invs_swap hne l []
    have e2 := invs_swap hfe (l.map f) []
    simp only [List.nil_append] at e1 e2
    rw [List.map_cons, List.map_cons, List.map_cons, List.map_cons, e1, e2]
    generalize evB (invs (f x :: f y :: l.map f)) = p; generalize evB (invs (x :: y :: l)) = q
    revert p q
    decide
  | trans h1 h2 ih1 ih2 =>
    intro hn hf
    rw [ih1 hn hf, ih2 (h1.nodup_iff.1 hn) (fun x hx y hy => hf x (h1.mem_iff.2 hx) y (h1.mem_iff.2 hy))]
theorem even_rounds : ∀ n, n < 9 → evenRow (roundsS n) = true := of_decide_eq_true (by kernel_rfl)
theorem sign_times {n : Nat} {a b : ByteArray} (ha : RowN n a) (hb : RowN n b) : evenRow (timesS a b) = (evenRow a == evenRow b) := by
  have hs := ha.st
  have hr := rowN_rounds hs.1 hs.2
  have hp := row_perm (goodRow_list hb.1) (goodRow_list hr.1) (by rw [nums_len, nums_len, hb.2, hr.2])
  have la := goodRow_list ha.1
  have lb := goodRow_list hb.1
  have hinj : ∀ x ∈ nums b, ∀ y ∈ nums b, PlainAid.bt a (x - 49).toNat = PlainAid.bt a (y - 49).toNat → x = y := fun x hx y hy e => by
    have hx1 := lb.2 x hx; have hy1 := lb.2 y hy
    rw [nums_len, hb.2] at hx1 hy1
    have p1 := nums_at (s := a) (k := (x - 49).toNat) (by rw [ha.2]; omega)
    have p2 := nums_at (s := a) (k := (y - 49).toNat) (by rw [ha.2]; omega)
    have hd := la.1
    rw [List.nodup_iff_pairwise_ne, List.pairwise_iff_getElem] at hd
    have l1 := (List.getElem?_eq_some_iff.1 p1); have l2 := (List.getElem?_eq_some_iff.1 p2)
    obtain ⟨l1, q1⟩ := l1; obtain ⟨l2, q2⟩ := l2
    rcases Nat.lt_trichotomy (x - 49).toNat (y - 49).toNat with h | h | h
    · exact absurd (by rw [q1, q2, e]) (hd _ _ l1 l2 h)
    · omega
    · exact absurd (by rw [q1, q2, e]) (hd _ _ l2 l1 h)
  have key := invs_perm (f := fun z => PlainAid.bt a (z - 49).toNat) hp lb.1 hinj
  have e1 : (nums b).map (fun z => PlainAid.bt a (z - 49).toNat) = nums (timesS a b) := (nums_times ha.1 hb.1 (by rw [ha.2, hb.2])).symm
  have e2 : (nums (roundsS n)).map (fun z => PlainAid.bt a (z - 49).toNat) = nums a := by
    have h1 := nums_times ha.1 hr.1 (by rw [ha.2, hr.2])
    have h2 := times_rounds ha.1
    rw [ha.2] at h2
    rw [h2] at h1
    exact h1.symm
  rw [e1, e2, ← even_invs, ← even_invs, ← even_invs, ← even_invs, even_rounds n (by omega)] at key
  revert key
  generalize evenRow (timesS a b) = p; generalize evenRow a = q; generalize evenRow b = r
  revert p q r
  decide
/-! groups -/
theorem len_sub : ∀ {l R : List ByteArray}, l.Nodup → (∀ x ∈ l, x ∈ R) → l.length ≤ R.length
  | [], _, _, _ => Nat.zero_le _
  | x :: t, R, hn, hs => by
    have hx := List.nodup_cons.1 hn
    have hm : x ∈ R := hs x (List.mem_cons_self ..)
    have h2 : ∀ y ∈ t, y ∈ R.filter (fun y => decide (y ≠ x)) := fun y hy => by
      have hne : y ≠ x := fun e => hx.1 (e ▸ hy)
      exact List.mem_filter.2 ⟨hs y (List.mem_cons_of_mem _ hy), decide_eq_true hne⟩
    have h3 := len_sub hx.2 h2
    have h4 : (R.filter (fun y => decide (y ≠ x))).length < R.length := List.length_filter_lt_length_iff_exists.2 ⟨x, hm, by simp⟩
    rw [List.length_cons]
    omega
theorem halves_len {α : Type} (l : List α) (p : α → Bool) : (l.filter p).length + (l.filter fun s => !p s).length = l.length := by
  induction l with
  | nil => rfl
  | cons x r ih =>
    rcases e : p x
    · rw [List.filter_cons_of_neg (by rw [e]; simp), List.filter_cons_of_pos (by rw [e]; rfl), List.length_cons, List.length_cons]; omega
    · rw [List.filter_cons_of_pos (by rw [e]), List.filter_cons_of_neg (by rw [e]; simp), List.length_cons, List.length_cons]; omega
def hd0 (l : List ByteArray) : ByteArray := l.getD 0 ByteArray.empty
def shutL (l : List ByteArray) : Bool := l.all fun a => l.all fun b => inL l (timesS a b)
/-- The list's first row is rounds, and products stay in the list. -/
def grpR (l : List ByteArray) : Bool := decide (l[0]? = some (roundsS (hd0 l).size)) && shutL l
theorem shutL_iff {l : List ByteArray} : shutL l = true ↔ ∀ a ∈ l, ∀ b ∈ l, timesS a b ∈ l := by
  rw [shutL, List.all_eq_true]
  constructor
  · intro h a ha b hb
    have := h a ha
    rw [List.all_eq_true] at this
    exact inL_iff.1 (this b hb)
  · intro h a ha
    rw [List.all_eq_true]
    exact fun b hb => inL_iff.2 (h a ha b hb)
theorem hd0_of {l : List ByteArray} {x : ByteArray} (h : l[0]? = some x) : hd0 l = x := by rw [hd0, List.getD, h]; rfl
theorem grpR_iff {n : Nat} {l : List ByteArray} (h8 : n ≤ 8) : (∃ x, l[0]? = some x ∧ x.size = n) → (grpR l = true ↔ l[0]? = some (roundsS n) ∧ ∀ a ∈ l, ∀ b ∈ l, timesS a b ∈ l) := by
  rintro ⟨x, hx, hs⟩
  rw [grpR, Bool.and_eq_true, decide_eq_true_eq, shutL_iff, hd0_of hx, hs]
theorem grp_first {l : List ByteArray} {x : ByteArray} (h : l[0]? = some x) (hn : x ≠ roundsS x.size) : grpR l = false := by
  rw [grpR, hd0_of h, h, decide_eq_false (fun e => hn (by injection e))]; rfl
theorem grp_nil : grpR [] = false := rfl
theorem grp_bad {l : List ByteArray} {a b : ByteArray} (ha : a ∈ l) (hb : b ∈ l) (h : timesS a b ∉ l) : grpR l = false := by
  have : shutL l = false := by
    rcases e : shutL l
    · rfl
    · exact absurd (shutL_iff.1 e a ha b hb) h
  rw [grpR, this, Bool.and_false]
theorem grp_good {l : List ByteArray} {x : ByteArray} (h : l[0]? = some x) (hx : x = roundsS x.size) (hs : ∀ a ∈ l, ∀ b ∈ l, timesS a b ∈ l) : grpR l = true := by
  rw [grpR, shutL_iff.2 hs, hd0_of h, h, ← hx, decide_eq_true rfl]; rfl
theorem clF_in {n : Nat} {gs l : List ByteArray} (h0 : roundsS n ∈ l) (hg : ∀ g ∈ gs, g ∈ l) (hs : ∀ a ∈ l, ∀ b ∈ l, timesS a b ∈ l) : ∀ s ∈ clF n gs, s ∈ l :=
  clAt_all (Q := fun s => s ∈ l) h0 (fun x hx g hgg => hs x hx g (hg g hgg)) _
theorem clF_mul {n : Nat} {gs : List ByteArray} (h3 : 3 ≤ n) (h8 : n ≤ 8) (hg : ∀ g ∈ gs, RowN n g) {a b : ByteArray} (ha : a ∈ clF n gs) (hb : b ∈ clF n gs) : timesS a b ∈ clF n gs := by
  have hok := clF_ok h3 h8 hg
  have hr := rowN_rounds h3 h8
  have key : ∀ s ∈ clF n gs, RowN n s ∧ ∀ a ∈ clF n gs, timesS a s ∈ clF n gs := by
    refine clAt_all (Q := fun s => RowN n s ∧ ∀ a ∈ clF n gs, timesS a s ∈ clF n gs) ⟨hr, fun a ha => ?_⟩ (fun x hx g hgg => ⟨hx.1.times (hg g hgg), fun a ha => ?_⟩) _
    · have h2 := times_rounds (hok.2 a ha).1
      rw [(hok.2 a ha).2] at h2
      rw [h2]; exact ha
    · have hA := hok.2 a ha
      rw [times_assoc hA.1 hx.1.1 (hg g hgg).1 (by rw [hA.2, hx.1.2]) (by rw [hx.1.2, (hg g hgg).2])]
      exact clF_shut h3 h8 hg (hx.2 a ha) hgg
  exact (key b hb).2 a ha
theorem grp_no {n : Nat} {l gs : List ByteArray} (h3 : 3 ≤ n) (h8 : n ≤ 8) (hl : ∀ s ∈ l, RowN n s) (hne : ∃ x, l[0]? = some x) (hsub : ∀ g ∈ gs, g ∈ l) (hf : l.length < (clF n gs).length) : grpR l = false := by
  rcases e : grpR l
  · rfl
  · exfalso
    obtain ⟨x, hx⟩ := hne
    have hg := (grpR_iff h8 ⟨x, hx, (hl x (List.mem_of_getElem? hx)).2⟩).1 e
    have h1 := len_sub (clF_ok h3 h8 (fun g h => hl g (hsub g h))).1 (clF_in (List.mem_of_getElem? hg.1) hsub hg.2)
    omega
theorem grp_end {n : Nat} {l gs group : List ByteArray} (h3 : 3 ≤ n) (h8 : n ≤ 8) (hl : ∀ s ∈ l, RowN n s) (h0 : l[0]? = some (roundsS n)) (hsub : ∀ g ∈ gs, g ∈ l) (hall : ∀ s ∈ l, s ∈ clF n gs) (hp : group.Perm (clF n gs)) (hs : Srt group) (hS : Srt l) (hn : l.Nodup) : decide (group = l) = grpR l := by
  have hgs := fun g h => hl g (hsub g h)
  have hx0 := grpR_iff h8 ⟨_, h0, rounds_size n (by omega)⟩
  rw [Bool.eq_iff_iff, decide_eq_true_eq, hx0]
  constructor
  · intro e
    refine ⟨h0, fun a ha b hb => ?_⟩
    have := hp.mem_iff.2 (clF_mul h3 h8 hgs (hall a ha) (hall b hb))
    rw [e] at this
    exact this
  · rintro ⟨_, h⟩
    have hin := clF_in (List.mem_of_getElem? h0) hsub h
    refine srt_unique hs hS (hp.trans ((List.perm_ext_iff_of_nodup (clF_ok h3 h8 hgs).1 hn).2 fun s => ⟨hin s, hall s⟩))
theorem inc_pw {l : List ByteArray} (h : incB l = true) : l.Pairwise fun a b => less a b = true := by
  rw [List.pairwise_iff_getElem]
  intro i j hi hj hij
  exact inc_less h (j - i - 1) i _ _ (List.getElem?_eq_getElem hi) (by rw [show i + (j - i - 1) + 1 = j by omega]; exact List.getElem?_eq_getElem hj)
theorem inc_of {l : List ByteArray} (h : l.Pairwise fun a b => less a b = true) : incB l = true := by
  rw [List.pairwise_iff_getElem] at h
  rw [incB, List.all_eq_true]
  intro k hk
  have hk := List.mem_range.1 hk
  by_cases h0 : 0 < k
  · rw [okInc_pos h0 (List.getElem?_eq_getElem (by omega : k - 1 < l.length)) (List.getElem?_eq_getElem hk)]
    exact h _ _ (by omega) hk (by omega)
  · exact okInc_z h0
theorem goodRows_of' {n : Nat} {l : List ByteArray} (h : ∀ x ∈ l, RowN n x) (hl : l.length ≤ 800) : goodRows l = true := by
  rw [goodRows, Bool.and_eq_true, List.all_eq_true]
  refine ⟨fun k hk => ?_, decide_eq_true hl⟩
  have hk := List.mem_range.1 hk
  obtain ⟨x, hx⟩ := some_of_lt (l := l) (k := 0) (by omega)
  obtain ⟨y, hy⟩ := some_of_lt hk
  have h1 := h x (List.mem_of_getElem? hx); have h2 := h y (List.mem_of_getElem? hy)
  rw [okRow_at hx hy, h2.1, h2.2, h1.2]
  simp
theorem rows_of {l : List ByteArray} {x : ByteArray} (h : goodRows l = true) (hx : l[0]? = some x) : (3 ≤ x.size ∧ x.size ≤ 8) ∧ ∀ s ∈ l, RowN x.size s := by
  refine ⟨goodRow_n (goodRows_mem h x (List.mem_of_getElem? hx)), fun s hs => ⟨goodRows_mem h s hs, ?_⟩⟩
  obtain ⟨k, hk⟩ := List.getElem?_of_mem hs
  exact goodRows_size h hk hx
/-! even elements -/
def evR (l : List ByteArray) : List ByteArray := if goodRows l = true then l.filter evenRow else []
theorem evR_f {l : List ByteArray} (h : goodRows l = false) : evR l = [] := by rw [evR, if_neg (by rw [h]; simp)]
theorem evR_t {l : List ByteArray} (h : goodRows l = true) : evR l = l.filter evenRow := by rw [evR, if_pos h]
theorem evens_group {l : List ByteArray} (h : goodRows l = true) (hi : incB l = true) (hg : grpR l = true) :
    ((l.filter evenRow).length = l.length ∨ 2 * (l.filter evenRow).length = l.length) ∧ goodRows (l.filter evenRow) = true ∧ incB (l.filter evenRow) = true ∧ grpR (l.filter evenRow) = true := by
  rcases h0 : l[0]? with _ | x
  · rw [grpR, h0] at hg; cases hg
  · obtain ⟨⟨h3, h8⟩, hl⟩ := rows_of h h0
    obtain ⟨hr, hm⟩ := (grpR_iff h8 ⟨x, h0, rfl⟩).1 hg
    have hnd := inc_nodup hi
    refine ⟨?_, goodRows_of' (n := x.size) (fun s hs => hl s (List.mem_filter.1 hs).1) (Nat.le_trans (List.length_filter_le ..) (goodRows_len h)), inc_of ((inc_pw hi).filter _), ?_⟩
    · have hsum := halves_len l evenRow
      rcases ho : l.filter fun s => !evenRow s with _ | ⟨o, os⟩
      · rw [ho, List.length_nil] at hsum
        exact .inl (by omega)
      · right
        have hom : o ∈ l.filter fun s => !evenRow s := by rw [ho]; exact List.mem_cons_self ..
        have hol := (List.mem_filter.1 hom).1
        have hoo : evenRow o = false := by have := (List.mem_filter.1 hom).2; simpa using this
        have nd : ∀ p : ByteArray → Bool, ((l.filter p).map fun s => timesS s o).Nodup := fun p => by
          rw [List.nodup_iff_pairwise_ne, List.pairwise_map]
          have := (hnd.filter p)
          refine (List.Pairwise.and_mem.1 this).imp ?_
          rintro a b ⟨ha, hb, hab⟩ e
          exact hab (times_cancel (hl a (List.mem_filter.1 ha).1) (hl b (List.mem_filter.1 hb).1) (hl o hol) e)
        have l1 := len_sub (R := l.filter fun s => !evenRow s) (nd evenRow) (fun s hs => by
          obtain ⟨a, ha, rfl⟩ := List.mem_map.1 hs
          obtain ⟨ha1, ha2⟩ := List.mem_filter.1 ha
          refine List.mem_filter.2 ⟨hm a ha1 o hol, ?_⟩
          rw [sign_times (hl a ha1) (hl o hol), ha2, hoo]; rfl)
        have l2 := len_sub (R := l.filter evenRow) (nd fun s => !evenRow s) (fun s hs => by
          obtain ⟨a, ha, rfl⟩ := List.mem_map.1 hs
          obtain ⟨ha1, ha2⟩ := List.mem_filter.1 ha
          have ha3 : evenRow a = false := by simpa using ha2
          refine List.mem_filter.2 ⟨hm a ha1 o hol, ?_⟩
          rw [sign_times (hl a ha1) (hl o hol), ha3, hoo]; rfl)
        rw [List.length_map] at l1 l2
        omega
    · have e0 : (l.filter evenRow)[0]? = some (roundsS x.size) := by
        rcases l with _ | ⟨y, t⟩
        · cases h0
        · simp only [List.getElem?_cons_zero] at hr
          injection hr with hr
          rw [List.filter_cons, if_pos (by rw [hr]; exact even_rounds _ (by omega)), List.getElem?_cons_zero, hr]
      refine (grpR_iff h8 ⟨_, e0, rounds_size _ (by omega)⟩).2 ⟨e0, fun a ha b hb => ?_⟩
      obtain ⟨ha1, ha2⟩ := List.mem_filter.1 ha
      obtain ⟨hb1, hb2⟩ := List.mem_filter.1 hb
      refine List.mem_filter.2 ⟨hm a ha1 b hb1, ?_⟩
      rw [sign_times (hl a ha1) (hl b hb1), ha2, hb2]; rfl
theorem signs_many (l : List ByteArray) : (signsR l).countP id = (evR l).length := by
  rcases h : goodRows l
  · rw [signsR_f h, evR_f h]; rfl
  · rw [signsR_t h, evR_t h, List.countP_map, List.countP_eq_length_filter]; rfl
end Go.Proofs.Ytpccbmndgdiloaa
/- A way that the search finds goes through all rows once, in plain Lean. -/
namespace Go.Proofs.Ytpccbmndgdiloaa
set_option linter.unusedVariables false
set_option linter.unusedSimpArgs false
open Go.ChangeShapes Go.WideShapes Go.ChangeAt Go.RowKit Go.Deep
theorem rows_snoc (a : ByteArray) (P : List ByteArray) (c : ByteArray) : rowsL a (P ++ [c]) (P.length + 1) = rowsL a P (P.length + 1) ∧ rAt a (P ++ [c]) (P.length + 1) = applyR (rAt a P P.length) c := by
  have hc : ∀ k, k ≤ P.length → rAt a (P ++ [c]) k = rAt a P k := fun k hk => rAt_congr k (fun j hj => by rw [List.getElem?_append_left (by omega)])
  refine ⟨List.map_congr_left (fun k hk => hc k (by have := List.mem_range.1 hk; omega)), ?_⟩
  rw [rAt_succ (by rw [List.getElem?_append_right (Nat.le_refl _), Nat.sub_self]; rfl), hc _ (Nat.le_refl _)]
/-- The rows seen are those of the way, and the search stands at its last row. -/
def WaySt (n : Nat) (r : ByteArray) (V P : List ByteArray) : Prop := V = rowsL (roundsS n) P (P.length + 1) ∧ r = rAt (roundsS n) P P.length ∧ ClOk n V ∧ RowN n r
theorem WaySt.len {n : Nat} {r : ByteArray} {V P : List ByteArray} (h : WaySt n r V P) : V.length = P.length + 1 := by rw [h.1, rowsL_len]
def WayEnd (n : Nat) (q : List ByteArray) : Prop := q.length = fact n ∧ ClOk n (rowsL (roundsS n) q q.length) ∧ rAt (roundsS n) q q.length = roundsS n
theorem srchL_ways {rec : ByteArray → List ByteArray → List ByteArray → Nat → Fate} {n d : Nat} (hr : ∀ r V P left q, rec r V P left = .inl (some q) → WaySt n r V P → V.length + d = fact n → WayEnd n q)
    {r : ByteArray} {V P : List ByteArray} (hw : WaySt n r V P) (hl : V.length + (d + 1) = fact n) : ∀ (cs : List ByteArray) (left : Nat) (q : List ByteArray), srchL rec n false r V P cs left = .inl (some q) → WayEnd n q
  | [], left, q, h => by rw [srchL] at h; cases h
  | c :: cs, 0, q, h => by rw [srchL] at h; cases h
  | c :: cs, left + 1, q, h => by
    rcases hin : inL V (applyR r c)
    · rcases q2 : rec (applyR r c) (V ++ [applyR r c]) (P ++ [c]) left with o | l2
      · rw [srchL_in_end rfl hin q2] at h
        injection h with h
        subst h
        obtain ⟨h1, h2, h3, h4⟩ := hw
        obtain ⟨e1, e2⟩ := rows_snoc (roundsS n) P c
        have el : (P ++ [c]).length = P.length + 1 := by simp
        refine hr _ _ _ _ _ q2 ⟨?_, ?_, h3.snoc (h4.apply c) hin, h4.apply c⟩ (by rw [List.length_append, List.length_singleton]; omega)
        · rw [el, rowsL_succ, e1, e2, ← h1, ← h2]
        · rw [el, e2, ← h2]
      · rw [srchL_in_go rfl hin q2] at h
        exact srchL_ways hr hw hl cs l2 q h
    · rw [srchL_skip (fun e => by cases e.1) (.inr hin)] at h
      exact srchL_ways hr hw hl cs left q h
theorem srchL_wayEnd {rec : ByteArray → List ByteArray → List ByteArray → Nat → Fate} {n : Nat}
    {r : ByteArray} {V P : List ByteArray} (hw : WaySt n r V P) (hl : V.length = fact n) : ∀ (cs : List ByteArray) (left : Nat) (q : List ByteArray), srchL rec n true r V P cs left = .inl (some q) → WayEnd n q
  | [], left, q, h => by rw [srchL] at h; cases h
  | c :: cs, 0, q, h => by rw [srchL] at h; cases h
  | c :: cs, left + 1, q, h => by
    by_cases he : applyR r c = roundsS n
    · rw [srchL_hit rfl he] at h
      injection h with h
      injection h with h
      have hll := hw.len
      obtain ⟨h1, h2, h3, h4⟩ := hw
      obtain ⟨e1, e2⟩ := rows_snoc (roundsS n) P c
      have el : (P ++ [c]).length = P.length + 1 := by simp
      rw [← h]
      refine ⟨by omega, ?_, ?_⟩
      · rw [el, e1, ← h1]; exact h3
      · rw [el, e2, ← h2, he]
    · rw [srchL_skip (fun e => he e.2) (.inl rfl)] at h
      exact srchL_wayEnd hw hl cs left q h
theorem srch_ways (n : Nat) (W : List ByteArray) : ∀ (d : Nat) (r : ByteArray) (V P : List ByteArray) (left : Nat) (q : List ByteArray), srch n W d r V P left = .inl (some q) → WaySt n r V P → V.length + d = fact n → WayEnd n q
  | 0, r, V, P, left, q, h, hw, hl => by
    rw [srch] at h
    exact srchL_wayEnd hw hl W left q h
  | d + 1, r, V, P, left, q, h, hw, hl => by
    rw [srch] at h
    exact srchL_ways (srch_ways n W d) hw hl W left q h
theorem fate_way {n s : Nat} {l q : List ByteArray} (h3 : 3 ≤ n) (h8 : n ≤ 8) (h : fateR n l s = .inl (some q)) : WayEnd n q := by
  have hr := rowN_rounds h3 h8
  have hf := fact_pos n
  refine srch_ways n l _ _ _ _ _ _ h ⟨rfl, rfl, ⟨by simp, fun s hs => by rw [List.mem_singleton.1 hs]; exact hr⟩, hr⟩ (by rw [List.length_singleton]; omega)
/-! every change is one of all changes -/
theorem chain_from (n : Int) : ∀ (k p : Nat) (r : List Int), n = (p : Int) + k - 1 → chain n ((p : Int) - 1) r = true → r ∈ fromK p k
  | 0, p, [], _, _ => by rw [fromK]; exact List.mem_singleton.2 rfl
  | 0, p, x :: r, hn, h => by
    simp only [chain, stepOk, Bool.and_eq_true] at h
    have := inB_t h.1.1; omega
  | 1, p, [], hn, h => by
    simp only [chain, beq_iff_eq] at h; omega
  | 1, p, x :: r, hn, h => by
    simp only [chain, stepOk, Bool.and_eq_true] at h
    have hx := inB_t h.1.1
    have e : x = (p : Int) := by omega
    rcases r with _ | ⟨y, r⟩
    · rw [e, fromK]; exact List.mem_singleton.2 rfl
    · have h2 := h.2
      simp only [chain, stepOk, Bool.and_eq_true] at h2
      have := inB_t h2.1.1; omega
  | k + 2, p, [], hn, h => by
    rw [fromK, List.mem_append]
    right
    refine chain_from n k (p + 2) [] (by omega) ?_
    simp only [chain, beq_iff_eq] at h ⊢
    omega
  | k + 2, p, x :: r, hn, h => by
    rw [fromK, List.mem_append]
    simp only [chain, stepOk, Bool.and_eq_true, Bool.not_eq_true', beq_eq_false_iff_ne] at h
    obtain ⟨⟨h1, h2⟩, h3⟩ := h
    have hx := inB_t h1
    by_cases e : x = (p : Int)
    · left
      rw [e]
      refine List.mem_map_of_mem (chain_from n (k + 1) (p + 1) r (by omega) ?_)
      rw [e] at h3
      rw [show (((p + 1 : Nat) : Int) - 1) = (p : Int) by omega]
      exact h3
    · right
      refine chain_from n k (p + 2) (x :: r) (by omega) ?_
      simp only [chain, stepOk, Bool.and_eq_true, Bool.not_eq_true', beq_eq_false_iff_ne]
      refine ⟨⟨?_, by omega⟩, h3⟩
      rw [inB, decide_eq_true_eq]
      omega
theorem digs_text (c : ByteArray) : strOfNums ((digs c).map fun x => 48 + x) = c := by
  apply nums_inj
  rw [nums_strOf]
  · rw [digs, List.map_map, nums]
    exact List.map_congr_left fun k _ => by simp only [Function.comp_apply, dg]; omega
  · intro x hx
    rw [digs, List.map_map, List.mem_map] at hx
    obtain ⟨k, _, rfl⟩ := hx
    have := PlainAid.bt_nonneg c k; have := PlainAid.bt_le c k
    simp only [Function.comp_apply, dg]; omega
theorem good_in {n : Nat} {c : ByteArray} (h : goodChange n c = true) : c ∈ chsRaw n := by
  rw [mem_chs]
  refine ⟨?_, h⟩
  have hb : inB n 3 8 = true := by
    rcases q : inB (n : Int) 3 8
    · rw [goodChange_stage q] at h; cases h
    · rfl
  have hs : sizeOk n c = true := by
    rcases q : sizeOk n c
    · rw [goodChange_size q] at h; cases h
    · rfl
  have hz := sizeOk_t hs
  rcases hd : isDash c
  · rw [goodChange_chain hb hs hd] at h
    have hm := chain_from n n 1 (digs c) (by omega) (by simpa using h)
    have hl : (digs c).length = c.size := by rw [digs, List.length_map, List.length_range]
    refine ⟨digs c, hm, ?_⟩
    rw [ofPl_pos (by omega), placesS, digs_text]
  · rw [goodChange_dash hb hs hd] at h
    refine ⟨[], chain_from n n 1 [] (by omega) ?_, ?_⟩
    · simp only [chain, evenN, beq_iff_eq] at h ⊢
      simpa using h
    · rw [ofPl_0 rfl]
      have e : c.toList = [45] := by simpa [isDash] using hd
      apply ByteArray.ext
      rw [← Array.toList_inj, ← ByteArray.toList_eq c, e]
theorem next_change {n : Nat} {r c : ByteArray} (h : RowN n r) (hc : goodChange n c = true) : btwB r (applyR r c) = true :=
  (btw_change h.1 (applyR_size r c).symm).2 ⟨c, by rw [h.2]; exact good_in hc, rfl⟩
theorem ext_found {n : Nat} {q : List ByteArray} (h3 : 3 ≤ n) (h4 : n ≤ 4) (hq : WayEnd n q) (hc : ∀ c ∈ q, goodChange n c = true) :
    okFrom n q = true ∧ fromR n q = rowsL (roundsS n) q q.length ∧ extR (rowsL (roundsS n) q q.length) = true ∧ smallR (rowsL (roundsS n) q q.length) = true := by
  obtain ⟨hl, hok, hend⟩ := hq
  have hf : fact n ≤ 24 := by
    have : n = 3 ∨ n = 4 := by omega
    rcases this with rfl | rfl <;> decide
  have hf0 := fact_pos n
  have ho : okFrom n q = true := by
    rw [okFrom, Bool.and_eq_true, Bool.and_eq_true]
    refine ⟨?_, ?_, ?_⟩
    · rw [allCh, List.all_eq_true]
      intro k hk
      obtain ⟨y, hy⟩ := some_of_lt (List.mem_range.1 hk)
      rw [okCh_at hy]
      exact hc y (List.mem_of_getElem? hy)
    · rw [inB, decide_eq_true_eq]; omega
    · rw [inB, decide_eq_true_eq]; omega
  have hz : (rowsL (roundsS n) q q.length).length = q.length := rowsL_len _ _ _
  have hat : ∀ k, k < q.length → (rowsL (roundsS n) q q.length)[k]? = some (rAt (roundsS n) q k) := fun k hk => by
    rw [rowsL, List.getElem?_map, List.getElem?_range hk]; rfl
  have hg := goodRows_of' hok.2 (by omega)
  have h0 := hat 0 (by omega)
  have hsm : smallR (rowsL (roundsS n) q q.length) = true := by
    rw [smallR, hg, Bool.true_and, Bool.and_eq_true, decide_eq_true_eq, decide_eq_true_eq, List.getD, h0]
    refine ⟨by omega, ?_⟩
    show (rAt (roundsS n) q 0).size ≤ 6
    rw [rAt_size, rounds_size n (by omega)]; omega
  refine ⟨ho, fromR_t ho, ?_, hsm⟩
  rw [extR, hsm, Bool.true_and, Bool.and_eq_true, Bool.and_eq_true]
  refine ⟨?_, ?_, ?_⟩
  · rw [nextsB, List.all_eq_true]
    intro k hk
    have hk := List.mem_range.1 hk
    rw [hz] at hk
    obtain ⟨c, hcq⟩ := some_of_lt hk
    have hrow := hok.2 _ (List.mem_of_getElem? (hat k hk))
    have hb := next_change hrow (hc c (List.mem_of_getElem? hcq))
    rw [← rAt_succ hcq] at hb
    rw [nextAt, cyc_at (hat k hk)]
    by_cases hk1 : k + 1 < q.length
    · rw [cyc_at (hat (k + 1) hk1)]; exact hb
    · have e : k + 1 = (rowsL (roundsS n) q q.length).length := by omega
      rw [e, cyc_last h0]
      rw [show k + 1 = q.length by omega, hend] at hb
      exact hb
  · rw [nodupB, decide_eq_true_iff]; exact hok.1
  · rw [beq_iff_eq, hz, List.getD, h0, hl]
    show fact n = fact (rAt (roundsS n) q 0).size
    rw [rAt_size, rounds_size n (by omega)]
theorem found_ext {n : Nat} {s : Int} {l : List ByteArray} (h : okFind n l s = true) (h1 : fdC n l s = 1) :
    (3 ≤ n ∧ n ≤ 4) ∧ (∀ c ∈ fdL n l s, c ∈ l) ∧ WayEnd n (fdL n l s) ∧ ∀ c ∈ fdL n l s, goodChange n c = true := by
  obtain ⟨hn, hw⟩ := find_t h
  have hs : 0 ≤ s := by
    rw [okFind, Bool.and_eq_true] at h
    have := inB_t h.2; omega
  obtain ⟨S, rfl⟩ := Int.eq_ofNat_of_zero_le hs
  rcases hf : fateR n l S with (_ | q) | k
  · have := (fd_over h hf).2; omega
  · have e := (fd_hit h hf).1
    rw [e]
    have hm := (fd_way hf (by omega)).1
    have ha := (goodWith_stage_t hw).2.2
    exact ⟨by omega, hm, fate_way (by omega) (by omega) hf, fun c hc => allCh_mem ha c (hm c hc)⟩
  · have := (fd_go h hf).2; omega
end Go.Proofs.Ytpccbmndgdiloaa
/- How often each row occurs, by its place, in plain Lean. -/
namespace Go.Proofs.Ytpccbmndgdiloaa
set_option linter.unusedVariables false
set_option linter.unusedSimpArgs false
open Go.ChangeShapes Go.WideShapes Go.ChangeAt Go.RowKit Go.Deep
def cntP (L : List ByteArray) (k : Nat) : Nat := (L.map place).count k
theorem cntP_snoc (L : List ByteArray) (x : ByteArray) (k : Nat) : cntP (L ++ [x]) k = cntP L k + (if place x = k then 1 else 0) := by
  rw [cntP, cntP, List.map_append, List.count_append]
  congr 1
  rw [List.map_singleton, List.count_singleton]
  simp only [beq_iff_eq]
def CntR (n : Nat) (L : List ByteArray) (m : List Int) : Prop := m.length = fact n ∧ ∀ k, k < fact n → m[k]? = some (cntP L k : Int)
theorem CntR.none (n : Nat) : CntR n [] (List.replicate (fact n) 0) :=
  ⟨by simp, fun k hk => by rw [List.getElem?_replicate, if_pos hk]; rfl⟩
theorem CntR.add {n : Nat} {L : List ByteArray} {m : List Int} {x : ByteArray} (h : CntR n L m) (hx : RowN n x) : CntR n (L ++ [x]) (m.set (place x) ((cntP L (place x) : Int) + 1)) := by
  refine ⟨by rw [List.length_set]; exact h.1, fun k hk => ?_⟩
  rw [List.getElem?_set, cntP_snoc]
  by_cases e : place x = k
  · rw [if_pos e, if_pos (by rw [h.1]; exact rowN_place hx), if_pos e, e]
    rfl
  · rw [if_neg e, h.2 k hk, if_neg e, Nat.add_zero]
theorem cntP_le (L : List ByteArray) (k : Nat) : cntP L k ≤ L.length := by
  have := List.count_le_length (a := k) (l := L.map place)
  rwa [List.length_map] at this
theorem cnt_ones {n : Nat} {L : List ByteArray} (h : ClOk n L) (hl : L.length = fact n) {k : Nat} (hk : k < fact n) : cntP L k = 1 := by
  have hn : (L.map place).Nodup := by
    rw [List.nodup_iff_pairwise_ne, List.pairwise_map]
    have := h.1
    rw [List.nodup_iff_pairwise_ne] at this
    refine (List.Pairwise.and_mem.1 this).imp ?_
    rintro a b ⟨ha, hb, hab⟩ e
    exact hab (rowN_inj (h.2 a ha) (h.2 b hb) e)
  have hm : k ∈ L.map place := all_of_len (R := List.range (fact n)) hn (fun y hy => by
    obtain ⟨s, hs, rfl⟩ := List.mem_map.1 hy
    exact List.mem_range.2 (rowN_place (h.2 s hs))) (by rw [List.length_range, List.length_map]; omega) (List.mem_range.2 hk)
  have h1 := List.nodup_iff_count.1 hn k
  have h2 := List.count_pos_iff.2 hm
  rw [cntP]; omega
theorem cnt_all {n : Nat} {L : List ByteArray} {m : List Int} (h : ClOk n L) (hl : L.length = fact n) (hm : CntR n L m) : ∀ x ∈ m, x = 1 := fun x hx => by
  obtain ⟨k, hk⟩ := List.getElem?_of_mem hx
  have hkl := (List.getElem?_eq_some_iff.1 hk).1
  rw [hm.1] at hkl
  rw [hm.2 k hkl, cnt_ones h hl hkl] at hk
  injection hk with hk
  exact hk.symm
end Go.Proofs.Ytpccbmndgdiloaa
/- The walks through the program's counts of rows: rankOf, counts, IsLevel; the laws' placeIn. -/
namespace Go.Proofs.Ytpccbmndgdiloaa
set_option linter.unusedVariables false
set_option linter.unusedSimpArgs false
open Go.ChangeShapes Go.WideShapes Go.ChangeAt Go.RowKit Go.Deep
set_option maxHeartbeats 1000000 in
set_option maxRecDepth 100000 in
theorem impl_rankOf {s : ByteArray} {w : World} (hz : s.size ≤ 8) :
    Calls Try.prog 183 #[.string s] w fun e w' => e = .returned (.int .i64 (place s)) ∧ Below w.heap.size w w' := by
  have gb := PlainAid.get_bt s
  have hpl := place_lt s
  have h40 := fact_le s.size (by omega)
  have hP : place s ≤ 40320 := by omega
  have H0 := Lib.hid (show 0 + code ((nums s).drop 0) = place s by rw [List.drop_zero, Nat.zero_add]; rfl)
  have HF := Lib.hid (fun k (hk : k ≤ 8) => fact_le k (by omega))
  clear hpl h40
  go_in
  go_wp2
  go_loopw [3, 9] (fun v i wr => ∃ i' k : Nat, i' ≤ s.size ∧ i = .int .i64 i' ∧ v = .int .i64 k ∧ k ≤ place s ∧ Hid (k + code ((nums s).drop i') = place s) ∧ Below w.heap.size w wr) (fun _ i _ => s.size - (intOf i).toNat)
  case atStart => exact ⟨0, 0, Nat.zero_le _, rfl, rfl, Nat.zero_le _, H0, Below.refl _ _⟩
  case round =>
    obtain ⟨i, k, hi, rfl, rfl, hk, HK, hbl⟩ := hrel
    by_cases hlt : i < s.size
    · have HD := Lib.hid (nums_drop hlt)
      go_wp2
      go_loopw [5, 6] (fun v x wr => ∃ j q : Nat, i + 1 ≤ j ∧ j ≤ s.size ∧ x = .int .i64 j ∧ v = .int .i64 q ∧ q ≤ j ∧ Hid (q + cnt (PlainAid.bt s i) ((nums s).drop j) = cnt (PlainAid.bt s i) ((nums s).drop (i + 1))) ∧ Below w.heap.size w wr) (fun _ x _ => s.size - (intOf x).toNat)
      case atStart => exact ⟨i + 1, 0, Nat.le_refl _, hlt, by go_num, rfl, Nat.zero_le _, Lib.hid (Nat.zero_add _), hbl⟩
      case round =>
        obtain ⟨j, q, hij, hj, rfl, rfl, hq, HQ, hb2⟩ := hrel
        by_cases hjl : j < s.size
        · have HJ := Lib.hid (nums_drop hjl)
          by_cases hc : PlainAid.bt s j < PlainAid.bt s i
          · have E := Lib.hid (show q + 1 + cnt (PlainAid.bt s i) ((nums s).drop (j + 1)) = cnt (PlainAid.bt s i) ((nums s).drop (i + 1)) by rw [← HQ.out, HJ.out, cnt_cons, if_pos hc]; omega)
            go_wp2
            go_quiet (fail)
            go_wp2
            go_roundw
            case rel => exact ⟨j + 1, q + 1, by omega, by omega, by go_num, by go_num, by omega, E, by (repeat' (first | (with_reducible exact Below.refl _ _) | (with_reducible assumption) | (with_reducible refine below_drewN ?_ _) | (with_reducible refine Below.drew ?_) | (with_reducible refine below_alloc ?_ _) | (with_reducible refine Below.alloc ?_ ?_ _) | (with_reducible refine Below.setCell ?_ ?_ _) | (with_reducible refine below_go ?_ (by with_reducible assumption)) | (with_reducible refine below_then (by with_reducible assumption) ?_ ?_) | go_size))⟩
            case measure => simp [intOf]; omega
          · have E := Lib.hid (show q + cnt (PlainAid.bt s i) ((nums s).drop (j + 1)) = cnt (PlainAid.bt s i) ((nums s).drop (i + 1)) by rw [← HQ.out, HJ.out, cnt_cons, if_neg hc]; omega)
            go_wp2
            go_quiet (fail)
            go_wp2
            go_roundw
            case rel => exact ⟨j + 1, q, by omega, by omega, by go_num, rfl, by omega, E, by (repeat' (first | (with_reducible exact Below.refl _ _) | (with_reducible assumption) | (with_reducible refine below_drewN ?_ _) | (with_reducible refine Below.drew ?_) | (with_reducible refine below_alloc ?_ _) | (with_reducible refine Below.alloc ?_ ?_ _) | (with_reducible refine Below.setCell ?_ ?_ _) | (with_reducible refine below_go ?_ (by with_reducible assumption)) | (with_reducible refine below_then (by with_reducible assumption) ?_ ?_) | go_size))⟩
            case measure => simp [intOf]; omega
        · obtain rfl : j = s.size := by omega
          have E := Lib.hid (show q = cnt (PlainAid.bt s i) ((nums s).drop (i + 1)) by
            rw [← HQ.out, List.drop_eq_nil_of_le (by rw [nums_len]; exact Nat.le_refl _)]; rfl)
          obtain ⟨F, hF⟩ : ∃ F, F = fact (s.size - 1 - i) := ⟨_, rfl⟩
          have E2 := Lib.hid (show k + q * F + code ((nums s).drop (i + 1)) = place s by
            rw [← HK.out, HD.out, code, E.out, List.length_drop, nums_len, hF, show s.size - 1 - i = s.size - (i + 1) by omega]; omega)
          have h1 : k + q * F ≤ place s := by have := E2.out; omega
          have hF4 : F ≤ 40320 := by rw [hF]; exact HF.out _ (by omega)
          have HFF := Lib.hid hF
          obtain ⟨p, hp⟩ : ∃ p, p = q * F := ⟨_, rfl⟩
          rw [← hp] at E2 h1
          have e0 : (s.size : Int) - 1 - (i : Int) = ((s.size - 1 - i : Nat) : Int) := by omega
          have e5 : IntKind.i64.wrap ((q : Int) * (F : Int)) = (p : Int) := by rw [show (q : Int) * (F : Int) = (p : Int) by rw [hp]; push_cast; rfl]; exact wrap_id (by omega)
          have e6 : (q : Int) * (F : Int) = (p : Int) := by rw [hp]; push_cast; rfl
          clear hp hF
          go_wp2_with (go_at_call 115; refine (impl_factorial (n := s.size - 1 - i) (by omega)).mono ?_; rw [← HFF.out]; rintro e w' ⟨rfl, rfl⟩)
          go_roundw
          case rel => exact ⟨i + 1, k + p, by omega, by go_num, by go_num, h1, E2, hb2⟩
          case measure => simp [intOf]; omega
    · obtain rfl : i = s.size := by omega
      have E := Lib.hid (show k = place s by
        rw [← HK.out, List.drop_eq_nil_of_le (by rw [nums_len]; exact Nat.le_refl _)]; rfl)
      go_wp2
      go_ret
      rw [E.out]
      exact ⟨rfl, hbl⟩
set_option maxHeartbeats 1000000 in
set_option maxRecDepth 100000 in
theorem impl_counts {A : Option Addr} {N c n : Nat} {l : List ByteArray} {w : World} (hN : l.length = N) (h : Strs w A l) (hz : N ≤ 800) (h0 : 0 < N) (hg : ∀ s ∈ l, RowN n s) (h6 : n ≤ 6) :
    Calls Try.prog 116 #[.slice A N c] w fun e w' => ∃ A' m, e = .returned (.slice A' (fact n) (fact n)) ∧ CntR n l m ∧ Owned intE 1 3 w' w.heap.size A' (fact n) (fact n) m ∧ Below w.heap.size w w' := by
  subst hN
  have HG := Lib.hid hg
  have hf := fact_le8 (by omega : n ≤ 8)
  obtain ⟨b0, o0, x0, rfl, _, hx0, hc0⟩ := h.at_str h0
  have hxn : x0.size = n := (hg x0 (List.mem_of_getElem? hx0)).2
  simp only [Nat.add_zero] at hc0
  have hmk := run_make_rec Try.elInt (e := intE) 0 rfl (fact n) (by omega) (by decide)
  have HO0 := Lib.hid (Owned.made intE_len w 3 (0 : Int) (fact n) (by omega) (Nat.le_refl _))
  have hb0 : Below w.heap.size w (w.alloc (.cells (madeCells (intE 0).toArray (fact n * 1)) 3)) := by (repeat' (first | (with_reducible exact Below.refl _ _) | (with_reducible assumption) | (with_reducible refine below_drewN ?_ _) | (with_reducible refine Below.drew ?_) | (with_reducible refine below_alloc ?_ _) | (with_reducible refine Below.alloc ?_ ?_ _) | (with_reducible refine Below.setCell ?_ ?_ _) | (with_reducible refine below_go ?_ (by with_reducible assumption)) | (with_reducible refine below_then (by with_reducible assumption) ?_ ?_) | go_size))
  have HN := Lib.hid (CntR.none n)
  have HPL := Lib.hid (fun s (hs : RowN n s) => rowN_place hs)
  have HCL := Lib.hid (fun (L : List ByteArray) k => cntP_le L k)
  obtain ⟨Fn, hFn⟩ : ∃ Fn, Fn = fact n := ⟨_, rfl⟩
  have HFn := Lib.hid hFn
  rw [← hFn] at hf hmk HO0 hb0 HPL
  rw [← hFn]
  clear hx0 hg hFn
  go_in
  go_wp2_with (go_at_call 115; refine (impl_factorial (n := n) (by omega)).mono ?_; rw [← HFn.out]; rintro e w' ⟨rfl, rfl⟩)
  obtain ⟨w1, hw1⟩ : ∃ u, u = w.alloc (.cells (madeCells (intE 0).toArray (Fn * 1)) 3) := ⟨_, rfl⟩
  rw [← hw1] at hb0 HO0
  simp only [Nat.mul_one] at hw1
  try rw [← hw1]
  go_loopw [14] (fun i wr => ∃ (k : Nat) (m : List Int), k ≤ l.length ∧ i = .int .i64 k ∧ Hid (CntR n (l.take k) m) ∧ Hid (Owned intE 1 3 wr w.heap.size (some ⟨w.heap.size, 0, none⟩) Fn Fn m) ∧ Below w.heap.size w wr) (fun i _ => l.length - (intOf i).toNat)
  case atStart => exact ⟨0, List.replicate Fn 0, Nat.zero_le _, rfl, Lib.hid (by rw [List.take_zero, HFn.out]; exact HN.out), HO0, hb0⟩
  case round =>
    obtain ⟨k, m, hk, rfl, HC, HO, hb⟩ := hrel
    rename World => wr
    by_cases hlt : k < l.length
    · obtain ⟨b1, o1, r, hA, _, hr, hcr⟩ := (h.below hb (Nat.le_refl _)).at_str hlt
      injection hA with hA
      injection hA with hA1 hA2
      subst hA1 hA2
      have hrn := HG.out r (List.mem_of_getElem? hr)
      have hrz : r.size ≤ 8 := by rw [hrn.2]; omega
      have hpF := HPL.out r hrn
      obtain ⟨P, hP⟩ : ∃ P, P = place r := ⟨_, rfl⟩
      rw [← hP] at hpF
      have HP := Lib.hid hP
      have hold : m[P]? = some (cntP (l.take k) P : Int) := HC.out.2 P (by rw [← HFn.out]; exact hpF)
      have hcl := HCL.out (l.take k) P
      have hck : cntP (l.take k) P ≤ 800 := by rw [List.length_take] at hcl; omega
      have HNX : Hid (CntR n (l.take (k + 1)) (m.set P ((cntP (l.take k) P : Int) + 1))) := Lib.hid (by
        rw [take_succ_some hr, hP]; exact HC.out.add hrn)
      obtain ⟨q, hq⟩ : ∃ q, q = cntP (l.take k) P := ⟨_, rfl⟩
      rw [← hq] at hold hck HNX
      clear hr hP hcl hq
      have hPI : (P : Int) < (Fn : Int) := by omega
      go_wp2_with fail
      refine (impl_rankOf hrz).mono ?_; rw [← HP.out]; rintro e w3 ⟨rfl, hb3⟩
      have HO3 := Lib.hid (HO.out.up hb3)
      have hb3' := below_go hb hb3
      obtain ⟨g, hg, _, _, gc, gf⟩ := HO3.out.at_ (by omega)
      injection hg with hg
      injection hg with hg _ _
      subst hg
      have c0 := gc P _ 0 _ hold rfl
      have z0 := gf P
      simp only [Nat.mul_one, Nat.add_zero] at c0
      have pt := HO3.out.put (k := P) (j := 0) (x := (q : Int) + 1) (u := .int .i64 ((q : Int) + 1)) hold (by decide) rfl
      simp only [Nat.mul_one, Nat.add_zero] at pt
      have HPT := Lib.hid pt
      have hs3 := hb3'.size
      clear gc gf hold pt
      go_wp2
      go_roundw
      case rel => exact ⟨k + 1, m.set P ((q : Int) + 1), by omega, by go_num, HNX, Lib.hid HPT.out.1, hb3'.grown HPT.out.2 (by omega) (fun k e => by injection e with e; omega)⟩
      case measure => simp [intOf]; omega
    · obtain rfl : k = l.length := by omega
      have HC2 : Hid (CntR n l m) := Lib.hid (by have := HC.out; rwa [List.take_length] at this)
      go_wp2
      go_ret
      exact ⟨_, m, rfl, HC2.out, HO.out, hb⟩
set_option maxRecDepth 100000 in
theorem laws_placeIn {A : Option Addr} {N c : Nat} {l : List ByteArray} {x : ByteArray} {w : World} (hN : l.length = N) (h : Strs w A l) (hz : N ≤ 16777216) (hx : x ∈ l) :
    Calls Try.prog 37 #[.slice A N c, .string x] w fun e w' => ∃ k : Nat, e = .returned (.int .i64 k) ∧ w = w' := by
  subst hN
  have HX := Lib.hid hx
  clear hx
  go_in
  go_wp2
  go_loopw [9] (fun i wr => ∃ k : Nat, k ≤ l.length ∧ i = .int .i64 k ∧ Hid (∀ j, j < k → l[j]? ≠ some x) ∧ w = wr) (fun i _ => l.length - (intOf i).toNat)
  case atStart => exact ⟨0, Nat.zero_le _, rfl, Lib.hid (fun j hj => by omega), rfl⟩
  case round =>
    obtain ⟨k, hk, rfl, HK, rfl⟩ := hrel
    by_cases hlt : k < l.length
    · obtain ⟨b, o, y, rfl, _, hy, hcy⟩ := h.at_str hlt
      by_cases he : y = x
      · have hbe : (y.toList == x.toList) = true := by rw [he]; simp
        clear hy he
        go_wp2
        go_ret
        exact ⟨k, rfl, rfl⟩
      · have hbe : (y.toList == x.toList) = false := by rw [beq_eq_false_iff_ne]; exact fun e => he (toList_inj e)
        have HK2 : Hid (∀ j, j < k + 1 → l[j]? ≠ some x) := Lib.hid (fun j hj e => by
          by_cases ej : j = k
          · rw [ej, hy] at e; injection e with e; exact he e
          · exact HK.out j (by omega) e)
        clear hy he
        go_wp2
        go_roundw
        case rel => exact ⟨k + 1, by omega, by go_num, HK2, trivial⟩
        case measure => simp [intOf]; omega
    · exfalso
      obtain ⟨j, hj⟩ := List.getElem?_of_mem HX.out
      exact HK.out j (by have := (List.getElem?_eq_some_iff.1 hj).1; omega) hj
end Go.Proofs.Ytpccbmndgdiloaa
/- The walks through good methods and good calls, both sides. -/
namespace Go.Proofs.Ytpccbmndgdiloaa
set_option linter.unusedVariables false
set_option linter.unusedSimpArgs false
open Go.ChangeShapes Go.WideShapes Go.ChangeAt Go.RowKit Go.Deep
theorem lowB_eq (s : ByteArray) (k : Nat) : lowB s k = (!decide (PlainAid.bt s k < 97) && !decide (122 < PlainAid.bt s k)) := by
  rw [lowB, inB, Bool.eq_iff_iff]
  simp
set_option maxRecDepth 100000 in
theorem impl_isWord {s : ByteArray} {w : World} (hz : s.size ≤ 16777216) :
    Calls Try.prog 209 #[.string s] w fun e w' => e = .returned (.bool (nameOk s)) ∧ w = w' := by
  have gb := PlainAid.get_bt s
  have HN : Hid (nameOk s = ((List.range s.size).all (lowB s) && inB s.size 1 10)) := Lib.hid rfl
  go_in
  go_wp2
  go_loopw [6] (fun i wr => ∃ k : Nat, k ≤ s.size ∧ i = .int .i64 k ∧ Hid (∀ j, j < k → lowB s j = true) ∧ w = wr) (fun i _ => s.size - (intOf i).toNat)
  case atStart => exact ⟨0, Nat.zero_le _, rfl, Lib.hid (fun j hj => absurd hj (by omega)), rfl⟩
  case round =>
    obtain ⟨k, hk, rfl, HK, rfl⟩ := hrel
    by_cases hlt : k < s.size
    · by_cases h1 : PlainAid.bt s k < 97
      · have e1 := Lib.hid (show nameOk s = false by rw [HN.out]; exact all_bad hlt (by rw [lowB_eq, decide_eq_true h1]; rfl) _)
        go_wp2
        go_ret
        rw [e1.out]
        exact ⟨rfl, rfl⟩
      · by_cases h2 : 122 < PlainAid.bt s k
        · have e1 := Lib.hid (show nameOk s = false by rw [HN.out]; exact all_bad hlt (by rw [lowB_eq, decide_eq_true h2, decide_eq_false h1]; rfl) _)
          go_wp2
          go_ret
          rw [e1.out]
          exact ⟨rfl, rfl⟩
        · have e1 := Lib.hid (show lowB s k = true by rw [lowB_eq, decide_eq_false h2, decide_eq_false h1]; rfl)
          go_wp2
          go_roundw
          case rel => exact ⟨k + 1, by omega, by go_num, Lib.hid (upto_succ HK.out e1.out), trivial⟩
          case measure => simp [intOf]; omega
    · obtain rfl : k = s.size := by omega
      have e1 := Lib.hid (show nameOk s = inB s.size 1 10 by rw [HN.out]; exact all_good (fun j hj => HK.out j hj) _)
      by_cases h1 : 1 ≤ s.size
      · go_wp2
        go_ret
        refine ⟨ret_bool ?_, rfl⟩
        rw [e1.out, inB]
        exact decide_eq_decide.2 (by omega)
      · have hI : ¬ (1 : Int) ≤ (s.size : Int) := by omega
        go_wp2
        go_ret
        refine ⟨ret_bool ?_, rfl⟩
        rw [e1.out, inB, decide_eq_false (by omega)]
set_option maxRecDepth 100000 in
theorem spec_l4Name {s : ByteArray} {w : World} (hz : s.size ≤ 16777216) :
    Calls Try.prog 240 #[.string s] w fun e w' => e = .returned (.bool (nameOk s)) ∧ w = w' := by
  have gb := PlainAid.get_bt s
  have HN : Hid (nameOk s = ((List.range s.size).all (lowB s) && inB s.size 1 10)) := Lib.hid rfl
  go_in
  go_wp2
  go_loopw [3] (fun i wr => ∃ k : Nat, k ≤ s.size ∧ i = .int .i64 k ∧ Hid (∀ j, j < k → lowB s j = true) ∧ w = wr) (fun i _ => s.size - (intOf i).toNat)
  case atStart => exact ⟨0, Nat.zero_le _, rfl, Lib.hid (fun j hj => absurd hj (by omega)), rfl⟩
  case round =>
    obtain ⟨k, hk, rfl, HK, rfl⟩ := hrel
    by_cases hlt : k < s.size
    · by_cases h1 : PlainAid.bt s k < 97
      · have e1 := Lib.hid (show nameOk s = false by rw [HN.out]; exact all_bad hlt (by rw [lowB_eq, decide_eq_true h1]; rfl) _)
        go_wp2
        go_ret
        rw [e1.out]
        exact ⟨rfl, rfl⟩
      · by_cases h2 : 122 < PlainAid.bt s k
        · have e1 := Lib.hid (show nameOk s = false by rw [HN.out]; exact all_bad hlt (by rw [lowB_eq, decide_eq_true h2, decide_eq_false h1]; rfl) _)
          go_wp2
          go_ret
          rw [e1.out]
          exact ⟨rfl, rfl⟩
        · have e1 := Lib.hid (show lowB s k = true by rw [lowB_eq, decide_eq_false h2, decide_eq_false h1]; rfl)
          go_wp2
          go_roundw
          case rel => exact ⟨k + 1, by omega, by go_num, Lib.hid (upto_succ HK.out e1.out), trivial⟩
          case measure => simp [intOf]; omega
    · obtain rfl : k = s.size := by omega
      have e1 := Lib.hid (show nameOk s = inB s.size 1 10 by rw [HN.out]; exact all_good (fun j hj => HK.out j hj) _)
      go_wp2_with fail
      refine (spec_l1In _ _ _ _).mono ?_; rintro e w' ⟨rfl, rfl⟩
      go_wp2
      go_ret
      exact ⟨ret_bool e1.out.symm, rfl⟩
set_option maxRecDepth 100000 in
theorem impl_areChanges {A : Option Addr} {N c : Nat} {st : Int} {l : List ByteArray} {w : World} (hN : l.length = N) (h : Strs w A l) (hz : N ≤ 1048576) (hs : ∀ s ∈ l, s.size ≤ 16777216) (hst : I64 st) :
    Calls Try.prog 210 #[.int .i64 st, .slice A N c] w fun e w' => e = .returned (.bool (inB l.length 1 40 && allCh st l)) ∧ Below w.heap.size w w' := by
  subst hN
  have HS := Lib.hid hs
  have HQ : Hid (allCh st l = (List.range l.length).all (okCh st l)) := Lib.hid rfl
  clear hs
  rcases hl : inB l.length 1 40
  · by_cases h1 : l.length < 1
    · have hI : (l.length : Int) < 1 := by omega
      go_in
      go_wp2
      go_ret
      exact ⟨rfl, Below.refl _ _⟩
    · have hI : ¬ (l.length : Int) < 1 := by omega
      have hJ : (40 : Int) < (l.length : Int) := by
        rw [inB, decide_eq_false_iff_not] at hl; omega
      go_in
      go_wp2
      go_ret
      exact ⟨rfl, Below.refl _ _⟩
  · have hb := inB_t hl
    have hI : ¬ (l.length : Int) < 1 := by omega
    have hJ : ¬ (40 : Int) < (l.length : Int) := by omega
    go_in
    go_wp2
    go_loopw [17] (fun i wr => ∃ k : Nat, k ≤ l.length ∧ i = .int .i64 k ∧ Hid (∀ j, j < k → okCh st l j = true) ∧ Below w.heap.size w wr) (fun i _ => l.length - (intOf i).toNat)
    case atStart => exact ⟨0, Nat.zero_le _, rfl, Lib.hid (fun j hj => absurd hj (by omega)), Below.refl _ _⟩
    case round =>
      obtain ⟨k, hk, rfl, HK, hb⟩ := hrel
      by_cases hlt : k < l.length
      · obtain ⟨b1, o1, y, rfl, _, hy, hcy⟩ := (h.below hb (Nat.le_refl _)).at_str hlt
        have hys := HS.out y (List.mem_of_getElem? hy)
        have E := Lib.hid (okCh_at (n := st) hy)
        clear hy h
        go_wp2_with fail
        refine (impl_GoodChange hys).mono ?_; rintro e w1 ⟨rfl, hb1⟩
        have hbt := below_go hb hb1
        rcases hg : goodChange st y
        · have e1 := Lib.hid (show allCh st l = false by rw [HQ.out]; exact all_no hlt (by rw [E.out, hg]))
          go_wp2
          go_ret
          rw [e1.out]
          exact ⟨rfl, hbt⟩
        · have e1 := Lib.hid (show okCh st l k = true by rw [E.out, hg])
          go_wp2
          go_roundw
          case rel => exact ⟨k + 1, by omega, by go_num, Lib.hid (upto_succ HK.out e1.out), hbt⟩
          case measure => simp [intOf]; omega
      · obtain rfl : k = l.length := by omega
        have e1 := Lib.hid (show allCh st l = true by rw [HQ.out]; exact all_yes (fun j hj => HK.out j hj))
        go_wp2
        go_ret
        rw [e1.out]
        exact ⟨rfl, hb⟩
theorem impl_GoodMethod {A : Option Addr} {n c : Nat} {nm : ByteArray} {st : Int} {l : List ByteArray} {w : World} (hn : l.length = n) (h : Strs w A l) (hz : n ≤ 1048576) (hs : ∀ s ∈ l, s.size ≤ 16777216) (hnm : nm.size ≤ 16777216) (hst : I64 st) :
    Calls Try.prog 160 #[.agg #[.string nm, .int .i64 st, .slice A n c]] w fun e w' => e = .returned (.bool (goodM nm st l)) ∧ Below w.heap.size w w' := by
  subst hn
  have HQ : Hid (goodM nm st l = (nameOk nm && (inB st 3 8 && (inB l.length 1 40 && allCh st l)))) := Lib.hid rfl
  have b0 : Below w.heap.size w (w.alloc (.cells ⟨[.string nm, .int .i64 st, .slice A l.length c]⟩ 26)) := by (repeat' (first | (with_reducible exact Below.refl _ _) | (with_reducible assumption) | (with_reducible refine below_drewN ?_ _) | (with_reducible refine Below.drew ?_) | (with_reducible refine below_alloc ?_ _) | (with_reducible refine Below.alloc ?_ ?_ _) | (with_reducible refine Below.setCell ?_ ?_ _) | (with_reducible refine below_go ?_ (by with_reducible assumption)) | (with_reducible refine below_then (by with_reducible assumption) ?_ ?_) | go_size))
  rcases hN : nameOk nm
  · have e1 := Lib.hid (show goodM nm st l = false by rw [HQ.out, hN]; rfl)
    go_in
    go_wp2_with fail
    refine (impl_isWord hnm).mono ?_; rw [hN]; rintro e w' ⟨rfl, rfl⟩
    go_wp2
    go_ret
    rw [e1.out]
    exact ⟨rfl, b0⟩
  · have e1 := Lib.hid (show goodM nm st l = (inB l.length 1 40 && allCh st l) by
      rw [HQ.out, hN]
      rcases hI : inB st 3 8
      · rcases hl : inB l.length 1 40
        · rfl
        · have := inB_t hl
          have : allCh st l = false := all_no (k := 0) (by omega) (by
            obtain ⟨x, hx⟩ := some_of_lt (l := l) (k := 0) (by omega)
            rw [okCh_at hx]; exact goodChange_stage hI)
          rw [this]; rfl
      · rfl)
    go_in
    go_wp2_with fail
    refine (impl_isWord hnm).mono ?_; rw [hN]; rintro e w' ⟨rfl, rfl⟩
    go_wp2_with fail
    refine (impl_areChanges rfl (h.up b0) hz hs hst).mono ?_; rintro e w1 ⟨rfl, hb1⟩
    go_wp2
    go_ret
    rw [e1.out]
    exact ⟨rfl, below_go b0 hb1⟩
theorem goodM_tail {nm : ByteArray} {st : Int} {l : List ByteArray} (ha : allCh st l = true) : goodM nm st l = (nameOk nm && (inB st 3 8 && inB l.length 1 40)) := by
  rw [goodM, ha, Bool.and_true]
theorem goodM_bad {nm : ByteArray} {st : Int} {l : List ByteArray} (ha : allCh st l = false) : goodM nm st l = false := by
  rw [goodM, ha, Bool.and_false, Bool.and_false, Bool.and_false]
set_option maxHeartbeats 1000000 in
set_option maxRecDepth 100000 in
theorem spec_l4Good {A : Option Addr} {n c : Nat} {nm : ByteArray} {st : Int} {l : List ByteArray} {w : World} (hn : l.length = n) (h : Strs w A l) (hz : n ≤ 1048576) (hs : ∀ s ∈ l, s.size ≤ 16777216) (hnm : nm.size ≤ 16777216) (hst : I64 st) :
    Calls Try.prog 231 #[.agg #[.string nm, .int .i64 st, .slice A n c]] w fun e w' => e = .returned (.bool (goodM nm st l)) ∧ Below w.heap.size w w' := by
  subst hn
  have HS := Lib.hid hs
  have HQ : Hid (allCh st l = (List.range l.length).all (okCh st l)) := Lib.hid rfl
  have b0 : Below w.heap.size w (w.alloc (.cells ⟨[.string nm, .int .i64 st, .slice A l.length c]⟩ 26)) := by (repeat' (first | (with_reducible exact Below.refl _ _) | (with_reducible assumption) | (with_reducible refine below_drewN ?_ _) | (with_reducible refine Below.drew ?_) | (with_reducible refine below_alloc ?_ _) | (with_reducible refine Below.alloc ?_ ?_ _) | (with_reducible refine Below.setCell ?_ ?_ _) | (with_reducible refine below_go ?_ (by with_reducible assumption)) | (with_reducible refine below_then (by with_reducible assumption) ?_ ?_) | go_size))
  have K0 := Blk.at_ w 26 [.string nm, .int .i64 st, .slice A l.length c] (b := w.heap.size) rfl
  have h := h.up b0
  clear hs
  go_in
  go_wp2
  obtain ⟨w0, hw0⟩ : ∃ u, u = (w.alloc (.cells #[.string nm, .int .i64 st, .slice A l.length c] 26)) := ⟨_, rfl⟩
  rw [← hw0] at b0 K0 h ⊢
  clear hw0
  have k0 := K0.cell 0; have k1 := K0.cell 1; have k2 := K0.cell 2
  simp only [List.getElem?_cons_zero, List.getElem?_cons_succ] at k0 k1 k2
  go_loopw [8] (fun i wr => ∃ k : Nat, k ≤ l.length ∧ i = .int .i64 k ∧ Hid (∀ j, j < k → okCh st l j = true) ∧ w0 = wr) (fun i _ => l.length - (intOf i).toNat)
  case atStart => exact ⟨0, Nat.zero_le _, rfl, Lib.hid (fun j hj => absurd hj (by omega)), rfl⟩
  case round =>
    obtain ⟨k, hk, rfl, HK, rfl⟩ := hrel
    by_cases hlt : k < l.length
    · obtain ⟨b1, o1, y, rfl, _, hy, hcy⟩ := h.at_str hlt
      have hys := HS.out y (List.mem_of_getElem? hy)
      have E := Lib.hid (okCh_at (n := st) hy)
      clear hy h
      go_wp2_with fail
      refine (spec_l2Change hys hst).mono ?_; rintro e w' ⟨rfl, rfl⟩
      rcases hg : goodChange st y
      · have e1 := Lib.hid (show goodM nm st l = false from goodM_bad (by rw [HQ.out]; exact all_no hlt (by rw [E.out, hg])))
        go_wp2
        go_ret
        rw [e1.out]
        exact ⟨rfl, b0⟩
      · have e1 := Lib.hid (show okCh st l k = true by rw [E.out, hg])
        go_wp2
        go_roundw
        case rel => exact ⟨k + 1, by omega, by go_num, Lib.hid (upto_succ HK.out e1.out), trivial⟩
        case measure => simp [intOf]; omega
    · obtain rfl : k = l.length := by omega
      have e1 := Lib.hid (show goodM nm st l = (nameOk nm && (inB st 3 8 && inB l.length 1 40)) from goodM_tail (by rw [HQ.out]; exact all_yes (fun j hj => HK.out j hj)))
      go_wp2_with fail
      refine (spec_l4Name hnm).mono ?_; rintro e w' ⟨rfl, rfl⟩
      rcases h1 : nameOk nm
      · have e2 := Lib.hid (show goodM nm st l = false by rw [e1.out, h1]; rfl)
        go_wp2
        go_ret
        rw [e2.out]
        exact ⟨rfl, b0⟩
      · go_wp2_with fail
        refine (spec_l1In _ _ _ _).mono ?_; rintro e w' ⟨rfl, rfl⟩
        rcases h2 : inB st 3 8
        · have e2 := Lib.hid (show goodM nm st l = false by rw [e1.out, h1, h2]; rfl)
          go_wp2
          go_ret
          rw [e2.out]
          exact ⟨rfl, b0⟩
        · have e2 := Lib.hid (show goodM nm st l = inB l.length 1 40 by rw [e1.out, h1, h2]; rfl)
          go_wp2_with fail
          refine (spec_l1In _ _ _ _).mono ?_; rintro e w' ⟨rfl, rfl⟩
          go_wp2
          go_ret
          rw [e2.out]
          exact ⟨rfl, b0⟩
set_option maxHeartbeats 1000000 in
theorem impl_GoodCalls {A : Option Addr} {n c : Nat} {nm : ByteArray} {st : Int} {l : List ByteArray} {kb ks : ByteArray} {w : World} (hn : l.length = n) (h : Strs w A l) (hz : n ≤ 1048576) (hs : ∀ s ∈ l, s.size ≤ 16777216) (hnm : nm.size ≤ 16777216) (hst : I64 st) (hkb : kb.size ≤ 16777216) (hks : ks.size ≤ 16777216) :
    Calls Try.prog 76 #[.agg #[.string nm, .int .i64 st, .slice A n c], .agg #[.string kb, .string ks]] w fun e w' => e = .returned (.bool (goodK nm st l kb ks)) ∧ Below w.heap.size w w' := by
  have HQ : Hid (goodK nm st l kb ks = (goodM nm st l && (goodChange st kb && goodChange st ks))) := Lib.hid rfl
  have b0 : Below w.heap.size w ((w.alloc (.cells ⟨[.string nm, .int .i64 st, .slice A n c]⟩ 26)).alloc (.cells ⟨[.string kb, .string ks]⟩ 28)) := by (repeat' (first | (with_reducible exact Below.refl _ _) | (with_reducible assumption) | (with_reducible refine below_drewN ?_ _) | (with_reducible refine Below.drew ?_) | (with_reducible refine below_alloc ?_ _) | (with_reducible refine Below.alloc ?_ ?_ _) | (with_reducible refine Below.setCell ?_ ?_ _) | (with_reducible refine below_go ?_ (by with_reducible assumption)) | (with_reducible refine below_then (by with_reducible assumption) ?_ ?_) | go_size))
  have K0 := (Blk.at_ w 26 [.string nm, .int .i64 st, .slice A n c] (b := w.heap.size) rfl).alloc (.cells ⟨[.string kb, .string ks]⟩ 28)
  have K1 := Blk.at_ (w.alloc (.cells ⟨[.string nm, .int .i64 st, .slice A n c]⟩ 26)) 28 [.string kb, .string ks] (b := w.heap.size + 1) (by simp)
  go_in
  go_wp2_with fail
  obtain ⟨w0, hw0⟩ : ∃ u, u = ((w.alloc (.cells #[.string nm, .int .i64 st, .slice A n c] 26)).alloc (.cells #[.string kb, .string ks] 28)) := ⟨_, rfl⟩
  rw [← hw0] at b0 K0 K1 ⊢
  clear hw0
  refine (impl_GoodMethod hn (h.up b0) hz hs hnm hst).mono ?_; rintro e w1 ⟨rfl, hb1⟩
  have hB1 := below_go b0 hb1
  rcases h1 : goodM nm st l
  · have e1 := Lib.hid (show goodK nm st l kb ks = false by rw [HQ.out, h1]; rfl)
    go_wp2
    go_ret
    rw [e1.out]
    exact ⟨rfl, hB1⟩
  have K0 := K0.up hb1; have K1 := K1.up hb1
  have k1 := K0.cell 1; have q0 := K1.cell 0
  simp only [List.getElem?_cons_zero, List.getElem?_cons_succ] at k1 q0
  go_wp2_with fail
  refine (impl_GoodChange hkb).mono ?_; rintro e w2 ⟨rfl, hb2⟩
  have hB2 := below_go hB1 hb2
  rcases h2 : goodChange st kb
  · have e1 := Lib.hid (show goodK nm st l kb ks = false by rw [HQ.out, h1, h2]; rfl)
    go_wp2
    go_ret
    rw [e1.out]
    exact ⟨rfl, hB2⟩
  have K0 := K0.up hb2; have K1 := K1.up hb2
  have k2 := K0.cell 1; have q1 := K1.cell 1
  simp only [List.getElem?_cons_zero, List.getElem?_cons_succ] at k2 q1
  clear k1 q0
  go_wp2_with fail
  refine (impl_GoodChange hks).mono ?_; rintro e w3 ⟨rfl, hb3⟩
  have e1 := Lib.hid (show goodK nm st l kb ks = goodChange st ks by rw [HQ.out, h1, h2]; rfl)
  go_wp2
  go_ret
  rw [e1.out]
  exact ⟨rfl, below_go hB2 hb3⟩
set_option maxHeartbeats 1000000 in
theorem spec_l8Good {A : Option Addr} {n c : Nat} {nm : ByteArray} {st : Int} {l : List ByteArray} {kb ks : ByteArray} {w : World} (hn : l.length = n) (h : Strs w A l) (hz : n ≤ 1048576) (hs : ∀ s ∈ l, s.size ≤ 16777216) (hnm : nm.size ≤ 16777216) (hst : I64 st) (hkb : kb.size ≤ 16777216) (hks : ks.size ≤ 16777216) :
    Calls Try.prog 205 #[.agg #[.string nm, .int .i64 st, .slice A n c], .agg #[.string kb, .string ks]] w fun e w' => e = .returned (.bool (goodK nm st l kb ks)) ∧ Below w.heap.size w w' := by
  have HQ : Hid (goodK nm st l kb ks = (goodM nm st l && (goodChange st kb && goodChange st ks))) := Lib.hid rfl
  have b0 : Below w.heap.size w ((w.alloc (.cells ⟨[.string nm, .int .i64 st, .slice A n c]⟩ 26)).alloc (.cells ⟨[.string kb, .string ks]⟩ 28)) := by (repeat' (first | (with_reducible exact Below.refl _ _) | (with_reducible assumption) | (with_reducible refine below_drewN ?_ _) | (with_reducible refine Below.drew ?_) | (with_reducible refine below_alloc ?_ _) | (with_reducible refine Below.alloc ?_ ?_ _) | (with_reducible refine Below.setCell ?_ ?_ _) | (with_reducible refine below_go ?_ (by with_reducible assumption)) | (with_reducible refine below_then (by with_reducible assumption) ?_ ?_) | go_size))
  have K0 := (Blk.at_ w 26 [.string nm, .int .i64 st, .slice A n c] (b := w.heap.size) rfl).alloc (.cells ⟨[.string kb, .string ks]⟩ 28)
  have K1 := Blk.at_ (w.alloc (.cells ⟨[.string nm, .int .i64 st, .slice A n c]⟩ 26)) 28 [.string kb, .string ks] (b := w.heap.size + 1) (by simp)
  go_in
  go_wp2_with fail
  obtain ⟨w0, hw0⟩ : ∃ u, u = ((w.alloc (.cells #[.string nm, .int .i64 st, .slice A n c] 26)).alloc (.cells #[.string kb, .string ks] 28)) := ⟨_, rfl⟩
  rw [← hw0] at b0 K0 K1 ⊢
  clear hw0
  refine (spec_l4Good hn (h.up b0) hz hs hnm hst).mono ?_; rintro e w1 ⟨rfl, hb1⟩
  have hB1 := below_go b0 hb1
  rcases h1 : goodM nm st l
  · have e1 := Lib.hid (show goodK nm st l kb ks = false by rw [HQ.out, h1]; rfl)
    go_wp2
    go_ret
    rw [e1.out]
    exact ⟨rfl, hB1⟩
  have K0 := K0.up hb1; have K1 := K1.up hb1
  have k1 := K0.cell 1; have q0 := K1.cell 0; have q1 := K1.cell 1
  simp only [List.getElem?_cons_zero, List.getElem?_cons_succ] at k1 q0 q1
  go_wp2_with fail
  refine (spec_l2Change hkb hst).mono ?_; rintro e w' ⟨rfl, rfl⟩
  rcases h2 : goodChange st kb
  · have e1 := Lib.hid (show goodK nm st l kb ks = false by rw [HQ.out, h1, h2]; rfl)
    go_wp2
    go_ret
    rw [e1.out]
    exact ⟨rfl, hB1⟩
  go_wp2_with fail
  refine (spec_l2Change hks hst).mono ?_; rintro e w' ⟨rfl, rfl⟩
  have e1 := Lib.hid (show goodK nm st l kb ks = goodChange st ks by rw [HQ.out, h1, h2]; rfl)
  go_wp2
  go_ret
  rw [e1.out]
  exact ⟨rfl, hB1⟩
theorem impl_isCall {s : ByteArray} {w : World} :
    Calls Try.prog 230 #[.string s] w fun e w' => e = .returned (.bool (isCl s)) ∧ w = w' := by
  have HQ : Hid (isCl s = (isP s || (isB s || isS s))) := Lib.hid rfl
  rcases h1 : isP s <;> rcases h2 : isB s <;> rcases h3 : isS s
  all_goals
    have e1 := HQ.out
    rw [h1, h2, h3] at e1
    have E1 := Lib.hid e1
    have a1 := Lib.hid h1; have a2 := Lib.hid h2; have a3 := Lib.hid h3
    clear e1 h1 h2 h3
    have g1 : (s.toList == [112]) = _ := a1.out
    have g2 : (s.toList == [98]) = _ := a2.out
    have g3 : (s.toList == [115]) = _ := a3.out
    go_in
    go_wp2
    go_ret
    rw [E1.out]
    exact ⟨rfl, rfl⟩
theorem spec_l8Call {s : ByteArray} {w : World} :
    Calls Try.prog 207 #[.string s] w fun e w' => e = .returned (.bool (isCl s)) ∧ w = w' := by
  have HQ : Hid (isCl s = (isP s || (isB s || isS s))) := Lib.hid rfl
  rcases h1 : isP s <;> rcases h2 : isB s <;> rcases h3 : isS s
  all_goals
    have e1 := HQ.out
    rw [h1, h2, h3] at e1
    have E1 := Lib.hid e1
    have a1 := Lib.hid h1; have a2 := Lib.hid h2; have a3 := Lib.hid h3
    clear e1 h1 h2 h3
    have g1 : (s.toList == [112]) = _ := a1.out
    have g2 : (s.toList == [98]) = _ := a2.out
    have g3 : (s.toList == [115]) = _ := a3.out
    go_in
    go_wp2
    go_ret
    rw [E1.out]
    exact ⟨rfl, rfl⟩
end Go.Proofs.Ytpccbmndgdiloaa
/- The walks through called leads and their heads, both sides. -/
namespace Go.Proofs.Ytpccbmndgdiloaa
set_option linter.unusedVariables false
set_option linter.unusedSimpArgs false
open Go.ChangeShapes Go.WideShapes Go.ChangeAt Go.RowKit Go.Deep
theorem lit_app_drew {w w' : World} {o : Obj} {n c : Nat} (hg : (w.alloc o).drew.grownBy w' (Value.slice (some ⟨w.heap.size, 0, none⟩) n c).ownBlock) : Below w.heap.size w w' :=
  (((Below.refl _ _).alloc (Nat.le_refl _) _).drew).trans (grown_base hg (by simp) (fun k hk => by injection hk with hk; dsimp only at hk; omega))
theorem lit_app_drew2 {w w' : World} {o o' : Obj} {n c : Nat} (hg : ((w.alloc o).alloc o').drew.grownBy w' (Value.slice (some ⟨w.heap.size, 0, none⟩) n c).ownBlock) : Below w.heap.size w w' :=
  ((((Below.refl _ _).alloc (Nat.le_refl _) _).alloc (by simp) _).drew).trans (grown_base hg (by simp; omega) (fun k hk => by injection hk with hk; dsimp only at hk; omega))
theorem lit_app_drew3 {w w' : World} {o o' : Obj} {n c : Nat} (hg : ((w.alloc o).alloc o').drew.grownBy w' (Value.slice (some ⟨w.heap.size + 1, 0, none⟩) n c).ownBlock) : Below w.heap.size w w' :=
  ((((Below.refl _ _).alloc (Nat.le_refl _) _).alloc (by simp) _).drew).trans (grown_base hg (by simp; omega) (fun k hk => by injection hk with hk; dsimp only at hk; omega))
theorem impl_withChanges {A : Option Addr} {n c : Nat} {nm : ByteArray} {st : Int} {w : World} {B : Option Addr} {m d : Nat} :
    Calls Try.prog 233 #[.agg #[.string nm, .int .i64 st, .slice A n c], .slice B m d] w fun e w' => e = .returned (.agg #[.string nm, .int .i64 st, .slice B m d]) ∧ Below w.heap.size w w' := by
  go_in
  go_wp2
  refine bodyPost_ret (v := .agg #[.string nm, .int .i64 st, .slice B m d]) (by simp [results, Try.results233, go_sem]) rfl ?_
  exact ⟨rfl, by (repeat' (first | (with_reducible exact Below.refl _ _) | (with_reducible assumption) | (with_reducible refine below_drewN ?_ _) | (with_reducible refine Below.drew ?_) | (with_reducible refine below_alloc ?_ _) | (with_reducible refine Below.alloc ?_ ?_ _) | (with_reducible refine Below.setCell ?_ ?_ _) | (with_reducible refine below_go ?_ (by with_reducible assumption)) | (with_reducible refine below_then (by with_reducible assumption) ?_ ?_) | go_size))⟩
theorem Owned.ne_blk {α : Type} {e : α → List Value} {s : Nat} {E : TypeId} {w : World} {base : Nat} {A : Option Addr} {n c : Nat} {l : List α} {p : Nat} {t : TypeId} {cs : List Value} (h : Owned e s E w base A n c l) (k : Blk w p t cs) (hE : E ≠ t) : ∀ q, (Value.slice A n c).ownBlock = some q → q ≠ p := by
  intro q hq e2
  rcases h.2.2.2 with ⟨hv, _⟩ | ⟨g, cap, cur, hv, _, hh, _⟩
  · rw [hv] at hq; cases hq
  · rw [hv] at hq
    injection hq with hq
    dsimp only at hq
    subst hq; subst e2
    unfold Blk at k
    rw [hh] at k
    injection k with k
    injection k with _ e3 _
    exact hE e3
theorem lead_fin {w0 w3 : World} {p base : Nat} {A2 : Option Addr} {n c2 : Nat} {l : List ByteArray} {nm : ByteArray} {st : Int} (KZ : Blk w3 p 26 [.string { data := #[] }, .int .i64 0, .slice none 0 0]) (ho : Owned strE 1 9 w3 base A2 n c2 l) (C3 : Below w0.heap.size w0 w3) (hp : w0.heap.size ≤ p) :
    Blk (((w3.setCell ⟨p, 0, none⟩ (.string nm)).setCell ⟨p, 1, none⟩ (.int .i64 st)).setCell ⟨p, 2, none⟩ (.slice A2 n c2)) p 26 [.string nm, .int .i64 st, .slice A2 n c2] ∧
      Owned strE 1 9 (((w3.setCell ⟨p, 0, none⟩ (.string nm)).setCell ⟨p, 1, none⟩ (.int .i64 st)).setCell ⟨p, 2, none⟩ (.slice A2 n c2)) base A2 n c2 l ∧
      Below w0.heap.size w0 (((w3.setCell ⟨p, 0, none⟩ (.string nm)).setCell ⟨p, 1, none⟩ (.int .i64 st)).setCell ⟨p, 2, none⟩ (.slice A2 n c2)) := by
  have hne := ho.ne_blk KZ (by decide)
  have g : w3.grownBy (((w3.setCell ⟨p, 0, none⟩ (.string nm)).setCell ⟨p, 1, none⟩ (.int .i64 st)).setCell ⟨p, 2, none⟩ (.slice A2 n c2)) (some p) :=
    grownBy_trans (grownBy_trans (only_set w3 (p := ⟨p, 0, none⟩) _) (only_set _ (p := ⟨p, 1, none⟩) _)) (only_set _ (p := ⟨p, 2, none⟩) _)
  exact ⟨((KZ.set_ 0 _).set_ 1 _).set_ 2 _, ho.kept g (fun k hk e => hne k hk (by injection e with e; exact e.symm)), ((C3.setCell (p := ⟨p, 0, none⟩) hp _).setCell (p := ⟨p, 1, none⟩) hp _).setCell (p := ⟨p, 2, none⟩) hp _⟩
set_option maxHeartbeats 1000000 in
set_option maxRecDepth 100000 in
theorem impl_calledLead {A : Option Addr} {n c : Nat} {nm : ByteArray} {st : Int} {l : List ByteArray} {kb ks : ByteArray} {s : ByteArray} {w : World} (hn : l.length = n) (h : Strs w A l) (hz : n ≤ 1048576) (hs : ∀ s ∈ l, s.size ≤ 16777216) (hnm : nm.size ≤ 16777216) (hst : I64 st) (h0 : 0 < n) :
    Calls Try.prog 212 #[.agg #[.string nm, .int .i64 st, .slice A n c], .agg #[.string kb, .string ks], .string s] w fun e w' => ∃ A' c', e = .returned (.agg #[.string nm, .int .i64 st, .slice A' n c']) ∧ Owned strE 1 9 w' w.heap.size A' n c' (l.set (n - 1) (chOf l kb ks s)) ∧ Below w.heap.size w w' := by
  obtain ⟨m, rfl⟩ : ∃ m, n = m + 1 := ⟨n - 1, by omega⟩
  have HN := Lib.hid hn
  clear hn
  have b0 : Below w.heap.size w (((w.alloc (.cells ⟨[.string nm, .int .i64 st, .slice A (m + 1) c]⟩ 26)).alloc (.cells ⟨[.string kb, .string ks]⟩ 28)).alloc (.cells ⟨[.string { data := #[] }, .int .i64 0, .slice none 0 0]⟩ 26)) := by (repeat' (first | (with_reducible exact Below.refl _ _) | (with_reducible assumption) | (with_reducible refine below_drewN ?_ _) | (with_reducible refine Below.drew ?_) | (with_reducible refine below_alloc ?_ _) | (with_reducible refine Below.alloc ?_ ?_ _) | (with_reducible refine Below.setCell ?_ ?_ _) | (with_reducible refine below_go ?_ (by with_reducible assumption)) | (with_reducible refine below_then (by with_reducible assumption) ?_ ?_) | go_size))
  have K0 := ((Blk.at_ w 26 [.string nm, .int .i64 st, .slice A (m + 1) c] (b := w.heap.size) rfl).alloc (.cells ⟨[.string kb, .string ks]⟩ 28)).alloc (.cells ⟨[.string { data := #[] }, .int .i64 0, .slice none 0 0]⟩ 26)
  have K1 := (Blk.at_ (w.alloc (.cells ⟨[.string nm, .int .i64 st, .slice A (m + 1) c]⟩ 26)) 28 [.string kb, .string ks] (b := w.heap.size + 1) (by simp)).alloc (.cells ⟨[.string { data := #[] }, .int .i64 0, .slice none 0 0]⟩ 26)
  have K2 := Blk.at_ ((w.alloc (.cells ⟨[.string nm, .int .i64 st, .slice A (m + 1) c]⟩ 26)).alloc (.cells ⟨[.string kb, .string ks]⟩ 28)) 26 [.string { data := #[] }, .int .i64 0, .slice none 0 0] (b := w.heap.size + 1 + 1) (by simp)
  go_in
  go_upto_region 1 with fail
  obtain ⟨w0, hw0⟩ : ∃ u, u = (((w.alloc (.cells #[.string nm, .int .i64 st, .slice A (m + 1) c] 26)).alloc (.cells #[.string kb, .string ks] 28)).alloc (.cells #[.string { data := #[] }, .int .i64 0, .slice none 0 0] 26)) := ⟨_, rfl⟩
  have sz0 : w0.heap.size = w.heap.size + 1 + 1 + 1 := by rw [hw0]; simp
  have sz0' : w0.heap.size ≤ w.heap.size + 3 := by omega
  have sz0'' : w.heap.size + 3 ≤ w0.heap.size := by omega
  rw [← hw0] at b0 K0 K1 K2 ⊢
  clear hw0 sz0
  have carry : Hid (∀ u : World, Below w0.heap.size w0 u → u.cell? ⟨w.heap.size, 0, none⟩ = some (.string nm) ∧ u.cell? ⟨w.heap.size, 1, none⟩ = some (.int .i64 st) ∧ u.cell? ⟨w.heap.size, 2, none⟩ = some (.slice A (m + 1) c)) := Lib.hid (fun u hu => by
    have L0 := K0.up hu
    exact ⟨by simpa using L0.cell 0, by simpa using L0.cell 1, by simpa using L0.cell 2⟩)
  have hr := Lib.hid (h.up b0)
  have HOV : Hid (Owned strE 1 9 ((w0.alloc (.cells #[.string { data := #[] }, .int .i64 0, .slice none 0 0] 26)).alloc (.cells #[] 9)) w0.heap.size (some ⟨w0.heap.size + 1, 0, none⟩) 0 0 ([] : List ByteArray)) := Lib.hid (by have q := Owned.empty (E := 9) strE_len (w0.alloc (.cells #[.string { data := #[] }, .int .i64 0, .slice none 0 0] 26)) (base := w0.heap.size) (by simp); simpa using q)
  go_cut [7] (fun s7 wx => ∃ (p : Nat) (A2 : Option Addr) (c2 : Nat), s7 = .pointer (some ⟨p, 0, none⟩) ∧ w0.heap.size ≤ p ∧ Blk wx p 26 [.string nm, .int .i64 st, .slice A2 (m + 1) c2] ∧ Owned strE 1 9 wx w0.heap.size A2 (m + 1) c2 l ∧ Below w0.heap.size w0 wx)
  case first =>
    go_region_held3 (fun u => u.cell? ⟨w.heap.size, 0, none⟩ = some (.string nm) ∧ u.cell? ⟨w.heap.size, 1, none⟩ = some (.int .i64 st) ∧ u.cell? ⟨w.heap.size, 2, none⟩ = some (.slice A (m + 1) c)) (first | exact carry.out _ C3 | exact carry.out _ (C3.alloc C3.size _) | exact carry.out _ (((C3.setCell (p := ⟨w2.heap.size, 0, none⟩) C2.size _).setCell (p := ⟨w2.heap.size, 1, none⟩) C2.size _).setCell (p := ⟨w2.heap.size, 2, none⟩) C2.size _) | exact carry.out _ (((C3.setCell (p := ⟨w0.heap.size + 1, 0, none⟩) (Nat.le_succ _) _).setCell (p := ⟨w0.heap.size + 1, 1, none⟩) (Nat.le_succ _) _).setCell (p := ⟨w0.heap.size + 1, 2, none⟩) (Nat.le_succ _) _) | exact carry.out _ (((C3.setCell (p := ⟨w0.heap.size, 0, none⟩) (Nat.le_refl _) _).setCell (p := ⟨w0.heap.size, 1, none⟩) (Nat.le_refl _) _).setCell (p := ⟨w0.heap.size, 2, none⟩) (Nat.le_refl _) _) | exact carry.out _ ((((Below.refl _ _).alloc (Nat.le_refl _) _).alloc (by simp) _).drew) | exact carry.out _ C2 | exact carry.out _ (C2.alloc C2.size _) | exact carry.out _ (((Below.refl _ _).alloc (Nat.le_refl _) _).drew) | exact carry.out _ (Below.refl _ _).drew) (first | (go_at_call 233; refine impl_withChanges.mono ?_; rintro e w3 ⟨rfl, hb3⟩; have KZ := KZ2.up hb3; have C3 := C2.trans (hb3.mono C2.size); have z0 := KZ.cell 0; have z1 := KZ.cell 1; have z2 := KZ.cell 2; simp only [List.getElem?_cons_zero, List.getElem?_cons_succ] at z0 z1 z2; have f0 := KZ.frozen 0; have f1 := KZ.frozen 1; have f2 := KZ.frozen 2) | (go_at_call 233; refine impl_withChanges.mono ?_; rintro e w3 ⟨rfl, hb3⟩; have C3 := C2.trans (hb3.mono C2.size)) | (go_at_call 233; refine impl_withChanges.mono ?_; rintro e w3 ⟨rfl, hb3⟩; have C3 := (C2.alloc C2.size _).trans (hb3.mono (by simp; have := C2.size; omega)); have KZ := (Blk.at_ w2 26 [.string { data := #[] }, .int .i64 0, .slice none 0 0] (b := w2.heap.size) rfl).up hb3; have z0 := KZ.cell 0; have z1 := KZ.cell 1; have z2 := KZ.cell 2; simp only [List.getElem?_cons_zero, List.getElem?_cons_succ] at z0 z1 z2; have f0 := KZ.frozen 0; have f1 := KZ.frozen 1; have f2 := KZ.frozen 2) | (refine step_append_recs Try.elStr strE_one rfl (.tmp 10) (.tmp 12) rfl (by rfl) (Owned.empty (E := 9) strE_len w0 (Nat.le_refl _)).drew (by rfl) ((hr.out.alloc _).drew) HN.out ?_ (by decide) ?_ ?_; (focus (first | omega | (simp only [World.size_alloc]; done) | (simp only [World.size_alloc]; omega) | (simp; done) | (simp; omega))); (focus (first | omega | (simp only [World.size_alloc]; done) | (simp only [World.size_alloc]; omega) | (simp; done) | (simp; omega))); intro A2 c2 w2 ho2 hg2 hl2; have ho2' : Owned strE 1 9 w2 w0.heap.size A2 (m + 1) c2 l := (by simpa using ho2); have C2 := lit_app_drew hg2) | (refine step_append_recs Try.elStr strE_one rfl (.tmp 10) (.tmp 12) rfl (by rfl) ((Owned.empty (E := 9) strE_len w0 (Nat.le_refl _)).alloc (.cells #[.string { data := #[] }, .int .i64 0, .slice none 0 0] 26)).drew (by rfl) (((hr.out.alloc _).alloc _).drew) HN.out ?_ (by decide) ?_ ?_; (focus (first | omega | (simp only [World.size_alloc]; done) | (simp only [World.size_alloc]; omega) | (simp; done) | (simp; omega))); (focus (first | omega | (simp only [World.size_alloc]; done) | (simp only [World.size_alloc]; omega) | (simp; done) | (simp; omega))); intro A2 c2 w2 ho2 hg2 hl2; have ho2' : Owned strE 1 9 w2 w0.heap.size A2 (m + 1) c2 l := (by simpa using ho2); have C2 := lit_app_drew2 hg2; have KZ2 := ((Blk.at_ (w0.alloc (.cells #[] 9)) 26 [.string { data := #[] }, .int .i64 0, .slice none 0 0] (b := w0.heap.size + 1) (by simp)).drewN 1).grown hg2 (fun e => by injection e with e; dsimp only at e; omega)) | (refine step_append_recs Try.elStr strE_one rfl (.tmp 10) (.tmp 12) rfl (by rfl) (HOV.out).drew (by rfl) (((hr.out.alloc _).alloc _).drew) HN.out ?_ (by decide) ?_ ?_; (focus (first | omega | (simp only [World.size_alloc]; done) | (simp only [World.size_alloc]; omega) | (simp; done) | (simp; omega))); (focus (first | omega | (simp only [World.size_alloc]; done) | (simp only [World.size_alloc]; omega) | (simp; done) | (simp; omega))); intro A2 c2 w2 ho2 hg2 hl2; have ho2' : Owned strE 1 9 w2 w0.heap.size A2 (m + 1) c2 l := (by simpa using ho2); have C2 := lit_app_drew3 hg2; have KZ2 := (((Blk.at_ w0 26 [.string { data := #[] }, .int .i64 0, .slice none 0 0] (b := w0.heap.size) rfl).alloc (.cells #[] 9)).drewN 1).grown hg2 (fun e => by injection e with e; dsimp only at e; omega)))
    all_goals
      go_wp2_with fail
      go_meet
      refine ⟨_, A2, c2, rfl, ?_⟩
      first
        | with_reducible exact ⟨C2.size, lead_fin KZ ((ho2'.alloc _).up hb3) C3 C2.size⟩
        | with_reducible exact ⟨Nat.le_refl _, lead_fin KZ (ho2'.up hb3) C3 (Nat.le_refl _)⟩
        | with_reducible exact ⟨Nat.le_succ _, lead_fin KZ (ho2'.up hb3) C3 (Nat.le_succ _)⟩
        | with_reducible exact ⟨C3.size, Blk.at_ w3 26 [.string nm, .int .i64 st, .slice A2 (m + 1) c2] rfl, (ho2'.up hb3).alloc _, C3.alloc C3.size _⟩
  case rest =>
    obtain ⟨p, A2, c2, rfl, hp, K4, ho4, B4⟩ := hcut
    rename World => w4
    have L1 := K1.up B4; have L2 := K2.up B4
    have k0 := K4.cell 0; have k1 := K4.cell 1; have k2 := K4.cell 2
    have q0 := L1.cell 0; have q1 := L1.cell 1
    have r0 := L2.cell 0; have r1 := L2.cell 1; have r2 := L2.cell 2
    have t0 := L2.frozen 0; have t1 := L2.frozen 1; have t2 := L2.frozen 2
    simp only [List.getElem?_cons_zero, List.getElem?_cons_succ] at k0 k1 k2 q0 q1 r0 r1 r2
    obtain ⟨g, rfl, g0, g1, gc, gf⟩ := ho4.at_ h0
    obtain ⟨y, hy⟩ := some_of_lt (l := l) (k := m) (by rw [HN.out]; omega)
    have cy := gc m y 0 _ hy rfl
    have fy := gf m
    simp only [Nat.mul_one, Nat.add_zero] at cy
    have HY := Lib.hid hy
    clear gc gf hy
    have FO : Hid (∀ (u : World) (l' : List ByteArray) (a b d : Value), w4.heap.size ≤ u.heap.size → Owned strE 1 9 u w0.heap.size (some ⟨g, 0, none⟩) (m + 1) c2 l' → Below w.heap.size w u → Owned strE 1 9 (((u.setCell ⟨w.heap.size + 1 + 1, 0, none⟩ a).setCell ⟨w.heap.size + 1 + 1, 1, none⟩ b).setCell ⟨w.heap.size + 1 + 1, 2, none⟩ d) w.heap.size (some ⟨g, 0, none⟩) (m + 1) c2 l' ∧ Below w.heap.size w (((u.setCell ⟨w.heap.size + 1 + 1, 0, none⟩ a).setCell ⟨w.heap.size + 1 + 1, 1, none⟩ b).setCell ⟨w.heap.size + 1 + 1, 2, none⟩ d)) := Lib.hid (by
      intro u l' a b d hu ho hb
      have gg : u.grownBy (((u.setCell ⟨w.heap.size + 1 + 1, 0, none⟩ a).setCell ⟨w.heap.size + 1 + 1, 1, none⟩ b).setCell ⟨w.heap.size + 1 + 1, 2, none⟩ d) (some (w.heap.size + 1 + 1)) :=
        grownBy_trans (grownBy_trans (only_set u (p := ⟨w.heap.size + 1 + 1, 0, none⟩) _) (only_set _ (p := ⟨w.heap.size + 1 + 1, 1, none⟩) _)) (only_set _ (p := ⟨w.heap.size + 1 + 1, 2, none⟩) _)
      exact ⟨(ho.past gg (by omega)).base_le (by omega), hb.grown gg hb.size (fun k hk => by injection hk with hk; omega)⟩)
    have hBB := b0.trans (B4.mono b0.size)
    have hpg : ¬ p = g := fun e => ho4.ne_blk K4 (by decide) g rfl e.symm
    have hgp : ¬ g = p := fun e => hpg e.symm
    have PT := Lib.hid (fun (x : ByteArray) => ho4.put (j := 0) (x := x) (u := .string x) HY.out (by decide) rfl)
    rcases hB : isB s
    · rcases hS : isS s
      · have g2 : (s.toList == [98]) = false := hB
        have g3 : (s.toList == [115]) = false := hS
        have e1 := Lib.hid (show l.set m (chOf l kb ks s) = l by
          rw [chOf, hB, hS, if_neg (by simp), if_neg (by simp)]
          have h1 : lastC l = y := by rw [lastC, HN.out, Nat.add_sub_cancel, List.getD, HY.out]; rfl
          apply List.ext_getElem?
          intro q
          by_cases hq : q = m
          · subst hq; rw [List.getElem?_set_self (by rw [HN.out]; omega), h1, HY.out]
          · rw [List.getElem?_set_ne (fun e => hq e.symm)])
        clear hB hS
        go_wp2
        refine bodyPost_ret (v := .agg #[.string nm, .int .i64 st, .slice (some ⟨g, 0, none⟩) (m + 1) c2]) (by simp [results, Try.results212, go_sem, World.cell?_setCell_same, r0, r1, r2]) rfl ?_
        rw [Nat.add_sub_cancel, e1.out]
        exact ⟨_, _, rfl, FO.out _ _ _ _ _ (Nat.le_refl _) ho4 hBB⟩
      · have g2 : (s.toList == [98]) = false := hB
        have g3 : (s.toList == [115]) = true := hS
        have e1 := Lib.hid (show l.set m (chOf l kb ks s) = l.set m ks by rw [chOf, hB, hS, if_neg (by simp), if_pos rfl])
        have pt := PT.out ks
        simp only [Nat.mul_one, Nat.add_zero] at pt
        have PO := Lib.hid pt.1
        have PG := Lib.hid pt.2
        clear hB hS pt
        go_wp2
        refine bodyPost_ret (v := .agg #[.string nm, .int .i64 st, .slice (some ⟨g, 0, none⟩) (m + 1) c2]) (by simp [results, Try.results212, go_sem, World.cell?_setCell_same, r0, r1, r2]) rfl ?_
        rw [Nat.add_sub_cancel, e1.out]
        exact ⟨_, _, rfl, FO.out _ _ _ _ _ PG.out.size PO.out (hBB.grown PG.out hBB.size (fun k hk => by injection hk with hk; omega))⟩
    · have g2 : (s.toList == [98]) = true := hB
      have e1 := Lib.hid (show l.set m (chOf l kb ks s) = l.set m kb by rw [chOf, hB, if_pos rfl])
      have pt := PT.out kb
      simp only [Nat.mul_one, Nat.add_zero] at pt
      have PO := Lib.hid pt.1
      have PG := Lib.hid pt.2
      clear hB pt
      go_wp2
      refine bodyPost_ret (v := .agg #[.string nm, .int .i64 st, .slice (some ⟨g, 0, none⟩) (m + 1) c2]) (by simp [results, Try.results212, go_sem, World.cell?_setCell_same, r0, r1, r2]) rfl ?_
      rw [Nat.add_sub_cancel, e1.out]
      exact ⟨_, _, rfl, FO.out _ _ _ _ _ PG.out.size PO.out (hBB.grown PG.out hBB.size (fun k hk => by injection hk with hk; omega))⟩
end Go.Proofs.Ytpccbmndgdiloaa
/- The walk through the search for an extent, the reference's side. -/
namespace Go.Proofs.Ytpccbmndgdiloaa
set_option linter.unusedVariables false
set_option linter.unusedSimpArgs false
open Go.ChangeShapes Go.WideShapes Go.ChangeAt Go.RowKit Go.Deep
theorem MarkR.del {n : Nat} {V : List ByteArray} {m : List Bool} {x : ByteArray} (h : MarkR n (V ++ [x]) m) (hx : RowN n x) (hn : inL V x = false) : MarkR n V (m.set (place x) false) := by
  refine ⟨by rw [List.length_set]; exact h.1, fun s hs => ?_⟩
  rw [List.getElem?_set]
  by_cases e : place x = place s
  · rw [if_pos e, if_pos (by rw [h.1]; exact rowN_place hx), ← rowN_inj hx hs e, hn]
  · rw [if_neg e, h.2 s hs]
    have hne : ¬ x = s := fun q => e (by rw [q])
    congr 1
    rw [inL, inL, List.any_append]
    simp [hne]
theorem Owned.pop {α : Type} {e : α → List Value} {s : Nat} {E : TypeId} {w : World} {base : Nat} {A : Option Addr} {n c : Nat} {l : List α} {x : α} (h : Owned e s E w base A (n + 1) c (l ++ [x])) : Owned e s E w base A n c l := by
  obtain ⟨he, hl, hz, hv⟩ := h
  have hln : l.length = n := by simpa using hl
  refine ⟨he, hln, by rw [flatMap_len he, hln], ?_⟩
  rcases hv with ⟨h0, h1⟩ | ⟨g, cap, cur, hv, hb, hh, h1, h2, h3, h4⟩
  · cases h0
  · injection hv with e1 e2 e3
    subst e1 e3
    refine .inr ⟨g, c, cur, rfl, hb, hh, by omega, h2, h3, ?_⟩
    rw [List.flatMap_append] at h4
    have h5 := congrArg (List.take (n * s)) h4
    rw [List.take_take, Nat.min_eq_left (Nat.mul_le_mul (Nat.le_succ n) (Nat.le_refl s)), List.take_left' (by rw [flatMap_len he, hln])] at h5
    exact h5
def spC (n N : Nat) (A : Option Addr) (c gs F : Nat) (AP : Option Addr) (k cP : Nat) (left many : Int) : List Value :=
  [.int .i64 n, .slice A N c, .slice (some ⟨gs, 0, none⟩) F F, .slice AP k cP, .int .i64 left, .int .i64 F, .int .i64 many]
/-- The state of a search, as it lies. -/
structure SpS (w : World) (b p n N : Nat) (A : Option Addr) (c gs : Nat) (V P : List ByteArray) (left many : Int) (m : List Bool) (AP : Option Addr) (cP : Nat) : Prop where
  blk : Blk w p 122 (spC n N A c gs (fact n) AP P.length cP left many)
  marks : Owned boolE 1 4 w b (some ⟨gs, 0, none⟩) (fact n) (fact n) m
  mark : MarkR n V m
  path : Owned strE 1 9 w b AP P.length cP P
  lo : b ≤ p
section
variable {w w' : World} {b p n N : Nat} {A : Option Addr} {c gs : Nat} {V P : List ByteArray} {left many : Int} {m : List Bool} {AP : Option Addr} {cP : Nat}
theorem SpS.up (h : SpS w b p n N A c gs V P left many m AP cP) (hb : Below w.heap.size w w') : SpS w' b p n N A c gs V P left many m AP cP :=
  ⟨h.blk.up hb, h.marks.up hb, h.mark, h.path.up hb, h.lo⟩
theorem SpS.drewN (h : SpS w b p n N A c gs V P left many m AP cP) (k : Nat) : SpS (w.drewN k) b p n N A c gs V P left many m AP cP := h.up (below_drewN (Below.refl _ _) k)
theorem SpS.ne (h : SpS w b p n N A c gs V P left many m AP cP) : p ≠ gs := fun e => h.marks.ne_blk h.blk (by decide) gs rfl e.symm
theorem SpS.nep (h : SpS w b p n N A c gs V P left many m AP cP) : ∀ k, (Value.slice AP P.length cP).ownBlock = some k → k ≠ p := h.path.ne_blk h.blk (by decide)
theorem SpS.neg (h : SpS w b p n N A c gs V P left many m AP cP) : ∀ k, (Value.slice AP P.length cP).ownBlock = some k → k ≠ gs := fun k hk e => h.path.ne h.marks (by decide) k hk (by rw [e]; rfl)
theorem SpS.only (h : SpS w b p n N A c gs V P left many m AP cP) (i : Nat) (u : Value) : Owned boolE 1 4 (w.setCell ⟨p, i, none⟩ u) b (some ⟨gs, 0, none⟩) (fact n) (fact n) m ∧ Owned strE 1 9 (w.setCell ⟨p, i, none⟩ u) b AP P.length cP P :=
  ⟨h.marks.kept (only_set w (p := ⟨p, i, none⟩) u) (fun k hk e => by injection hk with hk; injection e with e; exact h.ne (e.trans hk.symm)),
   h.path.kept (only_set w (p := ⟨p, i, none⟩) u) (fun k hk e => by injection e with e; exact h.nep k hk e.symm)⟩
theorem SpS.setLeft (h : SpS w b p n N A c gs V P left many m AP cP) (x : Int) : SpS (w.setCell ⟨p, 4, none⟩ (.int .i64 x)) b p n N A c gs V P x many m AP cP :=
  ⟨h.blk.set_ 4 _, (h.only 4 _).1, h.mark, (h.only 4 _).2, h.lo⟩
theorem SpS.setMany (h : SpS w b p n N A c gs V P left many m AP cP) (x : Int) : SpS (w.setCell ⟨p, 6, none⟩ (.int .i64 x)) b p n N A c gs V P left x m AP cP :=
  ⟨h.blk.set_ 6 _, (h.only 6 _).1, h.mark, (h.only 6 _).2, h.lo⟩
theorem SpS.push {A' : Option Addr} {c' : Nat} {x : ByteArray} (h : SpS w b p n N A c gs V P left many m AP cP) (hg : w.grownBy w' (Value.slice AP P.length cP).ownBlock) (ho : Owned strE 1 9 w' b A' (P.length + 1) c' (P ++ [x])) :
    SpS (w'.setCell ⟨p, 3, none⟩ (.slice A' (P.length + 1) c')) b p n N A c gs V (P ++ [x]) left many m A' c' := by
  have hk := h.blk.grown hg (fun e => h.nep p e.symm rfl)
  have hm := h.marks.kept hg (fun k hk e => by injection hk with hk; exact h.neg gs (by rw [e]; exact congrArg some hk.symm) rfl)
  have hl : (P ++ [x]).length = P.length + 1 := by simp
  have hne : p ≠ gs := h.ne
  refine ⟨by rw [hl]; exact hk.set_ 3 _, hm.kept (only_set w' (p := ⟨p, 3, none⟩) _) (fun k hk e => by injection hk with hk; injection e with e; exact hne (e.trans hk.symm)), h.mark, ?_, h.lo⟩
  rw [hl]
  exact ho.kept (only_set w' (p := ⟨p, 3, none⟩) _) (fun k hk' e => by injection e with e; exact ho.ne_blk hk (by decide) k hk' e.symm)
theorem SpS.pop {x : ByteArray} (h : SpS w b p n N A c gs V (P ++ [x]) left many m AP cP) : SpS (w.setCell ⟨p, 3, none⟩ (.slice AP P.length cP)) b p n N A c gs V P left many m AP cP := by
  have hl : (P ++ [x]).length = P.length + 1 := by simp
  have hp := h.path
  rw [hl] at hp
  have ho := (h.only 3 (.slice AP P.length cP)).2
  rw [hl] at ho
  exact ⟨h.blk.set_ 3 _, (h.only 3 _).1, h.mark, ho.pop, h.lo⟩
theorem SpS.marked {x : ByteArray} {v : Bool} {V' : List ByteArray} (h : SpS w b p n N A c gs V P left many m AP cP) (hx : RowN n x) (hm : MarkR n V' (m.set (place x) v)) : SpS (w.setCell ⟨gs, place x, none⟩ (.bool v)) b p n N A c gs V' P left many (m.set (place x) v) AP cP := by
  have hold := h.mark.2 x hx
  obtain ⟨h1, hg⟩ := h.marks.put (k := place x) (j := 0) (x := v) (u := .bool v) hold (by decide) rfl
  simp only [Nat.mul_one, Nat.add_zero] at h1 hg
  exact ⟨h.blk.grown hg (fun e => by injection e with e; exact h.ne e), h1, hm, h.path.kept hg (fun k hk e => by injection e with e; exact h.neg k hk e.symm), h.lo⟩
end
/-- What a search leaves. -/
def EndS (o : Fate) (V P V' P' : List ByteArray) (left' many' : Int) : Prop := (∀ l, o = .inr l → V' = V ∧ P' = P ∧ left' = (l : Int) ∧ many' = 0) ∧ (∀ q, o = .inl (some q) → P' = q ∧ many' = 1) ∧ (o = .inl none → many' = 0)
theorem EndS.go (V P : List ByteArray) (l : Nat) : EndS (.inr l) V P V P l 0 := ⟨fun l' e => by injection e with e; subst e; exact ⟨rfl, rfl, rfl, rfl⟩, (fun q e => by cases e), (fun e => by cases e)⟩
theorem EndS.hit (V P V' P' : List ByteArray) (left' : Int) : EndS (.inl (some P')) V P V' P' left' 1 := ⟨(fun l' e => by cases e), fun q e => by injection e with e; injection e with e; exact ⟨e, rfl⟩, (fun e => by injection e with e; cases e)⟩
theorem EndS.over (V P V' P' : List ByteArray) (left' : Int) : EndS (.inl none) V P V' P' left' 0 := ⟨(fun l' e => by cases e), (fun q e => by injection e with e; cases e), fun _ => rfl⟩
theorem EndS.of_end {o : Fate} {V P V2 P2 V' P' : List ByteArray} {left' many' : Int} (h : EndS o V2 P2 V' P' left' many') (ho : o.isLeft = true) : EndS o V P V' P' left' many' := by
  refine ⟨fun l e => ?_, h.2⟩
  subst e; cases ho
def recOf (n : Nat) (W : List ByteArray) (d : Nat) : ByteArray → List ByteArray → List ByteArray → Nat → Fate := match d with | 0 => fun _ _ _ l => .inr l | d + 1 => srch n W d
theorem srch_recOf (n : Nat) (W : List ByteArray) (d : Nat) (r : ByteArray) (V P : List ByteArray) (left : Nat) : srch n W d r V P left = srchL (recOf n W d) n (decide (d = 0)) r V P W left := by
  cases d <;> rfl
set_option maxHeartbeats 2000000 in
set_option maxRecDepth 100000 in
theorem spec_search {N n : Nat} {A : Option Addr} {c : Nat} {W : List ByteArray} {w0 : World} (hN : W.length = N) (h : Strs w0 A W) (hz : N ≤ 1000) (h3 : 3 ≤ n) (h8 : n ≤ 8) (hW : ∀ s ∈ W, s.size ≤ 16777216) :
    ∀ (d : Nat) {r : ByteArray} {V P : List ByteArray} {left : Nat} {m : List Bool} {AP : Option Addr} {cP p gs : Nat} {w : World}, RowN n r → ClOk n V → V.length + d = fact n → P.length + 1 = V.length → left ≤ 1000000 →
      SpS w w0.heap.size p n N A c gs V P left 0 m AP cP → Below w0.heap.size w0 w →
      Calls Try.prog 107 #[.pointer (some ⟨p, 0, none⟩), .string r] w fun e w' => e = .returned (.bool (srch n W d r V P left).isLeft) ∧ (∃ V' P' left' many' m' AP' cP', SpS w' w0.heap.size p n N A c gs V' P' left' many' m' AP' cP' ∧ EndS (srch n W d r V P left) V P V' P' left' many') ∧ Below w0.heap.size w0 w' := by
  have h40 : fact n ≤ 40320 := fact_le8 h8
  have HW := Lib.hid hW
  subst hN
  clear hW
  intro d
  induction d using Nat.strongRecOn with
  | ind d ih =>
  intro r V P left m AP cP p gs w hr hV hVd hPV hl hS hB
  have IH := Lib.hid (fun d' (e : d = d' + 1) => @ih d' (by omega))
  have HE := Lib.hid (srch_recOf n W d r V P left)
  have HV := Lib.hid hV
  have HPV := Lib.hid hPV
  have HF1 : IntKind.i64.wrap ((fact n : Int) - 1) = (fact n : Int) - 1 := wrap_id (by omega)
  have hP40 : P.length ≤ 40320 := by have := HPV.out; omega
  have hrz : r.size ≤ 8 := by rw [hr.2]; exact h8
  have k1 := hS.blk.cell 1
  simp only [spC, List.getElem?_cons_zero, List.getElem?_cons_succ] at k1
  have HS0 := Lib.hid hS
  clear ih hV hS hPV
  go_in
  go_wp2
  clear k1
  go_loopw [15] (fun i wr => ∃ (j q : Nat) (m : List Bool) (AP : Option Addr) (cP : Nat), j ≤ W.length ∧ i = .int .i64 j ∧ q ≤ 1000000 ∧ Hid (SpS wr w0.heap.size p n W.length A c gs V P q 0 m AP cP) ∧ Hid (srch n W d r V P left = srchL (recOf n W d) n (decide (d = 0)) r V P (W.drop j) q) ∧ Below w0.heap.size w0 wr) (fun i _ => W.length - (intOf i).toNat)
  case atStart => exact ⟨0, left, m, AP, cP, Nat.zero_le _, rfl, hl, HS0, Lib.hid (by rw [List.drop_zero]; exact HE.out), hB⟩
  case round =>
    clear HS0 HE hB
    obtain ⟨j, q, m, AP, cP, hj, rfl, hq, HS, HE, hB⟩ := hrel
    rename World => w1
    by_cases hlt : j < W.length
    · obtain ⟨b1, o1, y, rfl, hbb, hy, hcy0⟩ := h.at_str hlt
      have hcy := (hB.cell (p := ⟨b1, o1 + j, none⟩) hbb).trans hcy0
      have hys := HW.out y (List.mem_of_getElem? hy)
      have HD := Lib.hid (drop_at hy)
      have k4 := HS.out.blk.cell 4; have f4 := HS.out.blk.frozen 4
      simp only [spC, List.getElem?_cons_zero, List.getElem?_cons_succ] at k4
      clear hy hcy0
      by_cases hq0 : q = 0
      · subst hq0
        have e1 := Lib.hid (show srch n W d r V P left = .inl none by rw [HE.out, HD.out, srchL_over])
        go_wp2
        go_ret
        rw [e1.out]
        exact ⟨rfl, ⟨V, P, _, _, m, AP, cP, HS.out, EndS.over V P V P _⟩, hB⟩
      · obtain ⟨q', hq'⟩ : ∃ q', q = q' + 1 := ⟨q - 1, by omega⟩
        have HQ := Lib.hid hq'
        have hqI : ¬ (q : Int) = 0 := by omega
        have hqc : (q : Int) - 1 = (q' : Int) := by omega
        have HQC := Lib.hid hqc
        have hqw : IntKind.i64.wrap ((q : Int) - 1) = (q : Int) - 1 := wrap_id (by omega)
        have HS1 := Lib.hid (HS.out.setLeft ((q : Int) - 1))
        have hB1 : Below w0.heap.size w0 (w1.setCell ⟨p, 4, none⟩ (.int .i64 ((q : Int) - 1))) := hB.setCell (p := ⟨p, 4, none⟩) HS.out.lo _
        obtain ⟨x, hx⟩ : ∃ x, x = applyR r y := ⟨_, rfl⟩
        have HX := Lib.hid hx
        have hxN : RowN n x := by rw [hx]; exact hr.apply y
        have hxz : x.size ≤ 8 := by rw [hxN.2]; exact h8
        have HXN := Lib.hid hxN
        obtain ⟨kx, hkx⟩ : ∃ k, k = place x := ⟨_, rfl⟩
        have HKX := Lib.hid hkx
        have hkF : kx < fact n := by rw [hkx]; exact rowN_place hxN
        have HZ := Lib.hid (place_zero h3 h8 hxN)
        have HB1 := Lib.hid hB1
        clear hq' hq0 hqc hx hxN hkx hB1
        go_wp2_with fail
        refine (spec_l2Apply hrz hys).mono ?_; rw [← HX.out]; rintro e w2 ⟨rfl, hb2⟩
        clear k4 f4 hcy
        have HS2 := Lib.hid (HS1.out.up hb2)
        have hB2 := below_then hb2 HB1.out HB1.out.size
        clear HS1 HB1
        go_wp2_with fail
        refine (spec_l1Place hxz).mono ?_; rw [← HKX.out]; rintro e w3 ⟨rfl, hb3⟩
        have HS3 := Lib.hid (HS2.out.up hb3)
        have hB3 := below_then hb3 hB2 hB2.size
        have k3 := HS3.out.blk.cell 3; have k5 := HS3.out.blk.cell 5
        simp only [spC, List.getElem?_cons_zero, List.getElem?_cons_succ] at k3 k5
        by_cases hd : d = 0
        · have hfull : ((P.length : Int) == (fact n : Int) - 1) = true := beq_iff_eq.2 (by have := HPV.out; omega)
          have HFU := Lib.hid (show decide (d = 0) = true from decide_eq_true hd)
          go_wp2
          go_quiet (fail)
          have HS4 := Lib.hid (HS3.out.drewN nq)
          have hB4 := below_drewN hB3 nq
          obtain ⟨w4, hw4⟩ : ∃ u, u = w3.drewN nq := ⟨_, rfl⟩
          rw [← hw4] at HS4 hB4 ⊢
          clear hw4 k3 k5 HS3 hB3 HS2 hB2 hb3 hb2
          by_cases hx0 : x = roundsS n
          · have hkI : kx = 0 := by rw [HKX.out]; exact HZ.out.2 hx0
            have e1 := Lib.hid (show srch n W d r V P left = .inl (some (P ++ [y])) by rw [HE.out, HD.out, HQ.out, srchL_hit HFU.out (by rw [← HX.out]; exact hx0)])
            have k3 := HS4.out.blk.cell 3
            simp only [spC, List.getElem?_cons_zero, List.getElem?_cons_succ] at k3
            have hs4 := hB4.size
            have HLO := Lib.hid HS4.out.lo
            have hPl : (P ++ [y]).length = P.length + 1 := by simp
            have HPL := Lib.hid hPl
            clear hx0 hPl
            go_wp2_with (first | (at_builtin; go_must ((refine wpList_append_recs Try.elStr strE_one rfl (.tmp 56) (.tmp 58) rfl rfl (HS4.out.path.alloc _) rfl (own_lit1_at' strE_len w4 9 y rfl (Nat.le_refl _)).recs rfl ?_ (by decide) ?_ ?_; (focus (first | omega | (simp only [World.size_alloc]; done) | (simp only [World.size_alloc]; omega) | (simp; done) | (simp; omega))); (focus (first | omega | (simp only [World.size_alloc]; done) | (simp only [World.size_alloc]; omega) | (simp; done) | (simp; omega))); intro A5 c5 w5 ho5 hg5 hl5; have KB5 := (HS4.out.blk.alloc (.cells #[.string y] 9)).grown hg5 (fun e => HS4.out.nep p e.symm rfl); have q3 := KB5.cell 3; have q6 := KB5.cell 6; have g3 := KB5.frozen 3; have g6 := KB5.frozen 6; simp only [spC, List.getElem?_cons_zero, List.getElem?_cons_succ] at q3 q6))))
            go_ret
            have HSX := ((HS4.out.up ((Below.refl _ _).alloc (Nat.le_refl _) (.cells #[.string y] 9))).push hg5 ho5).setMany 1
            have hb5 : Below w0.heap.size w0 w5 := (hB4.alloc (by omega) _).trans (grown_base hg5 (by simp; omega) (fun k hk => (HS4.out.path.blk hk).1))
            rw [e1.out]
            exact ⟨rfl, ⟨V, P ++ [y], _, _, m, A5, c5, HSX, EndS.hit V P V _ _⟩, (hb5.setCell (p := ⟨p, 3, none⟩) HLO.out _).setCell (p := ⟨p, 6, none⟩) HLO.out _⟩
          · have hkI : ¬ kx = 0 := by rw [HKX.out]; exact fun q => hx0 (HZ.out.1 q)
            have hkI2 : ¬ (kx : Int) = 0 := by omega
            have e1 := Lib.hid (show srchL (recOf n W d) n (decide (d = 0)) r V P (W.drop j) q = srchL (recOf n W d) n (decide (d = 0)) r V P (W.drop (j + 1)) q' by
              rw [HD.out, HQ.out, srchL_skip (fun q => hx0 (by rw [HX.out]; exact q.2)) (.inl HFU.out)])
            clear hx0
            go_wp2
            go_roundw
            case rel => exact ⟨j + 1, q', m, AP, cP, by omega, by go_num, by have := HQ.out; omega, Lib.hid (by rw [← HQC.out]; exact HS4.out), Lib.hid (by rw [← e1.out]; exact HE.out), hB4⟩
            case measure => simp [intOf]; omega
        · have hfull : ((P.length : Int) == (fact n : Int) - 1) = false := beq_eq_false_iff_ne.2 (by have := HPV.out; omega)
          go_wp2
          go_quiet (fail)
          have HS4 := Lib.hid (HS3.out.drewN nq)
          have hB4 := below_drewN hB3 nq
          obtain ⟨w4, hw4⟩ : ∃ u, u = w3.drewN nq := ⟨_, rfl⟩
          rw [← hw4] at HS4 hB4 ⊢
          clear hw4 k3 k5 HS3 hB3 HS2 hB2 hb3 hb2
          have k2 := HS4.out.blk.cell 2
          simp only [spC, List.getElem?_cons_zero, List.getElem?_cons_succ] at k2
          have hcm := HS4.out.mark.at_ HXN.out
          rw [← HKX.out] at hcm
          obtain ⟨g', e, _, _, gc, gf⟩ := HS4.out.marks.at_ (fact_pos n)
          injection e with e
          injection e with e
          subst e
          have cm := gc kx _ 0 _ hcm rfl
          have fm := gf kx
          simp only [Nat.mul_one, Nat.add_zero] at cm
          clear gc gf hcm
          rcases hin : inL V x
          · rw [hin] at cm
            obtain ⟨d', hd'⟩ : ∃ d', d = d' + 1 := ⟨d - 1, by omega⟩
            have HIN := Lib.hid hin
            have HDF := Lib.hid (decide_eq_false hd)
            have hm4 := HS4.out.marked (v := true) HXN.out (HS4.out.mark.add HXN.out)
            rw [← HKX.out] at hm4
            have HM4 := Lib.hid hm4
            have hpg : ¬ p = gs := HS4.out.ne
            have hgp : ¬ gs = p := fun e => hpg e.symm
            have k3 := HS4.out.blk.cell 3
            simp only [spC, List.getElem?_cons_zero, List.getElem?_cons_succ] at k3
            have hgl := HS4.out.marks.at_own.1
            have HGL := Lib.hid hgl
            have HLO := Lib.hid HS4.out.lo
            have hB5 : Below w0.heap.size w0 (w4.setCell ⟨gs, kx, none⟩ (.bool true)) := hB4.setCell (p := ⟨gs, kx, none⟩) hgl _
            have HB5 := Lib.hid hB5
            have hs5 := hB5.size
            have hRD : recOf n W d = srch n W d' := by subst hd'; rfl
            have HRD := Lib.hid hRD
            have hVN := HV.out.snoc HXN.out hin
            have HVN := Lib.hid hVN
            have hPl : (P ++ [y]).length = P.length + 1 := by simp
            have hVl : (V ++ [x]).length = V.length + 1 := by simp
            have HPL := Lib.hid hPl
            have HVL := Lib.hid hVl
            have HQQ := Lib.hid (show q' ≤ 1000000 by have := HQ.out; omega)
            have HDD := Lib.hid hd'
            clear hin hd hd' hm4 hgl hB5 hRD hVN hPl hVl
            go_wp2_with (first | (at_builtin; go_must ((refine wpList_append_recs Try.elStr strE_one rfl (.tmp 89) (.tmp 91) rfl rfl (HM4.out.path.alloc _) rfl (own_lit1_at' strE_len (w4.setCell ⟨gs, kx, none⟩ (.bool true)) 9 y (b := w4.heap.size) (by simp) (Nat.le_refl _)).recs rfl ?_ (by decide) ?_ ?_; (focus (first | omega | (simp only [World.size_alloc]; done) | (simp only [World.size_alloc]; omega) | (simp; done) | (simp; omega))); (focus (first | omega | (simp only [World.size_alloc]; done) | (simp only [World.size_alloc]; omega) | (simp; done) | (simp; omega))); intro A6 c6 w6 ho6 hg6 hl6; have KB6 := (HM4.out.blk.alloc (.cells #[.string y] 9)).grown hg6 (fun e => HM4.out.nep p e.symm rfl); have q3 := KB6.cell 3; have g3 := KB6.frozen 3; simp only [spC, List.getElem?_cons_zero, List.getElem?_cons_succ] at q3))))
            have hs6 := (HM4.out.up ((Below.refl _ _).alloc (Nat.le_refl _) (.cells #[.string y] 9))).push hg6 ho6
            rw [HQC.out] at hs6
            have hb6 : Below w0.heap.size w0 w6 := (HB5.out.alloc (by have := HB5.out.size; exact this) _).trans (grown_base hg6 (by simp; have := HB5.out.size; simp at this; omega) (fun k hk => (HM4.out.path.blk hk).1))
            have hb6' := hb6.setCell (p := ⟨p, 3, none⟩) HLO.out (.slice A6 (P.length + 1) c6)
            refine (IH.out d' HDD.out (r := x) (V := V ++ [x]) (P := P ++ [y]) (left := q') HXN.out HVN.out (by rw [HVL.out]; have := HDD.out; omega) (by rw [HPL.out, HVL.out]; have := HPV.out; omega) HQQ.out hs6 hb6').mono ?_
            rintro e w7 ⟨rfl, ⟨V', P', l', mn', m', AP', cP', HS7, HE7⟩, hB7⟩
            clear q3 g3 hs6 hb6 hb6' KB6 ho6 hg6 hl6 k3 k2 cm fm hs5
            rcases hf : srch n W d' x (V ++ [x]) (P ++ [y]) q' with o | l
            · have e1 := Lib.hid (show srch n W d r V P left = .inl o by
                rw [HE.out, HD.out, HQ.out, srchL_in_end HDF.out (by rw [← HX.out]; exact HIN.out) (by rw [HRD.out, ← HX.out]; exact hf)])
              rw [hf] at HE7
              have hl : Sum.isLeft (Sum.inl o : Fate) = true := rfl
              rw [hl]
              go_wp2
              go_ret
              rw [e1.out]
              exact ⟨rfl, ⟨V', P', l', mn', m', AP', cP', HS7, HE7.of_end rfl⟩, hB7⟩
            · rw [hf] at HE7
              obtain ⟨rfl, rfl, rfl, rfl⟩ := HE7.1 l rfl
              have hle := srch_le n W d' x (V ++ [x]) (P ++ [y]) q' l hf
              have e1 := Lib.hid (show srch n W d r V P left = srchL (recOf n W d) n (decide (d = 0)) r V P (W.drop (j + 1)) l by
                rw [HE.out, HD.out, HQ.out, srchL_in_go HDF.out (by rw [← HX.out]; exact HIN.out) (by rw [HRD.out, ← HX.out]; exact hf)])
              have hl : Sum.isLeft (Sum.inr l : Fate) = false := rfl
              rw [hl]
              have HS8 := Lib.hid HS7.pop
              have HB8 := Lib.hid (hB7.setCell (p := ⟨p, 3, none⟩) HLO.out (.slice AP' P.length cP'))
              have k3 := HS7.blk.cell 3; have f3 := HS7.blk.frozen 3; have k2 := HS7.blk.cell 2
              simp only [spC, List.getElem?_cons_zero, List.getElem?_cons_succ] at k3 k2
              obtain ⟨g7, rfl, _, _, _, _⟩ := HS7.path.at_ (by rw [HPL.out]; omega)
              have hcap := HS7.path.cap
              rw [HPL.out] at k3 hcap
              have hq2 := HQQ.out
              clear HS7 HE7 hf hl
              obtain ⟨M, hM⟩ : ∃ M, M = P.length + 1 := ⟨_, rfl⟩
              rw [← hM] at k3 hcap
              have hw : IntKind.i64.wrap ((M : Int) - 1) = (P.length : Int) := by rw [wrap_id (by omega)]; omega
              have hPc : P.length ≤ cP' := by omega
              have hPcI : (P.length : Int) ≤ (cP' : Int) := by omega
              clear hM
              go_wp2
              go_region
              have HS9 := Lib.hid (HS8.out.up (Below.drew (Below.refl _ _)))
              have HB9 := Lib.hid (Below.drew HB8.out)
              clear k3 f3 k2 hw
              obtain ⟨w9, hw9⟩ : ∃ u, u = (w7.setCell ⟨p, 3, none⟩ (.slice (some ⟨g7, 0, none⟩) P.length cP')).drew := ⟨_, rfl⟩
              rw [← hw9] at HS9 HB9 ⊢
              clear hw9 HS8 HB8
              have k2 := HS9.out.blk.cell 2
              simp only [spC, List.getElem?_cons_zero, List.getElem?_cons_succ] at k2
              have hold := HS9.out.mark.2 x HXN.out
              rw [← HKX.out] at hold
              obtain ⟨g', e, _, _, gc, gf⟩ := HS9.out.marks.at_ (fact_pos n)
              injection e with e
              injection e with e
              subst e
              have cm := gc kx _ 0 _ hold rfl
              have fm := gf kx
              simp only [Nat.mul_one, Nat.add_zero] at cm
              have hm9 := HS9.out.marked (v := false) HXN.out (HS9.out.mark.del HXN.out HIN.out)
              rw [← HKX.out] at hm9
              have HM9 := Lib.hid hm9
              have HB10 := Lib.hid (HB9.out.setCell (p := ⟨gs, kx, none⟩) HGL.out (.bool false))
              clear gc gf hold hm9
              go_wp2
              go_roundw
              case rel => exact ⟨j + 1, l, _, _, _, by omega, by go_num, by omega, HM9, Lib.hid (by rw [e1.out]), HB10.out⟩
              case measure => simp [intOf]; omega
          · rw [hin] at cm
            have e1 := Lib.hid (show srchL (recOf n W d) n (decide (d = 0)) r V P (W.drop j) q = srchL (recOf n W d) n (decide (d = 0)) r V P (W.drop (j + 1)) q' by
              rw [HD.out, HQ.out, srchL_skip (by rw [decide_eq_false hd]; simp) (.inr (by rw [← HX.out]; exact hin))])
            clear hin
            go_wp2
            go_roundw
            case rel => exact ⟨j + 1, q', m, AP, cP, by omega, by go_num, by have := HQ.out; omega, Lib.hid (by rw [← HQC.out]; exact HS4.out), Lib.hid (by rw [← e1.out]; exact HE.out), hB4⟩
            case measure => simp [intOf]; omega
    · obtain rfl : j = W.length := by omega
      have e1 := Lib.hid (show srch n W d r V P left = .inr q by rw [HE.out, List.drop_eq_nil_of_le (Nat.le_refl _), srchL])
      go_wp2
      go_ret
      rw [e1.out]
      exact ⟨rfl, ⟨V, P, _, _, m, AP, cP, HS.out, EndS.go V P q⟩, hB⟩
end Go.Proofs.Ytpccbmndgdiloaa
/- The walk through the count of extents, the reference's side. -/
namespace Go.Proofs.Ytpccbmndgdiloaa
set_option linter.unusedVariables false
set_option linter.unusedSimpArgs false
open Go.ChangeShapes Go.WideShapes Go.ChangeAt Go.RowKit Go.Deep
def recCt (n : Nat) (W : List ByteArray) (d : Nat) : ByteArray → List ByteArray → Nat := match d with | 0 => fun _ _ => 0 | d + 1 => cntX n W d
theorem cntX_recCt (n : Nat) (W : List ByteArray) (d : Nat) (r : ByteArray) (V : List ByteArray) : cntX n W d r V = cntL (recCt n W d) n (decide (d = 0)) r V W := by
  cases d <;> rfl
section
variable {rec : ByteArray → List ByteArray → Nat} {n : Nat} {full : Bool} {r c : ByteArray} {V cs : List ByteArray}
theorem cntL_hit (h : full = true) (h2 : applyR r c = roundsS n) : cntL rec n full r V (c :: cs) = 1 + cntL rec n full r V cs := by rw [cntL, if_pos h, if_pos (decide_eq_true h2)]
theorem cntL_full (h : full = true) (h2 : ¬ applyR r c = roundsS n) : cntL rec n full r V (c :: cs) = cntL rec n full r V cs := by rw [cntL, if_pos h, if_neg (by rw [decide_eq_false h2]; simp), Nat.zero_add]
theorem cntL_seen (h : full = false) (h2 : inL V (applyR r c) = true) : cntL rec n full r V (c :: cs) = cntL rec n full r V cs := by rw [cntL, if_neg (by rw [h]; simp), if_pos h2]
theorem cntL_in (h : full = false) (h2 : inL V (applyR r c) = false) : cntL rec n full r V (c :: cs) = rec (applyR r c) (V ++ [applyR r c]) + cntL rec n full r V cs := by rw [cntL, if_neg (by rw [h]; simp), if_neg (by rw [h2]; simp)]
end
end Go.Proofs.Ytpccbmndgdiloaa
/- A map to strings or to ints that the call has made, as a plain function of the key. -/
namespace Go.Proofs.Ytpccbmndgdiloaa
set_option linter.unusedVariables false
set_option linter.unusedSimpArgs false
open Go.ChangeShapes Go.WideShapes Go.ChangeAt Go.RowKit Go.Deep
open Go.Maps (Keyed)

/-- Block b is a map of at most n entries that reads as f. -/
def MapTo {α : Type} (en : α → Value) (li : α → Lit) (z : α) (P : Program) (w : World) (k e : TypeId) (b n : Nat) (f : Value → α) : Prop :=
  ∃ D : DataW Unit, w.ownsMap P k (plainElem P e) b n D ∧ ∀ key kl, keyOf P k key = some kl → D.atKey kl (.lit (li z)) = .lit (li (f key))
section
variable {α : Type} {en : α → Value} {li : α → Lit} {z : α} {P : Program} {w w' : World} {k e : TypeId} {b n : Nat} {f : Value → α}
theorem MapTo.made (en : α → Value) (li : α → Lit) (z : α) (P : Program) (w : World) (k e : TypeId) : MapTo en li z P (w.alloc (.map #[] 0)) k e w.heap.size 0 (fun _ => z) :=
  ⟨.map [], World.ownsMap_made w P k _, fun key kl _ => rfl⟩
theorem MapTo.lt (h : MapTo en li z P w k e b n f) : b < w.heap.size := by
  obtain ⟨D, h1, _⟩ := h
  exact h1.lt
theorem MapTo.kept {row : Option Nat} (h : MapTo en li z P w k e b n f) (hg : w.grownBy w' row) (hne : some b ≠ row) : MapTo en li z P w' k e b n f := by
  obtain ⟨D, h1, h2⟩ := h
  exact ⟨D, h1.kept hg hne, h2⟩
theorem MapTo.up (h : MapTo en li z P w k e b n f) (hb : Below w.heap.size w w') : MapTo en li z P w' k e b n f := h.kept (grown_of_below hb) (by simp)
theorem MapTo.alloc (h : MapTo en li z P w k e b n f) (o : Obj) : MapTo en li z P (w.alloc o) k e b n f := h.up ((Below.refl _ _).alloc (Nat.le_refl _) o)
theorem MapTo.drew (h : MapTo en li z P w k e b n f) : MapTo en li z P w.drew k e b n f := h.up (Below.refl _ _).drew
theorem MapTo.look {t : TypeId} (h : MapTo en li z P w k e b n f) (K : Keyed P k) (ht : P.underlying t = some (.map k e)) (hz : (zeroValue e).run P w = .ok (en z) w) (hzd : plainElem (H := Unit) P e (en z) = some (.lit (li z), [])) (hin : ∀ v x ps, plainElem (H := Unit) P e v = some (.lit (li x), ps) → v = en x)
    {key : Value} {kl : Lit} (hkey : keyOf P k key = some kl) : (Instr.lookup t (.map (some b)) key false).run P w = .ok (en (f key)) w := by
  obtain ⟨D, h1, h2⟩ := h
  obtain ⟨v, ps, hrun, hv⟩ := h1.lookup K ht hz hzd hkey
  rw [h2 key kl hkey] at hv
  rw [hrun, hin _ _ _ hv]
end
theorem MapTo.put {α : Type} {en : α → Value} {li : α → Lit} {z : α} {P : Program} {W : World} {t k e : TypeId} (K : Keyed P k) (ht : P.underlying t = some (.map k e)) {b n : Nat} {f : Value → α} (h : MapTo en li z P W k e b n f) (hn : n ≤ 16777216) {key : Value} {x : α}
    {kl : Lit} (hkey : keyOf P k key = some kl) (hpe : plainElem (H := Unit) P e (en x) = some (.lit (li x), [])) : ∃ w', (Instr.mapUpdate t (.map (some b)) key (en x)).run P W = .ok () w' ∧ (∀ g : Value → α, g key = x → (∀ q, q ≠ key → g q = f q) → MapTo en li z P w' k e b (n + 1) g) ∧ W.grownBy w' (some b) := by
  obtain ⟨D, h1, h2⟩ := h
  obtain ⟨w', hrun, hown, hg⟩ := h1.update K ht (by unfold maxLen; omega) hkey hpe
  refine ⟨w', hrun, fun g g1 g2 => ⟨_, hown, fun key' kl' hk' => ?_⟩, hg⟩
  by_cases ek : kl' = kl
  · subst ek
    have e1 : key' = key := K.inj hk' hkey
    subst e1
    rw [Maps.atKey_put_same h1.isMap (K.key hkey), g1]
  · have e1 : key' ≠ key := fun e2 => ek (by rw [e2, hkey] at hk'; injection hk' with hk'; exact hk'.symm)
    rw [Maps.atKey_put_other ek, g2 _ e1]
    exact h2 key' kl' hk'
theorem wp_map_put {α : Type} {en : α → Value} {li : α → Lit} {z : α} {P : Program} {o : Oper} {a : Act} {K' : Act → World → Prop} {Q : Exit → Act → World → Prop} {W : World} (M X V : Operand) (t : TypeId) (hop : o.op = Op.mapUpdate t M X V)
    {k e : TypeId} (K : Keyed P k) (ht : P.underlying t = some (.map k e)) {b n : Nat} {f : Value → α} (hm : a.eval M = .map (some b)) (h : MapTo en li z P W k e b n f) (hn : n ≤ 16777216) {key : Value} (hx : a.eval X = key) {x : α} (hv : a.eval V = en x)
    {kl : Lit} (hkey : keyOf P k key = some kl) (hpe : plainElem (H := Unit) P e (en x) = some (.lit (li x), [])) (hK : ∀ w', (∀ g : Value → α, g key = x → (∀ q, q ≠ key → g q = f q) → MapTo en li z P w' k e b (n + 1) g) → W.grownBy w' (some b) → K' (a.put o.dst undef) w') : o.wp P a W K' Q := by
  obtain ⟨w', hrun, r1, r2⟩ := h.put K ht hn hkey hpe
  unfold Oper.wp
  simp [execOp, hop, hm, hx, hv, hrun, Result.andThen]
  exact hK w' r1 r2
theorem wpList_map_put {α : Type} {en : α → Value} {li : α → Lit} {z : α} {P : Program} {ops : Array Oper} {rest : List Oper} {o : Oper} {a : Act} {Q : Exit → Act → World → Prop} {W : World} (hgd : o.guard = none) (M X V : Operand) (t : TypeId) (hop : o.op = Op.mapUpdate t M X V)
    {k e : TypeId} (K : Keyed P k) (ht : P.underlying t = some (.map k e)) {b n : Nat} {f : Value → α} (hm : a.eval M = .map (some b)) (h : MapTo en li z P W k e b n f) (hn : n ≤ 16777216) {key : Value} (hx : a.eval X = key) {x : α} (hv : a.eval V = en x)
    {kl : Lit} (hkey : keyOf P k key = some kl) (hpe : plainElem (H := Unit) P e (en x) = some (.lit (li x), [])) (hK : ∀ w', (∀ g : Value → α, g key = x → (∀ q, q ≠ key → g q = f q) → MapTo en li z P w' k e b (n + 1) g) → W.grownBy w' (some b) → wpList P ops Q rest (a.put o.dst undef) w') : wpList P ops Q (o :: rest) a W := by
  refine wpList_plain hgd fun K' hK' => wp_map_put M X V t hop K ht hm h hn hx hv hkey hpe fun w' r1 r2 => hK' _ _ (hK w' r1 r2)
theorem step_map_put {α : Type} {en : α → Value} {li : α → Lit} {z : α} {P : Program} {ops : Array Oper} {o : Oper} {a : Act} {K' : Act → World → Prop} {Q : Exit → Act → World → Prop} {E' : Prop} {W : World} (hgd : o.guard = none) (M X V : Operand) (t : TypeId) (hop : o.op = Op.mapUpdate t M X V)
    {k e : TypeId} (K : Keyed P k) (ht : P.underlying t = some (.map k e)) {b n : Nat} {f : Value → α} (hm : a.eval M = .map (some b)) (h : MapTo en li z P W k e b n f) (hn : n ≤ 16777216) {key : Value} (hx : a.eval X = key) {x : α} (hv : a.eval V = en x)
    {kl : Lit} (hkey : keyOf P k key = some kl) (hpe : plainElem (H := Unit) P e (en x) = some (.lit (li x), [])) (hK : ∀ w', (∀ g : Value → α, g key = x → (∀ q, q ≠ key → g q = f q) → MapTo en li z P w' k e b (n + 1) g) → W.grownBy w' (some b) → K' (a.put o.dst undef) w') :
    if Region.wanted o (yielded ops a.tmps) = true then Oper.wp P o a W K' Q else E' := by
  have hw : Region.wanted o (yielded ops a.tmps) = true := by simp [Region.wanted, hgd]
  rw [if_pos hw]
  exact wp_map_put M X V t hop K ht hm h hn hx hv hkey hpe hK
theorem wp_map_ins {α : Type} {en : α → Value} {li : α → Lit} {z : α} {P : Program} {o : Oper} {a : Act} {K' : Act → World → Prop} {Q : Exit → Act → World → Prop} {W : World} (M X V : Operand) (t : TypeId) (hop : o.op = Op.insert t M X V)
    {k e : TypeId} (K : Keyed P k) (ht : P.underlying t = some (.map k e)) {b n : Nat} {f : Value → α} (hm : a.eval M = .map (some b)) (h : MapTo en li z P W k e b n f) (hn : n ≤ 16777216) {key : Value} (hx : a.eval X = key) {x : α} (hv : a.eval V = en x)
    {kl : Lit} (hkey : keyOf P k key = some kl) (hpe : plainElem (H := Unit) P e (en x) = some (.lit (li x), [])) (hK : ∀ w', (∀ g : Value → α, g key = x → (∀ q, q ≠ key → g q = f q) → MapTo en li z P w' k e b (n + 1) g) → W.grownBy w' (some b) → K' (a.put o.dst undef) w') : o.wp P a W K' Q := by
  obtain ⟨w', hrun, r1, r2⟩ := h.put K ht hn hkey hpe
  unfold Oper.wp
  simp [execOp, hop, hm, hx, hv, hrun, Result.andThen]
  exact hK w' r1 r2
theorem step_map_ins {α : Type} {en : α → Value} {li : α → Lit} {z : α} {P : Program} {ops : Array Oper} {o : Oper} {a : Act} {K' : Act → World → Prop} {Q : Exit → Act → World → Prop} {E' : Prop} {W : World} (hgd : o.guard = none) (M X V : Operand) (t : TypeId) (hop : o.op = Op.insert t M X V)
    {k e : TypeId} (K : Keyed P k) (ht : P.underlying t = some (.map k e)) {b n : Nat} {f : Value → α} (hm : a.eval M = .map (some b)) (h : MapTo en li z P W k e b n f) (hn : n ≤ 16777216) {key : Value} (hx : a.eval X = key) {x : α} (hv : a.eval V = en x)
    {kl : Lit} (hkey : keyOf P k key = some kl) (hpe : plainElem (H := Unit) P e (en x) = some (.lit (li x), [])) (hK : ∀ w', (∀ g : Value → α, g key = x → (∀ q, q ≠ key → g q = f q) → MapTo en li z P w' k e b (n + 1) g) → W.grownBy w' (some b) → K' (a.put o.dst undef) w') :
    if Region.wanted o (yielded ops a.tmps) = true then Oper.wp P o a W K' Q else E' := by
  have hw : Region.wanted o (yielded ops a.tmps) = true := by simp [Region.wanted, hgd]
  rw [if_pos hw]
  exact wp_map_ins M X V t hop K ht hm h hn hx hv hkey hpe hK
/-- The bound on a map's size is the length of what it reads as. -/
theorem ownsMap_tight {H : Type} {P : Program} {w : World} {k : TypeId} {R : Value → Option (DataW H × List MemPlace)} {b n m : Nat} {l : List (Lit × DataW H)} (h : w.ownsMap P k R b n (.map l)) (hm : l.length ≤ m) : w.ownsMap P k R b m (.map l) := by
  obtain ⟨es, clock, hb, F, hs, hD⟩ := h
  refine ⟨es, clock, hb, F, ?_, hD⟩
  injection hD with hD
  have e1 := congrArg List.length hD
  rw [length_sorted] at e1
  simp at e1
  omega
/-- The world behind 'm[key] = v'. -/
def putW (P : Program) (t : TypeId) (b : Nat) (key v : Value) (u : World) : World :=
  match (Instr.mapUpdate t (.map (some b)) key v).run P u with
  | .ok _ w' => w'
  | _ => u
theorem putW_eq {P : Program} {t : TypeId} {b : Nat} {key v : Value} {u w' : World} (h : (Instr.mapUpdate t (.map (some b)) key v).run P u = .ok () w') : putW P t b key v u = w' := by
  rw [putW, h]
/-! strings -/
def sLi (s : ByteArray) : Lit := .string s.data.toList
theorem ba_ext {s t : ByteArray} (h : s.data.toList = t.data.toList) : s = t := by
  cases s; cases t
  simp only [ByteArray.mk.injEq]
  exact Array.ext' h
theorem sLi_pe {P : Program} {e : TypeId} (he : P.underlying e = some .string) {s : ByteArray} (hs : s.size ≤ 16777216) : plainElem (H := Unit) P e (.string s) = some (.lit (sLi s), []) := plainElem_string he (by unfold maxLen; omega)
theorem sLi_in {P : Program} {e : TypeId} (he : P.underlying e = some .string) (v : Value) (x : ByteArray) (ps : List MemPlace) (h : plainElem (H := Unit) P e v = some (.lit (sLi x), ps)) : v = .string x := by
  obtain ⟨s, rfl, hz, _⟩ := plainElem_string_inv he h
  simp only [Prod.mk.injEq, DataW.lit.injEq, sLi, Lit.string.injEq] at hz
  rw [ba_ext hz.1]
/-! ints -/
theorem lit_i64 {x : Int} (h : I64 x) : (Lit.int .i64 x).wf = true := by
  simp only [Lit.wf, Bool.and_eq_true, decide_eq_true_eq]
  exact h
def iLi (i : Int) : Lit := .int .i64 i
theorem iLi_pe {P : Program} {e : TypeId} (he : P.underlying e = some (.int .i64)) {i : Int} (hi : I64 i) : plainElem (H := Unit) P e (.int .i64 i) = some (.lit (iLi i), []) := plainElem_int he (lit_i64 hi)
theorem iLi_in {P : Program} {e : TypeId} (he : P.underlying e = some (.int .i64)) (v : Value) (x : Int) (ps : List MemPlace) (h : plainElem (H := Unit) P e v = some (.lit (iLi x), ps)) : v = .int .i64 x := by
  obtain ⟨s, rfl, hz, _⟩ := plainElem_int_inv he h
  simp only [Prod.mk.injEq, DataW.lit.injEq, iLi, Lit.int.injEq] at hz
  rw [hz.1.2]
end Go.Proofs.Ytpccbmndgdiloaa
/- A map that the call has made, exactly: a plain partial function of the key, and how many entries it has. -/
namespace Go.Proofs.Ytpccbmndgdiloaa
set_option linter.unusedVariables false
set_option linter.unusedSimpArgs false
open Go.ChangeShapes Go.WideShapes Go.ChangeAt Go.RowKit Go.Deep
open Go.Maps (Keyed)

/-- Block b is a map of m entries: f, key by key. -/
def MapX {α : Type} (en : α → Value) (li : α → Lit) (P : Program) (w : World) (k e : TypeId) (b m : Nat) (f : Value → Option α) : Prop :=
  ∃ D : DataW Unit, w.ownsMap P k (plainElem P e) b m D ∧ Maps.size D = m ∧ ∀ key kl, keyOf P k key = some kl → (f key = none → Maps.has D kl = false ∧ ∀ z, D.atKey kl z = z) ∧ ∀ x, f key = some x → Maps.has D kl = true ∧ ∀ z, D.atKey kl z = .lit (li x)
section
variable {α : Type} {en : α → Value} {li : α → Lit} {P : Program} {w w' : World} {k e : TypeId} {b m : Nat} {f : Value → Option α}
theorem MapX.made (en : α → Value) (li : α → Lit) (P : Program) (w : World) (k e : TypeId) : MapX en li P (w.alloc (.map #[] 0)) k e w.heap.size 0 (fun _ => none) :=
  ⟨.map [], World.ownsMap_made w P k _, rfl, fun key kl _ => ⟨fun _ => ⟨rfl, fun _ => rfl⟩, fun x hx => by cases hx⟩⟩
theorem MapX.made_at (en : α → Value) (li : α → Lit) (P : Program) (w : World) (k e : TypeId) {b : Nat} (h : b = w.heap.size) : MapX en li P (w.alloc (.map #[] 0)) k e b 0 (fun _ => none) := by
  subst h
  exact MapX.made en li P w k e
theorem MapX.lt (h : MapX en li P w k e b m f) : b < w.heap.size := by
  obtain ⟨D, h1, _⟩ := h
  exact h1.lt
theorem MapX.kept {row : Option Nat} (h : MapX en li P w k e b m f) (hg : w.grownBy w' row) (hne : some b ≠ row) : MapX en li P w' k e b m f := by
  obtain ⟨D, h1, h2⟩ := h
  exact ⟨D, h1.kept hg hne, h2⟩
theorem MapX.up (h : MapX en li P w k e b m f) (hb : Below w.heap.size w w') : MapX en li P w' k e b m f := h.kept (grown_of_below hb) (by simp)
theorem MapX.alloc (h : MapX en li P w k e b m f) (o : Obj) : MapX en li P (w.alloc o) k e b m f := h.up ((Below.refl _ _).alloc (Nat.le_refl _) o)
theorem MapX.drew (h : MapX en li P w k e b m f) : MapX en li P w.drew k e b m f := h.up (Below.refl _ _).drew
theorem MapX.as {m' : Nat} {f' : Value → Option α} (h : MapX en li P w k e b m f) (hm : m = m') (hf : ∀ q, f q = f' q) : MapX en li P w k e b m' f' := by
  have e1 : f = f' := funext hf
  subst hm e1
  exact h
theorem MapX.look {t : TypeId} {z : α} (h : MapX en li P w k e b m f) (K : Keyed P k) (ht : P.underlying t = some (.map k e)) (hz : (zeroValue e).run P w = .ok (en z) w) (hzd : plainElem (H := Unit) P e (en z) = some (.lit (li z), [])) (hin : ∀ v x ps, plainElem (H := Unit) P e v = some (.lit (li x), ps) → v = en x)
    {key : Value} {kl : Lit} (hkey : keyOf P k key = some kl) : (Instr.lookup t (.map (some b)) key false).run P w = .ok (en ((f key).getD z)) w := by
  obtain ⟨D, h1, _, h2⟩ := h
  obtain ⟨v, ps, hrun, hv⟩ := h1.lookup K ht hz hzd hkey
  obtain ⟨a1, a2⟩ := h2 key kl hkey
  rcases hf : f key with _ | x
  · rw [(a1 hf).2] at hv
    rw [hrun, hin _ _ _ hv]; rfl
  · rw [(a2 x hf).2] at hv
    rw [hrun, hin _ _ _ hv]; rfl
theorem MapX.look_ok {t : TypeId} {z : α} (h : MapX en li P w k e b m f) (K : Keyed P k) (ht : P.underlying t = some (.map k e)) (hz : (zeroValue e).run P w = .ok (en z) w) (hzd : plainElem (H := Unit) P e (en z) = some (.lit (li z), [])) (hin : ∀ v x ps, plainElem (H := Unit) P e v = some (.lit (li x), ps) → v = en x)
    {key : Value} {kl : Lit} (hkey : keyOf P k key = some kl) : (Instr.lookup t (.map (some b)) key true).run P w = .ok (.tuple #[en ((f key).getD z), .bool (f key).isSome]) w := by
  obtain ⟨D, h1, _, h2⟩ := h
  obtain ⟨v, ps, hrun, hv⟩ := h1.look_ok K ht hz hzd hkey
  obtain ⟨a1, a2⟩ := h2 key kl hkey
  rcases hf : f key with _ | x
  · rw [(a1 hf).2] at hv
    rw [hrun, hin _ _ _ hv, (a1 hf).1]; rfl
  · rw [(a2 x hf).2] at hv
    rw [hrun, hin _ _ _ hv, (a2 x hf).1]; rfl
theorem MapX.len {t : TypeId} (h : MapX en li P w k e b m f) (ht : P.underlying t = some (.map k e)) (ty : TypeId) : (Builtin.len_ #[t] ty #[.map (some b)]).run P w = .ok (.int .i64 m) w := by
  obtain ⟨D, h1, h3, _⟩ := h
  rw [h1.len ht ty, h3]
theorem ownsMap_tight2 {H : Type} {R : Value → Option (DataW H × List MemPlace)} {n : Nat} {D : DataW H} (h : w.ownsMap P k R b n D) : w.ownsMap P k R b (Maps.size D) D := by
  have hm := h.isMap
  cases D with
  | map l => exact ownsMap_tight h (Nat.le_of_eq rfl)
  | _ => exact absurd hm (by simp [Maps.IsMap])
theorem MapX.put {t : TypeId} (K : Keyed P k) (ht : P.underlying t = some (.map k e)) (h : MapX en li P w k e b m f) (hn : m ≤ 16777216) {key : Value} {x : α}
    {kl : Lit} (hkey : keyOf P k key = some kl) (hpe : plainElem (H := Unit) P e (en x) = some (.lit (li x), [])) : ∃ w', (Instr.mapUpdate t (.map (some b)) key (en x)).run P w = .ok () w' ∧ (∀ (m' : Nat) (g : Value → Option α), m' = (if (f key).isSome then m else m + 1) → g key = some x → (∀ q, q ≠ key → g q = f q) → MapX en li P w' k e b m' g) ∧ w.grownBy w' (some b) := by
  obtain ⟨D, h1, h3, h2⟩ := h
  obtain ⟨w', hrun, hown, hg⟩ := h1.update K ht (by unfold maxLen; omega) hkey hpe
  refine ⟨w', hrun, fun m' g hm' g1 g2 => ?_, hg⟩
  have e0 : Maps.size (D.put kl (.lit (li x))) = m' := by
    rw [Maps.size_put (h1.tidy K), h3, hm']
    obtain ⟨a1, a2⟩ := h2 key kl hkey
    rcases hf : f key with _ | y
    · rw [(a1 hf).1]; simp
    · rw [(a2 y hf).1]; simp
  refine ⟨_, e0 ▸ ownsMap_tight2 hown, e0, fun key' kl' hk' => ?_⟩
  by_cases ek : kl' = kl
  · subst ek
    have e1 : key' = key := K.inj hk' hkey
    subst e1
    rw [g1]
    refine ⟨fun q => (by cases q), fun y hy => ?_⟩
    injection hy with hy
    subst hy
    exact ⟨Maps.has_put_same h1.isMap (K.key hkey) _, fun z => Maps.atKey_put_same h1.isMap (K.key hkey) _ _⟩
  · have e1 : key' ≠ key := fun e2 => ek (by rw [e2, hkey] at hk'; injection hk' with hk'; exact hk'.symm)
    rw [g2 _ e1, Maps.has_put_other ek]
    obtain ⟨a1, a2⟩ := h2 key' kl' hk'
    exact ⟨fun q => ⟨(a1 q).1, fun z => by rw [Maps.atKey_put_other ek]; exact (a1 q).2 z⟩, fun y q => ⟨(a2 y q).1, fun z => by rw [Maps.atKey_put_other ek]; exact (a2 y q).2 z⟩⟩
theorem MapX.drop {t : TypeId} (K : Keyed P k) (ht : P.underlying t = some (.map k e)) (h : MapX en li P w k e b m f) {key : Value}
    {kl : Lit} (hkey : keyOf P k key = some kl) (ty : TypeId) : ∃ w', (Builtin.delete_ #[t, k] ty #[.map (some b), key]).run P w = .ok (.tuple #[]) w' ∧ (∀ (m' : Nat) (g : Value → Option α), m' + (if (f key).isSome then 1 else 0) = m → g key = none → (∀ q, q ≠ key → g q = f q) → MapX en li P w' k e b m' g) ∧ w.grownBy w' (some b) := by
  obtain ⟨D, h1, h3, h2⟩ := h
  obtain ⟨w', hrun, hown, hg⟩ := h1.drop K ht hkey ty
  refine ⟨w', hrun, fun m' g hm' g1 g2 => ?_, hg.grown⟩
  have e0 : Maps.size (D.del kl) = m' := by
    have e9 := Maps.size_del (k := kl) (h1.tidy K)
    rw [h3, ← hm'] at e9
    obtain ⟨a1, a2⟩ := h2 key kl hkey
    rcases hf : f key with _ | y
    · rw [(a1 hf).1, hf] at e9; simp at e9; omega
    · rw [(a2 y hf).1, hf] at e9; simp at e9; omega
  refine ⟨_, e0 ▸ ownsMap_tight2 hown, e0, fun key' kl' hk' => ?_⟩
  by_cases ek : kl' = kl
  · subst ek
    have e1 : key' = key := K.inj hk' hkey
    subst e1
    rw [g1]
    exact ⟨fun _ => ⟨Maps.has_del_same, fun z => Maps.atKey_del_same _⟩, fun y hy => (by cases hy)⟩
  · have e1 : key' ≠ key := fun e2 => ek (by rw [e2, hkey] at hk'; injection hk' with hk'; exact hk'.symm)
    rw [g2 _ e1, Maps.has_del_other ek]
    obtain ⟨a1, a2⟩ := h2 key' kl' hk'
    exact ⟨fun q => ⟨(a1 q).1, fun z => by rw [Maps.atKey_del_other ek]; exact (a1 q).2 z⟩, fun y q => ⟨(a2 y q).1, fun z => by rw [Maps.atKey_del_other ek]; exact (a2 y q).2 z⟩⟩
end
section
variable {α : Type} {en : α → Value} {li : α → Lit} {P : Program} {ops : Array Oper} {rest : List Oper} {o : Oper} {a : Act} {Q : Exit → Act → World → Prop} {W : World} {k e : TypeId} {b n : Nat} {f : Value → Option α}
theorem wp_mapx_put {K' : Act → World → Prop} (M X V : Operand) (t : TypeId) (hop : o.op = Op.mapUpdate t M X V) (K : Keyed P k) (ht : P.underlying t = some (.map k e)) (hm : a.eval M = .map (some b)) (h : MapX en li P W k e b n f) (hn : n ≤ 16777216) {key : Value} (hx : a.eval X = key) {x : α} (hv : a.eval V = en x)
    {kl : Lit} (hkey : keyOf P k key = some kl) (hpe : plainElem (H := Unit) P e (en x) = some (.lit (li x), [])) (hK : ∀ w', (∀ (m' : Nat) (g : Value → Option α), m' = (if (f key).isSome then n else n + 1) → g key = some x → (∀ q, q ≠ key → g q = f q) → MapX en li P w' k e b m' g) → W.grownBy w' (some b) → K' (a.put o.dst undef) w') : o.wp P a W K' Q := by
  obtain ⟨w', hrun, r1, r2⟩ := h.put K ht hn hkey hpe
  unfold Oper.wp
  simp [execOp, hop, hm, hx, hv, hrun, Result.andThen]
  exact hK w' r1 r2
theorem wpList_mapx_put (hgd : o.guard = none) (M X V : Operand) (t : TypeId) (hop : o.op = Op.mapUpdate t M X V) (K : Keyed P k) (ht : P.underlying t = some (.map k e)) (hm : a.eval M = .map (some b)) (h : MapX en li P W k e b n f) (hn : n ≤ 16777216) {key : Value} (hx : a.eval X = key) {x : α} (hv : a.eval V = en x)
    {kl : Lit} (hkey : keyOf P k key = some kl) (hpe : plainElem (H := Unit) P e (en x) = some (.lit (li x), [])) (hK : ∀ w', (∀ (m' : Nat) (g : Value → Option α), m' = (if (f key).isSome then n else n + 1) → g key = some x → (∀ q, q ≠ key → g q = f q) → MapX en li P w' k e b m' g) → W.grownBy w' (some b) → wpList P ops Q rest (a.put o.dst undef) w') : wpList P ops Q (o :: rest) a W :=
  wpList_plain hgd fun K' hK' => wp_mapx_put M X V t hop K ht hm h hn hx hv hkey hpe fun w' r1 r2 => hK' _ _ (hK w' r1 r2)
theorem wpList_mapx_drop (hgd : o.guard = none) (M X : Operand) (t : TypeId) (hop : o.op = Op.call { callee := Callee.builtin Builtin.delete, args := #[M, X], argTypes := #[t, k] }) (K : Keyed P k) (ht : P.underlying t = some (.map k e)) (hm : a.eval M = .map (some b)) (h : MapX en li P W k e b n f) {key : Value} (hx : a.eval X = key)
    {kl : Lit} (hkey : keyOf P k key = some kl) (hK : ∀ w', (∀ (m' : Nat) (g : Value → Option α), m' + (if (f key).isSome then 1 else 0) = n → g key = none → (∀ q, q ≠ key → g q = f q) → MapX en li P w' k e b m' g) → W.grownBy w' (some b) → wpList P ops Q rest (a.put o.dst (.tuple #[])) w') : wpList P ops Q (o :: rest) a W := by
  refine wpList_plain hgd fun K' hK' => ?_
  obtain ⟨w', hrun, r1, r2⟩ := h.drop K ht hkey o.type
  unfold Oper.wp
  simp [execOp, hop, resolve, invoke, builtin, hm, hx, hrun, Result.andThen]
  exact hK' _ _ (hK w' r1 r2)
end
/-! bools -/
def bLi (x : Bool) : Lit := .bool x
def bEn (x : Bool) : Value := .bool x
theorem bLi_pe {P : Program} {e : TypeId} (he : P.underlying e = some .bool) (x : Bool) : plainElem (H := Unit) P e (bEn x) = some (.lit (bLi x), []) := plainElem_bool he x
theorem bLi_in {P : Program} {e : TypeId} (he : P.underlying e = some .bool) (v : Value) (x : Bool) (ps : List MemPlace) (h : plainElem (H := Unit) P e v = some (.lit (bLi x), ps)) : v = bEn x := plainElem_bool_inv he h
end Go.Proofs.Ytpccbmndgdiloaa
