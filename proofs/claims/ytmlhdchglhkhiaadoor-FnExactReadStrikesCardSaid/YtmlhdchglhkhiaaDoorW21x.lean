/- The reference's ReadStrikes walked. -/
import Derived.Test.YtmlhdchglhkhiaaDoorW21r
import Derived.StillTailTactics
namespace Go.Proofs.YtmlhdchglhkhiaaDoor
set_option linter.unusedVariables false
set_option linter.unusedSimpArgs false
open Go.ChangeShapes Go.WideShapes Go.ChangeAt Go.RowKit Go.Deep
theorem turnQ {P : Program} {f : FuncId} {args : Array Value} {w : World} {v : Value} (h : Calls P f args w fun e w' => e = .returned v ∧ w = w') : Calls P f args w fun e w' => e = .returned v ∧ w' = w :=
  h.mono fun _ _ ⟨he, hw⟩ => ⟨he, hw.symm⟩
def lnRd (y : ByteArray) (x : Int × Int) : Prop := ∃ a b, splB 64 y = [a, b] ∧ x = (l21V a, l21V b)
theorem splB_ln (x : Int × Int) : splB 64 (lnB x) = [⟨(Lib.decDigits x.1.toNat).toArray⟩, ⟨(Lib.decDigits x.2.toNat).toArray⟩] := by
  rw [splB]
  show (spl 64 (lnT x)).map _ = _
  rw [spl_line]; rfl
theorem lnRd_line {x z : Int × Int} (h1 : 0 ≤ x.1 ∧ x.1 ≤ 9) (h2 : 0 ≤ x.2 ∧ x.2 ≤ 1000000) (h : lnRd (lnB x) z) : z = x := by
  obtain ⟨a, b, e, rfl⟩ := h
  rw [splB_ln] at e
  injection e with ea e
  injection e with eb _
  subst ea eb
  rw [l21_dec (by rw [dec_len1 (by omega)]; decide), l21_dec (dec_len7 (by omega))]
  exact Prod.ext (by show ((x.1.toNat : Nat) : Int) = x.1; omega) (by show ((x.2.toNat : Nat) : Int) = x.2; omega)
theorem rd_all {s z : ByteArray} {l L : List (Int × Int)} {ps : List ByteArray} (hh : hitS s l) (hp : splB 10 s = ps ++ [z]) (hl : L.length = ps.length) (hr : ∀ (j : Nat) (y : ByteArray), ps[j]? = some y → ∃ x, L[j]? = some x ∧ lnRd y x) : L = l := by
  have h1 := hit_pieces hh
  rw [hp] at h1
  have h2 : ps = l.map lnB := (List.append_inj' h1 rfl).1
  subst h2
  rw [List.length_map] at hl
  apply List.ext_getElem? 
  intro j
  by_cases hj : j < l.length
  · obtain ⟨x, hx⟩ := some_of_lt hj
    obtain ⟨q, hq, hr2⟩ := hr j (lnB x) (by rw [List.getElem?_map, hx]; rfl)
    have hb := (goodStrikes_t hh.1).2 x (List.mem_of_getElem? hx)
    rw [hq, hx, lnRd_line (by omega) (by omega) hr2]
  · rw [List.getElem?_eq_none (by omega), List.getElem?_eq_none (by omega)]
theorem rd_two {s z y : ByteArray} {l : List (Int × Int)} {ps : List ByteArray} (hh : hitS s l) (hp : splB 10 s = ps ++ [z]) (hy : y ∈ ps) : (splB 64 y).length = 2 := by
  have h1 := hit_pieces hh
  rw [hp] at h1
  have h2 : ps = l.map lnB := (List.append_inj' h1 rfl).1
  subst h2
  obtain ⟨x, _, rfl⟩ := List.mem_map.1 hy
  rw [splB_ln]; rfl
theorem hit_empty : hitS ⟨#[]⟩ [] := ⟨rfl, rfl⟩
theorem Owned.capLe {α : Type} {e : α → List Value} {s : Nat} {E : TypeId} {w : World} {base n c : Nat} {a : Addr} {l : List α} (h : Owned e s E w base (some a) n c l) : n ≤ c := by
  rcases h.2.2.2 with ⟨hv, _⟩ | ⟨g, cap, cur, hv, _, _, hnc, _⟩
  · cases hv
  · injection hv with _ _ hc
    subst hc
    exact hnc
theorem rd_step {ps : List ByteArray} {L : List (Int × Int)} {k : Nat} {y : ByteArray} {x : Int × Int} (hl : L.length = k) (h : ∀ (j : Nat) (y : ByteArray), j < k → ps[j]? = some y → ∃ x, L[j]? = some x ∧ lnRd y x) (hy : ps[k]? = some y) (hx : lnRd y x) : ∀ (j : Nat) (y : ByteArray), j < k + 1 → ps[j]? = some y → ∃ x', (L ++ [x])[j]? = some x' ∧ lnRd y x' := by
  intro j y' hj hy'
  by_cases e : j < k
  · obtain ⟨x', h1, h2⟩ := h j y' e hy'
    exact ⟨x', by rw [List.getElem?_append_left (by omega)]; exact h1, h2⟩
  · obtain rfl : j = k := by omega
    rw [hy] at hy'
    injection hy' with hy'
    subst hy'
    exact ⟨x, by rw [← hl, List.getElem?_append_right (Nat.le_refl _), Nat.sub_self]; rfl, hx⟩
set_option maxHeartbeats 4000000 in
set_option maxRecDepth 100000 in
theorem spec_ReadStrikes {s : ByteArray} {w : World} (hz : s.size ≤ 1048576) :
    Calls Tryd.prog 19 #[.string s] w fun e w' => ∃ A' c', e = .returned (.tuple #[.slice A' (rsR s).length c', .bool (rsOk s)]) ∧ Owned strikeE 2 57 w' w.heap.size A' (rsR s).length c' (rsR s) ∧ (rsR s).length ≤ 16777216 ∧ Below w.heap.size w w' := by
  by_cases h0 : s.size = 0
  · have hs : s = { data := #[] } := by
      apply ByteArray.ext
      exact Array.eq_empty_of_size_eq_zero h0
    subst hs
    have e := rs_yes hit_empty
    have HE1 := Lib.hid e.1; have HE2 := Lib.hid e.2
    have HG := Lib.hid (show goodStrikes [] = true from rfl)
    have HX := Lib.hid (show stK [] ([] : List (Int × Int)).length = ⟨#[]⟩ from rfl)
    clear e
    go_in
    go_wp2_with fail
    refine (spec_l21Good (l := []) rfl (Owned.nil (E := 57) strikeE_len w w.heap.size).recs (by decide)).mono ?_; rw [HG.out]; rintro e w1 ⟨rfl, hb1⟩
    go_wp2_with fail
    refine (spec_l21Text (l := []) rfl (Owned.nil (E := 57) strikeE_len w1 w.heap.size).recs HG.out).mono ?_; rw [HX.out]; rintro e w2 ⟨rfl, hb2⟩
    go_wp2
    go_ret2
    rw [HE1.out, HE2.out]
    exact ⟨none, 0, rfl, Owned.nil strikeE_len _ _ _, by decide, below_go hb1 hb2⟩
  have hne := str_ne_empty (s := s) (by omega)
  obtain ⟨ps, z, hp⟩ := spl_last_one 10 s
  have hpl := pieces_len (c := 10) (s := s)
  have HP := Lib.hid hp
  have HSZ := Lib.hid (fun (x : ByteArray) (hx : x ∈ ps) => show x.size ≤ 1048576 from Nat.le_trans (splB_size (c := 10) s x (by rw [hp]; exact List.mem_append_left _ hx)) hz)
  have hlen : (splB 10 s).length = ps.length + 1 := by rw [hp, List.length_append, List.length_singleton]
  have hps : ps.length ≤ 1048577 := by omega
  have hw : IntKind.i64.wrap ((ps.length : Int) + 1 - 1) = (ps.length : Int) := by rw [wrap_id (by omega)]; omega
  have hw2 : (((ps.length + 1 : Nat) : Int)) = (ps.length : Int) + 1 := by omega
  have hI : (ps.length : Int) ≤ (ps.length : Int) + 1 := by omega
  have hJ : (ps.length : Int) < (ps.length : Int) + 1 := by omega
  clear hp
  go_in
  go_wp2_with fail
  refine (spec_l1Split hz (c := 10) rfl).mono ?_; rw [hlen]; rintro e w1 ⟨A1, c1, rfl, ho1, hb1⟩
  obtain ⟨g, rfl, hg1, hg2, _, _⟩ := ho1.at_ (by omega)
  have HR := Lib.hid (show Strs w1 (some ⟨g, 0, none⟩) ps from strs_front (z := z) (by have := ho1.recs; rwa [HP.out] at this))
  have hsz1 := hb1.size
  have hcap := ho1.capLe
  have hcap2 : (ps.length : Int) ≤ (c1 : Int) := by omega
  have hw3 : wrap64 (ps.length : Int) = (ps.length : Int) := by rw [wrap64]; omega
  clear ho1 hlen
  go_wp2
  go_loopw [4, 19] (fun v i wr => ∃ (k : Nat) (A' : Option Addr) (c' : Nat) (L : List (Int × Int)), k ≤ ps.length ∧ i = .int .i64 k ∧ v = .slice A' k c' ∧ Hid (Owned strikeE 2 57 wr w1.heap.size A' k c' L) ∧ Hid (∀ (j : Nat) (y : ByteArray), j < k → ps[j]? = some y → ∃ x, L[j]? = some x ∧ lnRd y x) ∧ w1.heap.size ≤ wr.heap.size ∧ Hid (Strs wr (some ⟨g, 0, none⟩) ps) ∧ Below w.heap.size w wr) (fun _ i _ => ps.length - (intOf i).toNat)
  case atStart => exact ⟨0, _, _, [], Nat.zero_le _, rfl, rfl, Lib.hid (Owned.nil strikeE_len _ _ _), Lib.hid (fun j y hj => absurd hj (by omega)), Nat.le_refl _, HR, hb1⟩
  case round =>
    obtain ⟨k, A2, c2, L, hk, rfl, rfl, HO, HL, hszr, HR, hbr⟩ := hrel
    rename World => wr
    by_cases hlt : k < ps.length
    · obtain ⟨b3, o3, y, hA, hbb, hy, hcy⟩ := HR.out.at_str hlt
      injection hA with hA
      injection hA with e1 e2 _
      subst e1 e2
      have hys := HSZ.out y (List.mem_of_getElem? hy)
      have HY := Lib.hid hy
      clear hy
      simp only [Nat.zero_add] at hcy
      go_wp2_with fail
      refine (spec_l1Split hys (c := 64) rfl).mono ?_
      by_cases h2 : (splB 64 y).length = 2
      · obtain ⟨pa, pb, hab⟩ : ∃ pa pb, splB 64 y = [pa, pb] := by
          rcases q : splB 64 y with _ | ⟨pa, _ | ⟨pb, _ | ⟨_, _⟩⟩⟩
          · rw [q] at h2; cases h2
          · rw [q] at h2; cases h2
          · exact ⟨pa, pb, rfl⟩
          · rw [q] at h2; simp at h2
        rw [h2]
        rintro e w2 ⟨A3, c3, rfl, ho3, hb2⟩
        rw [hab] at ho3
        have hpa := splB_size (c := 64) y pa (by rw [hab]; exact List.mem_cons_self ..)
        have hpb := splB_size (c := 64) y pb (by rw [hab]; exact List.mem_cons_of_mem _ (List.mem_cons_self ..))
        obtain ⟨g3, rfl, hg3, hg4, cc, _⟩ := ho3.at_ (by omega)
        have q0 := cc 0 pa 0 _ rfl rfl
        have q1 := cc 1 pb 0 _ rfl rfl
        simp only [Nat.zero_mul, Nat.one_mul, Nat.zero_add, Nat.add_zero] at q0 q1
        have hB8 := below_go hbr hb2
        have HO8 := Lib.hid (HO.out.up hb2)
        have HR8 := Lib.hid (HR.out.up hb2)
        have hs8 : w1.heap.size ≤ w2.heap.size := by have := hb2.size; omega
        obtain ⟨v1, hv1⟩ : ∃ v, v = l21V pa := ⟨_, rfl⟩
        obtain ⟨v2, hv2⟩ : ∃ v, v = l21V pb := ⟨_, rfl⟩
        have HL2 := Lib.hid (rd_step (x := (v1, v2)) HO.out.len HL.out HY.out ⟨pa, pb, hab, by rw [hv1, hv2]⟩)
        have HV1 := Lib.hid (show ∀ u : World, Calls Tryd.prog 45 #[.string pa] u fun e w' => e = .returned (.int .i64 v1) ∧ u = w' from fun u => by rw [hv1]; exact spec_l21Num (by omega))
        have HV2 := Lib.hid (show ∀ u : World, Calls Tryd.prog 45 #[.string pb] u fun e w' => e = .returned (.int .i64 v2) ∧ u = w' from fun u => by rw [hv2]; exact spec_l21Num (by omega))
        have hOb := Lib.hid (fun z hz => (HO.out.blk (k := z) hz).2)
        have carry : Hid (∀ u : World, Below w2.heap.size w2 u → u.cell? ⟨g3, 0, none⟩ = some (.string pa) ∧ u.cell? ⟨g3, 1, none⟩ = some (.string pb)) := Lib.hid (fun u hu =>
          have q : ∀ o : Nat, u.cell? ⟨g3, o, none⟩ = w2.cell? ⟨g3, o, none⟩ := fun o => hu.cell (p := ⟨g3, o, none⟩) hg4
          ⟨(q 0).trans q0, (q 1).trans q1⟩)
        have far : Hid (∀ v u : World, Below w2.heap.size w2 v → v.grownBy u (Value.slice A2 k c2).ownBlock → u.cell? ⟨g3, 0, none⟩ = some (.string pa) ∧ u.cell? ⟨g3, 1, none⟩ = some (.string pb)) := Lib.hid (fun v u hv hg => by
          have hvs := hv.size
          have f1 : ∀ o : Nat, u.cell? ⟨g3, o, none⟩ = v.cell? ⟨g3, o, none⟩ := fun o => hg.cell_far _ (by show g3 < v.heap.size; omega) (fun e => by have := hOb.out g3 e.symm; omega)
          rw [f1, f1]
          exact carry.out v hv)
        have HW2 : Below w2.heap.size w2 w2.drew := below_drewN (Below.refl _ _) 1
        have HO9 := Lib.hid (HO8.out.up HW2)
        have HB9 : Below w.heap.size w w2.drew := below_go hB8 HW2
        have hs9 : w1.heap.size ≤ w2.drew.heap.size := hs8
        have HAL := Lib.hid ((HR8.out.up HW2).alloc (.cells ⟨strikeE (v1, v2)⟩ 57))
        clear cc ho3 hb2 hbr hv1 hv2 hab h2 hcy q0 q1
        go_wp2
        go_region_held3 (fun u => u.cell? ⟨g3, 0, none⟩ = some (.string pa) ∧ u.cell? ⟨g3, 1, none⟩ = some (.string pb)) (first | exact far.out _ _ (HW2.alloc HW2.size _) hg6 | exact carry.out _ (HW2.alloc HW2.size _) | exact carry.out _ HW2) (first | (go_at_call 45; (with_reducible refine (HV1.out _).mono ?_); rintro e w' ⟨rfl, rfl⟩) | (go_at_call 45; (with_reducible refine (HV2.out _).mono ?_); rintro e w' ⟨rfl, rfl⟩) | ((refine step_append_rec Tryd.elStrike (by rfl) _ _ (by rfl) (by rfl) (HO9.out.alloc _) (v1, v2) (by rfl) (Box.at_ _ [.int .i64 v1, .int .i64 v2] _ (by rfl)) (strikeE_one _) (by omega) (by decide) (by simp; omega) ?_; intro A4 c4 w6 ho6 hg6 hb6)))
        all_goals
          have HR9 := Lib.hid (HAL.out.grown hg6 (fun e => by have := (HO9.out.blk e.symm).1; omega))
          have hs10 : w1.heap.size ≤ w6.heap.size := by have := hg6.size; simp at this; omega
          have hfin := (HB9.alloc HB9.size _).trans (hb6.mono (by omega))
          clear far carry
          go_wp2
          go_roundw
          case rel => exact ⟨k + 1, A4, c4, L ++ [(v1, v2)], by omega, by go_num, by go_num, Lib.hid ho6, HL2, hs10, HR9, hfin⟩
          case measure => simp [intOf]; omega
      · have HNO := Lib.hid (show ¬ ∃ l, hitS s l from fun ⟨l, hl⟩ => h2 (rd_two hl HP.out (List.mem_of_getElem? HY.out)))
        obtain ⟨m, hm⟩ : ∃ m, m = (splB 64 y).length := ⟨_, rfl⟩
        rw [← hm] at h2 ⊢
        rintro e w2 ⟨A3, c3, rfl, ho3, hb2⟩
        have hI2 : ¬ (m : Int) = 2 := by omega
        have hI3 : ((m : Int) == 2) = false := by simpa using hI2
        have e := rs_no HNO.out
        have HE1 := Lib.hid e.1; have HE2 := Lib.hid e.2
        have HB := below_go hbr hb2
        clear e ho3 hm
        go_wp2
        go_ret2
        rw [HE1.out, HE2.out]
        exact ⟨none, 0, rfl, Owned.nil strikeE_len _ _ _, by decide, HB⟩
    · obtain rfl : k = ps.length := by omega
      have hLl := HO.out.len
      have HALL := Lib.hid (fun (l : List (Int × Int)) (hl : hitS s l) => rd_all hl HP.out hLl (fun j y hy => HL.out j y (List.getElem?_eq_some_iff.1 hy).1 hy))
      rcases hg : goodStrikes L
      · have HG := Lib.hid hg
        have e := rs_no (s := s) (fun ⟨l, hl⟩ => by have := HALL.out l hl; rw [this, hl.1] at hg; cases hg)
        have HE1 := Lib.hid e.1; have HE2 := Lib.hid e.2
        clear e hg
        go_wp2_with fail
        refine (spec_l21Good hLl HO.out.recs (by omega)).mono ?_; rw [HG.out]; rintro e w2 ⟨rfl, hb2⟩
        go_wp2
        go_ret2
        rw [HE1.out, HE2.out]
        exact ⟨none, 0, rfl, Owned.nil strikeE_len _ _ _, by decide, below_go hbr hb2⟩
      · have HG := Lib.hid hg
        clear hg
        obtain ⟨T, hT⟩ : ∃ T, T = stK L L.length := ⟨_, rfl⟩
        by_cases he : T = s
        · have e := rs_yes (s := s) (l := L) ⟨HG.out, by rw [← hT]; exact he⟩
          have HE1 := Lib.hid e.1; have HE2 := Lib.hid e.2
          have HT := Lib.hid (hT.symm.trans he)
          clear e hT he
          go_wp2_with fail
          refine (spec_l21Good hLl HO.out.recs (by omega)).mono ?_; rw [HG.out]; rintro e w2 ⟨rfl, hb2⟩
          go_wp2_with fail
          refine (spec_l21Text hLl (HO.out.up hb2).recs HG.out).mono ?_; rw [HT.out]; rintro e w3 ⟨rfl, hb3⟩
          have HO3 := Lib.hid (((HO.out.up hb2).up hb3).base_le hsz1)
          go_wp2
          go_ret2
          rw [HE1.out, HE2.out, hLl]
          exact ⟨_, _, rfl, HO3.out, by omega, below_go (below_go hbr hb2) hb3⟩
        · have e := rs_no (s := s) (fun ⟨l, hl⟩ => he (by rw [hT, HALL.out l hl]; exact hl.2))
          have HE1 := Lib.hid e.1; have HE2 := Lib.hid e.2
          have HT := Lib.hid hT
          have hbe : (T.toList == s.toList) = false := by
            rw [beq_eq_false_iff_ne]
            intro q
            rw [ByteArray.toList_eq, ByteArray.toList_eq] at q
            exact he (ByteArray.ext (Array.toList_inj.1 q))
          clear e hT
          go_wp2_with fail
          refine (spec_l21Good hLl HO.out.recs (by omega)).mono ?_; rw [HG.out]; rintro e w2 ⟨rfl, hb2⟩
          go_wp2_with fail
          refine (spec_l21Text hLl (HO.out.up hb2).recs HG.out).mono ?_; rw [← HT.out]; rintro e w3 ⟨rfl, hb3⟩
          go_wp2
          go_ret2
          rw [HE1.out, HE2.out]
          exact ⟨none, 0, rfl, Owned.nil strikeE_len _ _ _, by decide, below_go (below_go hbr hb2) hb3⟩
end Go.Proofs.YtmlhdchglhkhiaaDoor
