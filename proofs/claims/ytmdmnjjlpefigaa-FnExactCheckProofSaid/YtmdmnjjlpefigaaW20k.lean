/- The first wrong line of a proof, the program's side. -/
import Derived.Test.YtmdmnjjlpefigaaW20j
import Derived.Deep.RegionWith
namespace Go.Proofs.Ytmdmnjjlpefigaa
set_option linter.unusedVariables false
set_option linter.unusedSimpArgs false
open Go.ChangeShapes Go.WideShapes Go.ChangeAt Go.RowKit Go.Deep
def lieZ2 (T : Nat) (l lH : List ByteArray) (lL : List Line3) : Int := match lieIx T l lH lL with
  | some i => (i : Int) + 2
  | none => -1
/-- What firstLie gives. -/
def flZ (st : Nat) (l : List ByteArray) (kb ks t : ByteArray) (lH : List ByteArray) (lL : List Line3) : Int := if rightB st l kb ks t lH = true then (if lL.length = t.size * l.length then lieZ2 t.size l lH lL else 1) else 0
theorem lie_hit2 {T : Nat} {l lH : List ByteArray} {lL : List Line3} {k : Nat} (h : ∀ j, j < k → lineBad T l lH lL j = false) (hk : k < lL.length) (hf : lineBad T l lH lL k = true) : lieZ2 T l lH lL = (k : Int) + 2 := by
  rw [lieZ2, lieIx, find_hit h hk hf]
theorem lie_miss2 {T : Nat} {l lH : List ByteArray} {lL : List Line3} (h : ∀ j, j < lL.length → lineBad T l lH lL j = false) : lieZ2 T l lH lL = -1 := by
  rw [lieZ2, lieIx, find_miss h]
theorem less_asym {x y : ByteArray} (h : less y x = true) : less x y = false := by
  rcases hq : less x y
  · rfl
  · have := less_trans h hq
    rw [less_irr] at this; cases this
theorem less_ne {x y : ByteArray} (h : less y x = true) : (x.toList == y.toList) = false := by
  rcases hq : (x.toList == y.toList)
  · rfl
  · have e : x = y := toList_inj (by simpa using hq)
    rw [e, less_irr] at h; cases h
set_option maxHeartbeats 4000000 in
set_option maxRecDepth 100000 in
theorem impl_firstLie {A : Option Addr} {n c st : Nat} {nm : ByteArray} {l : List ByteArray} {kb ks : ByteArray} {t : ByteArray} {AH : Option Addr} {nH cH : Nat} {lH : List ByteArray} {AL : Option Addr} {nL cL : Nat} {lL : List Line3} {w : World} (hn : l.length = n) (h : Strs w A l) (hk : goodK nm (st : Int) l kb ks = true) (hg : goodT t = true) (hcap : n ≤ c) (hnH : lH.length = nH) (hH : Strs w AH lH) (hnL : lL.length = nL) (hL : Recs lineE 3 w AL lL) (hzH : nH ≤ 1048576) (hzL : nL ≤ 1048576) (hsH : ∀ s ∈ lH, s.size ≤ 16777216) (hsL : ∀ x ∈ lL, x.1.size ≤ 16777216) (hgp : goodPf lH lL = true) :
    Calls Try.prog 98 #[.agg #[.string nm, .int .i64 st, .slice A n c], .agg #[.string kb, .string ks], .string t, .agg #[.slice AH nH cH, .slice AL nL cL]] w fun e w' => e = .returned (.int .i64 (flZ st l kb ks t lH lL)) ∧ Below w.heap.size w w' := by
  obtain ⟨h8, h40, hgl, _⟩ := goodK_all hk
  obtain ⟨ht1, ht60, _⟩ := goodT_t hg
  have hn40 : n ≤ 40 := by omega
  have HG := Lib.hid (fun (x : ByteArray) (hx : x ∈ l) => good_valid (hgl x hx))
  have HS := Lib.hid (fun (s' : ByteArray) (hs' : s' ∈ l) => show s'.size ≤ 16777216 from by have := goodChange_small (hgl s' hs'); omega)
  clear hgl
  have HD := Lib.hid (fun k => hdAt_good h8.1 h8.2 l kb ks t k)
  have HQ : Hid (flZ st l kb ks t lH lL = if rightB st l kb ks t lH = true then (if lL.length = t.size * l.length then lieZ2 t.size l lH lL else 1) else 0) := Lib.hid rfl
  obtain ⟨_, hl8, _, hgl⟩ := goodPf_t hgp
  have HGL := Lib.hid hgl
  have hnL8 : nL ≤ 800 := by omega
  clear hgl hgp hl8
  have b0 : Below w.heap.size w (((w.alloc (.cells ⟨[.string nm, .int .i64 st, .slice A n c]⟩ 42)).alloc (.cells ⟨[.string kb, .string ks]⟩ 44)).alloc (.cells ⟨[.slice AH nH cH, .slice AL nL cL]⟩ 71)) := by (repeat' (first | (with_reducible exact Below.refl _ _) | (with_reducible assumption) | (with_reducible refine below_drewN ?_ _) | (with_reducible refine Below.drew ?_) | (with_reducible refine below_alloc ?_ _) | (with_reducible refine Below.alloc ?_ ?_ _) | (with_reducible refine Below.setCell ?_ ?_ _) | (with_reducible refine below_go ?_ (by with_reducible assumption)) | (with_reducible refine below_then (by with_reducible assumption) ?_ ?_) | go_size))
  have K0 := ((Blk.at_ w 42 [.string nm, .int .i64 st, .slice A n c] (b := w.heap.size) rfl).alloc (.cells ⟨[.string kb, .string ks]⟩ 44)).alloc (.cells ⟨[.slice AH nH cH, .slice AL nL cL]⟩ 71)
  have K1 := (Blk.at_ (w.alloc (.cells ⟨[.string nm, .int .i64 st, .slice A n c]⟩ 42)) 44 [.string kb, .string ks] (b := w.heap.size + 1) (by simp)).alloc (.cells ⟨[.slice AH nH cH, .slice AL nL cL]⟩ 71)
  have K2 := Blk.at_ ((w.alloc (.cells ⟨[.string nm, .int .i64 st, .slice A n c]⟩ 42)).alloc (.cells ⟨[.string kb, .string ks]⟩ 44)) 71 [.slice AH nH cH, .slice AL nL cL] (b := w.heap.size + 1 + 1) (by simp)
  go_in
  go_wp2_with fail
  obtain ⟨wb, hwb⟩ : ∃ u, u = (((w.alloc (.cells #[.string nm, .int .i64 st, .slice A n c] 42)).alloc (.cells #[.string kb, .string ks] 44)).alloc (.cells #[.slice AH nH cH, .slice AL nL cL] 71)) := ⟨_, rfl⟩
  rw [← hwb] at b0 K0 K1 K2 ⊢
  clear hwb
  refine (impl_rightHeads hn (h.up b0) hk hg hnH (hH.up b0) hzH).mono ?_; rintro e w0 ⟨rfl, hb1⟩
  have b0 := below_go b0 hb1
  have K0 := K0.up hb1
  have K2 := K2.up hb1
  clear K1 hb1
  have k2 := K0.cell 2; have p0 := K2.cell 0; have p1 := K2.cell 1
  simp only [List.getElem?_cons_zero, List.getElem?_cons_succ] at k2 p0 p1
  rcases hR : rightB st l kb ks t lH
  · have e1 := Lib.hid (show flZ st l kb ks t lH lL = 0 by rw [HQ.out, hR]; rfl)
    go_wp2
    go_ret
    rw [e1.out]
    exact ⟨rfl, b0⟩
  have hhd : lH = hdsL st l kb ks t (t.size + 1) := by
    rw [rightB, Bool.and_eq_true] at hR
    exact of_decide_eq_true hR.1
  have hmul : t.size * n ≤ 2400 := Nat.le_trans (Nat.mul_le_mul ht60 hn40) (by decide)
  have hmI : ((t.size * n : Nat) : Int) = (t.size : Int) * (n : Int) := by push_cast; rfl
  have hwr : IntKind.i64.wrap ((t.size : Int) * (n : Int)) = (t.size : Int) * (n : Int) := wrap_id (by omega)
  by_cases hlen : nL = t.size * n
  rotate_left
  · have e1 := Lib.hid (show flZ st l kb ks t lH lL = 1 by rw [HQ.out, hR, if_pos rfl, if_neg (by rw [hnL, hn]; exact hlen)])
    have hne : ((nL : Int) != (t.size : Int) * (n : Int)) = true := by simp; omega
    have hne2 : ¬ (nL : Int) = (t.size : Int) * (n : Int) := by omega
    clear hmI hlen
    go_wp2
    go_ret
    rw [e1.out]
    exact ⟨rfl, b0⟩
  have EQ := Lib.hid (show flZ st l kb ks t lH lL = lieZ2 t.size l lH lL by rw [HQ.out, hR, if_pos rfl, if_pos (by rw [hnL, hn]; exact hlen)])
  have hqI : (nL : Int) = (t.size : Int) * (n : Int) := by omega
  have hwr2 : IntKind.i64.wrap ((t.size : Int) * (n : Int)) = (nL : Int) := by rw [← hqI]; exact wrap_id (by omega)
  clear hwr
  have HH := Lib.hid (fun (a : Nat) (ha : a ≤ t.size) => show lH[a]? = some (hdAt st l kb ks t a) from by rw [hhd]; exact hdsL_at (by omega))
  have hnt : nH = t.size + 1 := by rw [← hnH, hhd, hdsL_len]
  obtain ⟨bA, oA, _, rfl, _, _, _⟩ := h.at_str (k := 0) (by omega)
  obtain ⟨bH, oH, _, rfl, _, _, _⟩ := hH.at_str (k := 0) (by omega)
  have HNT := Lib.hid hnt
  have HQI := Lib.hid hqI
  clear hnt hhd hR hmI hlen hqI
  have H0 := Lib.hid (h.up b0)
  have P0 := Lib.hid (hH.up b0)
  have L0 := Lib.hid (hL.up b0)
  have HN := Lib.hid hn
  have HNH := Lib.hid hnH
  have HNL := Lib.hid hnL
  have carry : Hid (∀ u : World, Below w0.heap.size w0 u → u.cell? ⟨w.heap.size, 2, none⟩ = some (.slice (some ⟨bA, oA, none⟩) n c) ∧ u.cell? ⟨w.heap.size + 1 + 1, 0, none⟩ = some (.slice (some ⟨bH, oH, none⟩) nH cH) ∧ u.cell? ⟨w.heap.size + 1 + 1, 1, none⟩ = some (.slice AL nL cL)) := Lib.hid (fun u hu => by
    have L0 := K0.up hu; have L1 := K2.up hu
    exact ⟨by simpa using L0.cell 2, by simpa using L1.cell 0, by simpa using L1.cell 1⟩)
  clear h hH hL K0 K2 hn hnH hnL hsH hsL
  clear k2 p0 p1
  obtain ⟨c0, c1, c2⟩ := carry.out _ (Below.refl _ _)
  go_wp2
  clear hwr2
  go_loopw [31] (fun i wr => ∃ k : Nat, k ≤ nL ∧ i = .int .i64 k ∧ Hid (∀ j, j < k → lineBad t.size l lH lL j = false) ∧ Below w0.heap.size w0 wr) (fun i _ => nL - (intOf i).toNat)
  case atStart => exact ⟨0, Nat.zero_le _, rfl, Lib.hid (fun j hj => absurd hj (by omega)), Below.refl _ _⟩
  case round =>
    obtain ⟨k, hk1, rfl, HK, hb⟩ := hrel
    clear c0 c1 c2
    by_cases hlt : k < nL
    · obtain ⟨x, hx⟩ := some_of_lt (l := lL) (k := k) (by rw [HNL.out]; exact hlt)
      obtain ⟨b1, o1, e3, hbb, hc1, hc2, hc3⟩ := (L0.out.below hb (Nat.le_refl _)).at_3 hx
      obtain ⟨a, b, ea, eb, ha60, hb40⟩ := goodLn_t (HGL.out x (List.mem_of_getElem? hx))
      have HX := Lib.hid hx
      have EA := Lib.hid ea
      have EB := Lib.hid eb
      rw [ea] at hc2
      rw [eb] at hc3
      subst e3
      clear hx ea eb
      go_wp2_with fail
      obtain ⟨wz, hwz⟩ : ∃ u, u = wr.alloc (.cells #[.string x.1, .int .i64 a, .int .i64 b] 143) := ⟨_, rfl⟩
      have KZ := Blk.at_ wr 143 [.string x.1, .int .i64 a, .int .i64 b] (b := wr.heap.size) rfl
      have hbz : Below w0.heap.size w0 wz := by rw [hwz]; exact hb.alloc hb.size _
      rw [← hwz] at KZ ⊢
      clear hwz hc1 hc2 hc3
      have carz : Hid (∀ u : World, Below wz.heap.size wz u → u.cell? ⟨wr.heap.size, 0, none⟩ = some (.string x.1) ∧ u.cell? ⟨wr.heap.size, 1, none⟩ = some (.int .i64 a) ∧ u.cell? ⟨wr.heap.size, 2, none⟩ = some (.int .i64 b)) := Lib.hid (fun u hu => by
        have L := KZ.up hu
        exact ⟨by simpa using L.cell 0, by simpa using L.cell 1, by simpa using L.cell 2⟩)
      clear KZ
      obtain ⟨c0, c1, c2⟩ := carry.out _ hbz
      obtain ⟨z0, z1, z2⟩ := carz.out _ (Below.refl _ _)
      have HB := Lib.hid (below_go b0 hbz)
      have HBZ := Lib.hid hbz
      have hkL := Lib.hid (show k < lL.length from by rw [HNL.out]; exact hlt)
      clear hb
      rcases Nat.eq_zero_or_pos k with rfl | hpos
      · have hI : ¬ (0 : Int) < ((0 : Nat) : Int) := by omega
        by_cases f1 : (t.size : Int) ≤ (a : Int)
        · have e1 := Lib.hid (EQ.out.trans (lie_hit2 HK.out hkL.out (bad_lead HX.out (by rw [EA.out]; exact f1))))
          go_region
          all_goals
            go_wp2
            go_ret
            rw [e1.out]
            exact ⟨rfl, by (have := HB.out); (repeat' (first | (with_reducible exact Below.refl _ _) | (with_reducible assumption) | (with_reducible refine below_drewN ?_ _) | (with_reducible refine Below.drew ?_) | (with_reducible refine below_alloc ?_ _) | (with_reducible refine Below.alloc ?_ ?_ _) | (with_reducible refine Below.setCell ?_ ?_ _) | (with_reducible refine below_go ?_ (by with_reducible assumption)) | (with_reducible refine below_then (by with_reducible assumption) ?_ ?_) | go_size))⟩
        by_cases f2 : (n : Int) ≤ (b : Int)
        · have e1 := Lib.hid (EQ.out.trans (lie_hit2 HK.out hkL.out (bad_at HX.out (by rw [EB.out, HN.out]; exact f2))))
          go_region
          all_goals
            go_wp2
            go_ret
            rw [e1.out]
            exact ⟨rfl, by (have := HB.out); (repeat' (first | (with_reducible exact Below.refl _ _) | (with_reducible assumption) | (with_reducible refine below_drewN ?_ _) | (with_reducible refine Below.drew ?_) | (with_reducible refine below_alloc ?_ _) | (with_reducible refine Below.alloc ?_ ?_ _) | (with_reducible refine Below.setCell ?_ ?_ _) | (with_reducible refine below_go ?_ (by with_reducible assumption)) | (with_reducible refine below_then (by with_reducible assumption) ?_ ?_) | go_size))⟩
        have la : a < t.size := by omega
        have lb : b < n := by omega
        have HHA := Lib.hid (HH.out a (by omega))
        have carq : Hid (∀ u : World, Below wz.heap.size wz u → u.cell? ⟨w.heap.size, 2, none⟩ = some (.slice (some ⟨bA, oA, none⟩) n c) ∧ u.cell? ⟨w.heap.size + 1 + 1, 0, none⟩ = some (.slice (some ⟨bH, oH, none⟩) nH cH) ∧ u.cell? ⟨wr.heap.size, 1, none⟩ = some (.int .i64 a) ∧ u.cell? ⟨wr.heap.size, 2, none⟩ = some (.int .i64 b) ∧ u.cell? ⟨bH, oH + a, none⟩ = some (.string (hdAt st l kb ks t a))) := Lib.hid (fun u hu => by
          have hu2 := Below.step' HBZ.out (Nat.le_refl _) hu
          obtain ⟨c0, c1, c2⟩ := carry.out _ hu2
          obtain ⟨z0, z1, z2⟩ := carz.out _ hu
          obtain ⟨b4, o4, y, e4, _, hy, hcy⟩ := (P0.out.below hu2 (Nat.le_refl _)).at_str (k := a) (by rw [HNH.out, HNT.out]; omega)
          injection e4 with e4
          injection e4 with e5 e6
          subst e5 e6
          rw [HHA.out] at hy
          injection hy with hy
          subst hy
          exact ⟨c0, c1, z1, z2, hcy⟩)
        have p2 := HD.out a
        have y1 : (hdAt st l kb ks t a).size ≤ 8 := by rw [p2.2]; omega
        clear p2
        have HT := Lib.hid (show (l.take b).length = b by rw [List.length_take, HN.out]; omega)
        have HST := Lib.hid (fun (s' : ByteArray) (hs' : s' ∈ l.take b) => HS.out s' (List.mem_of_mem_take hs'))
        have ET := Lib.hid (show rAt (hdAt st l kb ks t a) (l.take b) b = rAt (hdAt st l kb ks t a) l b from rAt_take _ _ _ _ (Nat.le_refl _))
        have RB : Hid (∀ u : World, Below wz.heap.size wz u → Strs u (some ⟨bA, oA, none⟩) (l.take b)) := Lib.hid (fun u hu => by
          have hu2 := Below.step' HBZ.out (Nat.le_refl _) hu
          have q := (H0.out.below hu2 (Nat.le_refl _)).part 0 b (Nat.zero_le _) (by rw [HN.out]; omega)
          simpa using q)
        have hbc : (b : Int) ≤ (c : Int) := by omega
        have hb0 : (0 : Int) ≤ (b : Int) := by omega
        have haH : (a : Int) < (nH : Int) := by (have := HNT.out; omega)
        have ha0 : (0 : Int) ≤ (a : Int) := by omega
        have HSG := Lib.hid (fun (s' : ByteArray) (hs' : s' ∈ l.take b) => HG.out s' (List.mem_of_mem_take hs'))
        have EU := Lib.hid (show rowsL (hdAt st l kb ks t a) (l.take b) (b + 1) = rowsL (hdAt st l kb ks t a) l (b + 1) from rowsL_take _ _ _)
        have HRW := Lib.hid (show (rowsL (hdAt st l kb ks t a) l (b + 1))[b]? = some (rAt (hdAt st l kb ks t a) l b) by rw [rowsL, List.getElem?_map, List.getElem?_range (by omega)]; rfl)
        have carq2 : Hid (∀ u : World, Below wz.heap.size wz u → u.cell? ⟨w.heap.size, 2, none⟩ = some (.slice (some ⟨bA, oA, none⟩) n c) ∧ u.cell? ⟨w.heap.size + 1 + 1, 0, none⟩ = some (.slice (some ⟨bH, oH, none⟩) nH cH) ∧ u.cell? ⟨wr.heap.size, 0, none⟩ = some (.string x.1) ∧ u.cell? ⟨wr.heap.size, 1, none⟩ = some (.int .i64 a) ∧ u.cell? ⟨wr.heap.size, 2, none⟩ = some (.int .i64 b) ∧ u.cell? ⟨bH, oH + a, none⟩ = some (.string (hdAt st l kb ks t a))) := Lib.hid (fun u hu => by
          obtain ⟨q0, q1, q2, q3, q4⟩ := carq.out _ hu
          obtain ⟨s0, _, _⟩ := carz.out _ hu
          exact ⟨q0, q1, s0, q2, q3, q4⟩)
        go_cut [64] (fun s wx => s = .bool false ∧ Below wz.heap.size wz wx)
        case first =>
          go_region
          all_goals
            go_wp2_with fail
            go_meet
            exact ⟨rfl, by (repeat' (first | (with_reducible exact Below.refl _ _) | (with_reducible assumption) | (with_reducible refine below_drewN ?_ _) | (with_reducible refine Below.drew ?_) | (with_reducible refine below_alloc ?_ _) | (with_reducible refine Below.alloc ?_ ?_ _) | (with_reducible refine Below.setCell ?_ ?_ _) | (with_reducible refine below_go ?_ (by with_reducible assumption)) | (with_reducible refine below_then (by with_reducible assumption) ?_ ?_) | go_size))⟩
        case rest =>
          obtain ⟨rfl, hbq⟩ := hcut
          rename World => wq
          obtain ⟨q0, q1, s0, q2, q3, q4⟩ := carq2.out _ hbq
          clear z0 z1 z2 c0 c1 c2
          go_wp2_with fail
          clear q0 q1 q2 q3 q4
          go_cut [85] (fun s wx => ∃ q : Bool, s = .bool q ∧ q = (x.1.toList != (rAt (hdAt st l kb ks t a) l b).toList) ∧ Below wz.heap.size wz wx)
          case first =>
            refine wp_region_held_drew (S := fun u => u.cell? ⟨w.heap.size, 2, none⟩ = some (.slice (some ⟨bA, oA, none⟩) n c) ∧ u.cell? ⟨w.heap.size + 1 + 1, 0, none⟩ = some (.slice (some ⟨bH, oH, none⟩) nH cH) ∧ u.cell? ⟨wr.heap.size, 0, none⟩ = some (.string x.1) ∧ u.cell? ⟨wr.heap.size, 1, none⟩ = some (.int .i64 a) ∧ u.cell? ⟨wr.heap.size, 2, none⟩ = some (.int .i64 b) ∧ u.cell? ⟨bH, oH + a, none⟩ = some (.string (hdAt st l kb ks t a))) (by kernel_rfl) (carq2.out _ hbq.drew) (fun hHeld => ?_)
            refine wpAnyH_take (i := 0) (oi := _) (v := ?_) rfl (by kernel_rfl) (by kernel_rfl) (by kernel_rfl) (fun _ _ _ h => h) (Or.inl ⟨by rfl, ?_⟩) (by assumption) ?_
            rotate_left
            · (intro w hSw; (try dsimp only at hSw); go_simp) <;> with_reducible rfl
            try simp only [Act.put, List.setIfInBounds_toArray, List.set_cons_zero, List.set_cons_succ]
            refine wpAnyH_take (i := 1) (oi := _) (v := ?_) rfl (by kernel_rfl) (by kernel_rfl) (by kernel_rfl) (fun _ _ _ h => h) (Or.inl ⟨by rfl, ?_⟩) (by assumption) ?_
            rotate_left
            · (intro w hSw; (try dsimp only at hSw); go_simp) <;> with_reducible rfl
            try simp only [Act.put, List.setIfInBounds_toArray, List.set_cons_zero, List.set_cons_succ]
            refine wpAnyH_take (i := 2) (oi := _) (v := ?_) rfl (by kernel_rfl) (by kernel_rfl) (by kernel_rfl) (fun _ _ _ h => h) (Or.inl ⟨by rfl, ?_⟩) (by assumption) ?_
            rotate_left
            · (intro w hSw; (try dsimp only at hSw); go_simp) <;> with_reducible rfl
            try simp only [Act.put, List.setIfInBounds_toArray, List.set_cons_zero, List.set_cons_succ]
            refine wpAnyH_take (i := 3) (oi := _) (v := ?_) rfl (by kernel_rfl) (by kernel_rfl) (by kernel_rfl) (fun _ _ _ h => h) (Or.inl ⟨by rfl, ?_⟩) (by assumption) ?_
            rotate_left
            · (intro w hSw; (try dsimp only at hSw); go_simp) <;> with_reducible rfl
            try simp only [Act.put, List.setIfInBounds_toArray, List.set_cons_zero, List.set_cons_succ]
            refine wpAnyH_take (i := 4) (oi := _) (v := ?_) rfl (by kernel_rfl) (by kernel_rfl) (by kernel_rfl) (fun _ _ _ h => h) (Or.inl ⟨by rfl, ?_⟩) (by assumption) ?_
            rotate_left
            · (intro w hSw; (try dsimp only at hSw); go_simp) <;> with_reducible rfl
            try simp only [Act.put, List.setIfInBounds_toArray, List.set_cons_zero, List.set_cons_succ]
            refine wpAnyH_take (i := 5) (oi := _) (v := ?_) rfl (by kernel_rfl) (by kernel_rfl) (by kernel_rfl) (fun _ _ _ h => h) (Or.inl ⟨by rfl, ?_⟩) (by assumption) ?_
            rotate_left
            · (intro w hSw; (try dsimp only at hSw); go_simp) <;> with_reducible rfl
            try simp only [Act.put, List.setIfInBounds_toArray, List.set_cons_zero, List.set_cons_succ]
            refine wpAnyH_take (i := 6) (oi := _) (v := ?_) rfl (by kernel_rfl) (by kernel_rfl) (by kernel_rfl) (fun _ _ _ h => h) (Or.inl ⟨by rfl, ?_⟩) (by assumption) ?_
            rotate_left
            · (intro w hSw; (try dsimp only at hSw); go_simp) <;> with_reducible rfl
            try simp only [Act.put, List.setIfInBounds_toArray, List.set_cons_zero, List.set_cons_succ]
            refine wpAnyH_take (i := 7) (oi := _) (v := ?_) rfl (by kernel_rfl) (by kernel_rfl) (by kernel_rfl) (fun _ _ _ h => h) (Or.inl ⟨by rfl, ?_⟩) (by assumption) ?_
            rotate_left
            · (intro w hSw; (try dsimp only at hSw); go_simp) <;> with_reducible rfl
            try simp only [Act.put, List.setIfInBounds_toArray, List.set_cons_zero, List.set_cons_succ]
            refine wpAnyH_take (i := 8) (oi := _) (v := ?_) rfl (by kernel_rfl) (by kernel_rfl) (by kernel_rfl) (fun _ _ _ h => h) (Or.inl ⟨by rfl, ?_⟩) (by assumption) ?_
            rotate_left
            · (intro w hSw; (try dsimp only at hSw); go_simp) <;> with_reducible rfl
            try simp only [Act.put, List.setIfInBounds_toArray, List.set_cons_zero, List.set_cons_succ]
            refine wpAnyH_take (i := 9) (oi := _) (v := ?_) rfl (by kernel_rfl) (by kernel_rfl) (by kernel_rfl) (fun _ _ _ h => h) (Or.inl ⟨by rfl, ?_⟩) (by assumption) ?_
            rotate_left
            · (intro w hSw; (try dsimp only at hSw); go_simp) <;> with_reducible rfl
            try simp only [Act.put, List.setIfInBounds_toArray, List.set_cons_zero, List.set_cons_succ]
            refine wpAnyH_take (i := 10) (oi := _) (v := ?_) rfl (by kernel_rfl) (by kernel_rfl) (by kernel_rfl) (fun _ _ _ h => h) (Or.inl ⟨by rfl, ?_⟩) (by assumption) ?_
            rotate_left
            · (intro w hSw; (try dsimp only at hSw); go_simp) <;> with_reducible rfl
            try simp only [Act.put, List.setIfInBounds_toArray, List.set_cons_zero, List.set_cons_succ]
            refine wpAnyH_take (i := 11) (oi := _) (v := ?_) rfl (by kernel_rfl) (by kernel_rfl) (by kernel_rfl) (fun _ _ _ h => h) (Or.inl ⟨by rfl, ?_⟩) (by assumption) ?_
            rotate_left
            · (intro w hSw; (try dsimp only at hSw); go_simp) <;> with_reducible rfl
            try simp only [Act.put, List.setIfInBounds_toArray, List.set_cons_zero, List.set_cons_succ]
            refine wpAnyH_take (i := 12) (oi := _) (v := ?_) rfl (by kernel_rfl) (by kernel_rfl) (by kernel_rfl) (fun _ _ _ h => h) (Or.inl ⟨by rfl, ?_⟩) (by assumption) ?_
            rotate_left
            · (intro w hSw; (try dsimp only at hSw); go_simp) <;> with_reducible rfl
            try simp only [Act.put, List.setIfInBounds_toArray, List.set_cons_zero, List.set_cons_succ]
            refine wpAnyH_take (i := 14) (oi := _) (v := ?_) rfl (by kernel_rfl) (by kernel_rfl) (by kernel_rfl) (fun _ _ _ h => h) (Or.inl ⟨by rfl, ?_⟩) (by assumption) ?_
            rotate_left
            · (intro w hSw; (try dsimp only at hSw); go_simp) <;> with_reducible rfl
            try simp only [Act.put, List.setIfInBounds_toArray, List.set_cons_zero, List.set_cons_succ]
            refine wpAnyH_take (i := 15) (oi := _) (v := ?_) rfl (by kernel_rfl) (by kernel_rfl) (by kernel_rfl) (fun _ _ _ h => h) (Or.inl ⟨by rfl, ?_⟩) (by assumption) ?_
            rotate_left
            · (intro w hSw; (try dsimp only at hSw); go_simp) <;> with_reducible rfl
            try simp only [Act.put, List.setIfInBounds_toArray, List.set_cons_zero, List.set_cons_succ]
            refine wpAnyH_ready (rs := [13]) (by kernel_rfl) (by simp) ?_
            refine AllReadyH.cons (o := _) rfl (fun K hK => ?_) AllReadyH.nil
            go_simp
            refine (impl_rowsUnder y1 HT.out ((RB.out _ hbq).drew) (by omega) HST.out HSG.out).mono ?_; rw [EU.out]; rintro e w2 ⟨A2, c2, rfl, ho2, hbd⟩
            have hb2 := below_of_drew hbd
            have C2 := Below.step' hbq (Nat.le_refl _) hb2
            obtain ⟨g, rfl, _, _, gc, _⟩ := ho2.at_ (by omega)
            have cg := gc b _ 0 _ HRW.out rfl
            simp only [Nat.mul_one, Nat.add_zero] at cg
            clear gc
            go_wp2_with fail
            refine hK.out _ _ (carq2.out _ C2) (fun hHeld => ?_)
            clear hK K
            try simp only [Act.put, List.setIfInBounds_toArray, List.set_cons_zero, List.set_cons_succ]
            have hb1' : (b : Int) < (b : Int) + 1 := by omega
            refine wpAnyH_take (i := 16) (oi := _) (v := ?_) rfl (by kernel_rfl) (by kernel_rfl) (by kernel_rfl) (fun _ _ _ h => h) (Or.inl ⟨by rfl, ?_⟩) (by assumption) ?_
            rotate_left
            · (intro w hSw; (try dsimp only at hSw); go_simp) <;> with_reducible rfl
            try simp only [Act.put, List.setIfInBounds_toArray, List.set_cons_zero, List.set_cons_succ]
            refine wpAnyH_ready (rs := [17]) (by kernel_rfl) (by simp) ?_
            refine AllReadyH.cons (o := _) rfl (fun K hK => ?_) AllReadyH.nil
            go_simp
            refine hK.out _ _ (carq2.out _ C2) (fun hHeld => ?_)
            clear hK K
            try simp only [Act.put, List.setIfInBounds_toArray, List.set_cons_zero, List.set_cons_succ]
            refine wpAnyH_take (i := 18) (oi := { dst := some 85, op := _, type := _, pos := _, after := _, guard := _ }) (v := ?_) rfl (by kernel_rfl) (by kernel_rfl) (by kernel_rfl) (fun _ _ _ h => h) (Or.inl ⟨by rfl, ?_⟩) (by assumption) ?_
            rotate_left
            · (intro w hSw; (try dsimp only at hSw); go_simp) <;> with_reducible rfl
            try simp only [Act.put, List.setIfInBounds_toArray, List.set_cons_zero, List.set_cons_succ]
            refine wpAnyH_done (by kernel_rfl) ?_ _
            try simp only [Act.put, List.setIfInBounds_toArray, List.set_cons_zero, List.set_cons_succ]
            go_wp2_with fail
            go_meet
            exact ⟨_, rfl, rfl, C2⟩
          case rest =>
            obtain ⟨v, rfl, hv, C2⟩ := hcut
            rename World => w2
            obtain ⟨z0, _, _⟩ := carz.out _ C2
            have HBR := Lib.hid (below_go b0 (Below.step' HBZ.out (Nat.le_refl _) C2))
            have hne : (x.1.toList == (rAt (hdAt st l kb ks t a) l b).toList) = !v := by rw [hv, bne, Bool.not_not]
            clear hv
            rcases v with _ | _
            rotate_left
            · have e1 := Lib.hid (EQ.out.trans (lie_hit2 HK.out hkL.out (bad_row HX.out EA.out EB.out HHA.out (decide_eq_false (fun e => by rw [e] at hne; simp at hne)))))
              clear hne
              go_wp2
              go_ret
              rw [e1.out]
              exact ⟨rfl, HBR.out⟩
            · have hE := Lib.hid (show decide (x.1 = rAt (hdAt st l kb ks t a) l b) = true from decide_eq_true (toList_inj (by simpa using hne)))
              have e1 := Lib.hid (fine_0 HX.out EA.out EB.out la (by rw [HN.out]; exact lb) HHA.out hE.out)
              clear hne
              go_wp2
              go_roundw
              case rel => exact ⟨_, by omega, by go_num, Lib.hid (badUp HK.out e1.out), Below.step' HBZ.out (Nat.le_refl _) C2⟩
              case measure => simp [intOf]; omega
      · obtain ⟨j, rfl⟩ : ∃ j, k = j + 1 := ⟨k - 1, by omega⟩
        obtain ⟨y, hy⟩ := some_of_lt (l := lL) (k := j) (by rw [HNL.out]; omega)
        obtain ⟨b5, o5, e5, _, d1, _, _⟩ := (L0.out.below HBZ.out (Nat.le_refl _)).at_3 hy
        injection e5 with e5
        injection e5 with e6 e7
        subst e6 e7
        have HY := Lib.hid hy
        clear hy
        have hI : (0 : Int) < (j : Int) + 1 := by omega
        have hwj : IntKind.i64.wrap ((j : Int) + 1 - 1) = (j : Int) := by rw [show (j : Int) + 1 - 1 = (j : Int) by omega]; exact wrap_id (by omega)
        have hwj2 : IntKind.i64.wrap (j : Int) = (j : Int) := wrap_id (by omega)
        have hji : (j : Int) < (nL : Int) := by omega
        have hj0 : (0 : Int) ≤ (j : Int) := by omega
        rcases hls : less y.1 x.1
        · have e1 := Lib.hid (EQ.out.trans (lie_hit2 HK.out hkL.out (bad_prev HX.out HY.out hls)))
          rcases less_tri x.1 y.1 with hq | hq | hq
          · have hbl : Op.bytesLess x.1.toList y.1.toList = true := hq
            clear hls hq
            go_region
            all_goals
              go_wp2
              go_ret
              rw [e1.out]
              exact ⟨rfl, by (have := HB.out); (repeat' (first | (with_reducible exact Below.refl _ _) | (with_reducible assumption) | (with_reducible refine below_drewN ?_ _) | (with_reducible refine Below.drew ?_) | (with_reducible refine below_alloc ?_ _) | (with_reducible refine Below.alloc ?_ ?_ _) | (with_reducible refine Below.setCell ?_ ?_ _) | (with_reducible refine below_go ?_ (by with_reducible assumption)) | (with_reducible refine below_then (by with_reducible assumption) ?_ ?_) | go_size))⟩
          · have hbl : Op.bytesLess x.1.toList y.1.toList = false := by (have q := less_irr x.1; rw [← hq]; exact q)
            have hbe : (x.1.toList == y.1.toList) = true := by rw [hq]; simp
            clear hls hq
            go_region
            all_goals
              go_wp2
              go_ret
              rw [e1.out]
              exact ⟨rfl, by (have := HB.out); (repeat' (first | (with_reducible exact Below.refl _ _) | (with_reducible assumption) | (with_reducible refine below_drewN ?_ _) | (with_reducible refine Below.drew ?_) | (with_reducible refine below_alloc ?_ _) | (with_reducible refine Below.alloc ?_ ?_ _) | (with_reducible refine Below.setCell ?_ ?_ _) | (with_reducible refine below_go ?_ (by with_reducible assumption)) | (with_reducible refine below_then (by with_reducible assumption) ?_ ?_) | go_size))⟩
          · rw [hls] at hq; cases hq
        · have hls2 := Lib.hid hls
          have hbl : Op.bytesLess x.1.toList y.1.toList = false := less_asym hls
          have hbe : (x.1.toList == y.1.toList) = false := less_ne hls
          clear hls
          by_cases f1 : (t.size : Int) ≤ (a : Int)
          · have e1 := Lib.hid (EQ.out.trans (lie_hit2 HK.out hkL.out (bad_lead HX.out (by rw [EA.out]; exact f1))))
            go_region
            all_goals
              go_wp2
              go_ret
              rw [e1.out]
              exact ⟨rfl, by (have := HB.out); (repeat' (first | (with_reducible exact Below.refl _ _) | (with_reducible assumption) | (with_reducible refine below_drewN ?_ _) | (with_reducible refine Below.drew ?_) | (with_reducible refine below_alloc ?_ _) | (with_reducible refine Below.alloc ?_ ?_ _) | (with_reducible refine Below.setCell ?_ ?_ _) | (with_reducible refine below_go ?_ (by with_reducible assumption)) | (with_reducible refine below_then (by with_reducible assumption) ?_ ?_) | go_size))⟩
          by_cases f2 : (n : Int) ≤ (b : Int)
          · have e1 := Lib.hid (EQ.out.trans (lie_hit2 HK.out hkL.out (bad_at HX.out (by rw [EB.out, HN.out]; exact f2))))
            go_region
            all_goals
              go_wp2
              go_ret
              rw [e1.out]
              exact ⟨rfl, by (have := HB.out); (repeat' (first | (with_reducible exact Below.refl _ _) | (with_reducible assumption) | (with_reducible refine below_drewN ?_ _) | (with_reducible refine Below.drew ?_) | (with_reducible refine below_alloc ?_ _) | (with_reducible refine Below.alloc ?_ ?_ _) | (with_reducible refine Below.setCell ?_ ?_ _) | (with_reducible refine below_go ?_ (by with_reducible assumption)) | (with_reducible refine below_then (by with_reducible assumption) ?_ ?_) | go_size))⟩
          have la : a < t.size := by omega
          have lb : b < n := by omega
          have HHA := Lib.hid (HH.out a (by omega))
          have carq : Hid (∀ u : World, Below wz.heap.size wz u → u.cell? ⟨w.heap.size, 2, none⟩ = some (.slice (some ⟨bA, oA, none⟩) n c) ∧ u.cell? ⟨w.heap.size + 1 + 1, 0, none⟩ = some (.slice (some ⟨bH, oH, none⟩) nH cH) ∧ u.cell? ⟨wr.heap.size, 1, none⟩ = some (.int .i64 a) ∧ u.cell? ⟨wr.heap.size, 2, none⟩ = some (.int .i64 b) ∧ u.cell? ⟨bH, oH + a, none⟩ = some (.string (hdAt st l kb ks t a))) := Lib.hid (fun u hu => by
            have hu2 := Below.step' HBZ.out (Nat.le_refl _) hu
            obtain ⟨c0, c1, c2⟩ := carry.out _ hu2
            obtain ⟨z0, z1, z2⟩ := carz.out _ hu
            obtain ⟨b4, o4, y, e4, _, hy, hcy⟩ := (P0.out.below hu2 (Nat.le_refl _)).at_str (k := a) (by rw [HNH.out, HNT.out]; omega)
            injection e4 with e4
            injection e4 with e5 e6
            subst e5 e6
            rw [HHA.out] at hy
            injection hy with hy
            subst hy
            exact ⟨c0, c1, z1, z2, hcy⟩)
          have p2 := HD.out a
          have y1 : (hdAt st l kb ks t a).size ≤ 8 := by rw [p2.2]; omega
          clear p2
          have HT := Lib.hid (show (l.take b).length = b by rw [List.length_take, HN.out]; omega)
          have HST := Lib.hid (fun (s' : ByteArray) (hs' : s' ∈ l.take b) => HS.out s' (List.mem_of_mem_take hs'))
          have ET := Lib.hid (show rAt (hdAt st l kb ks t a) (l.take b) b = rAt (hdAt st l kb ks t a) l b from rAt_take _ _ _ _ (Nat.le_refl _))
          have RB : Hid (∀ u : World, Below wz.heap.size wz u → Strs u (some ⟨bA, oA, none⟩) (l.take b)) := Lib.hid (fun u hu => by
            have hu2 := Below.step' HBZ.out (Nat.le_refl _) hu
            have q := (H0.out.below hu2 (Nat.le_refl _)).part 0 b (Nat.zero_le _) (by rw [HN.out]; omega)
            simpa using q)
          have hbc : (b : Int) ≤ (c : Int) := by omega
          have hb0 : (0 : Int) ≤ (b : Int) := by omega
          have haH : (a : Int) < (nH : Int) := by (have := HNT.out; omega)
          have ha0 : (0 : Int) ≤ (a : Int) := by omega
          have HSG := Lib.hid (fun (s' : ByteArray) (hs' : s' ∈ l.take b) => HG.out s' (List.mem_of_mem_take hs'))
          have EU := Lib.hid (show rowsL (hdAt st l kb ks t a) (l.take b) (b + 1) = rowsL (hdAt st l kb ks t a) l (b + 1) from rowsL_take _ _ _)
          have HRW := Lib.hid (show (rowsL (hdAt st l kb ks t a) l (b + 1))[b]? = some (rAt (hdAt st l kb ks t a) l b) by rw [rowsL, List.getElem?_map, List.getElem?_range (by omega)]; rfl)
          have carq2 : Hid (∀ u : World, Below wz.heap.size wz u → u.cell? ⟨w.heap.size, 2, none⟩ = some (.slice (some ⟨bA, oA, none⟩) n c) ∧ u.cell? ⟨w.heap.size + 1 + 1, 0, none⟩ = some (.slice (some ⟨bH, oH, none⟩) nH cH) ∧ u.cell? ⟨wr.heap.size, 0, none⟩ = some (.string x.1) ∧ u.cell? ⟨wr.heap.size, 1, none⟩ = some (.int .i64 a) ∧ u.cell? ⟨wr.heap.size, 2, none⟩ = some (.int .i64 b) ∧ u.cell? ⟨bH, oH + a, none⟩ = some (.string (hdAt st l kb ks t a))) := Lib.hid (fun u hu => by
            obtain ⟨q0, q1, q2, q3, q4⟩ := carq.out _ hu
            obtain ⟨s0, _, _⟩ := carz.out _ hu
            exact ⟨q0, q1, s0, q2, q3, q4⟩)
          go_cut [64] (fun s wx => s = .bool false ∧ Below wz.heap.size wz wx)
          case first =>
            go_region
            all_goals
              go_wp2_with fail
              go_meet
              exact ⟨rfl, by (repeat' (first | (with_reducible exact Below.refl _ _) | (with_reducible assumption) | (with_reducible refine below_drewN ?_ _) | (with_reducible refine Below.drew ?_) | (with_reducible refine below_alloc ?_ _) | (with_reducible refine Below.alloc ?_ ?_ _) | (with_reducible refine Below.setCell ?_ ?_ _) | (with_reducible refine below_go ?_ (by with_reducible assumption)) | (with_reducible refine below_then (by with_reducible assumption) ?_ ?_) | go_size))⟩
          case rest =>
            obtain ⟨rfl, hbq⟩ := hcut
            rename World => wq
            obtain ⟨q0, q1, s0, q2, q3, q4⟩ := carq2.out _ hbq
            clear z0 z1 z2 c0 c1 c2
            go_wp2_with fail
            clear q0 q1 q2 q3 q4
            go_cut [85] (fun s wx => ∃ q : Bool, s = .bool q ∧ q = (x.1.toList != (rAt (hdAt st l kb ks t a) l b).toList) ∧ Below wz.heap.size wz wx)
            case first =>
              refine wp_region_held_drew (S := fun u => u.cell? ⟨w.heap.size, 2, none⟩ = some (.slice (some ⟨bA, oA, none⟩) n c) ∧ u.cell? ⟨w.heap.size + 1 + 1, 0, none⟩ = some (.slice (some ⟨bH, oH, none⟩) nH cH) ∧ u.cell? ⟨wr.heap.size, 0, none⟩ = some (.string x.1) ∧ u.cell? ⟨wr.heap.size, 1, none⟩ = some (.int .i64 a) ∧ u.cell? ⟨wr.heap.size, 2, none⟩ = some (.int .i64 b) ∧ u.cell? ⟨bH, oH + a, none⟩ = some (.string (hdAt st l kb ks t a))) (by kernel_rfl) (carq2.out _ hbq.drew) (fun hHeld => ?_)
              refine wpAnyH_take (i := 0) (oi := _) (v := ?_) rfl (by kernel_rfl) (by kernel_rfl) (by kernel_rfl) (fun _ _ _ h => h) (Or.inl ⟨by rfl, ?_⟩) (by assumption) ?_
              rotate_left
              · (intro w hSw; (try dsimp only at hSw); go_simp) <;> with_reducible rfl
              try simp only [Act.put, List.setIfInBounds_toArray, List.set_cons_zero, List.set_cons_succ]
              refine wpAnyH_take (i := 1) (oi := _) (v := ?_) rfl (by kernel_rfl) (by kernel_rfl) (by kernel_rfl) (fun _ _ _ h => h) (Or.inl ⟨by rfl, ?_⟩) (by assumption) ?_
              rotate_left
              · (intro w hSw; (try dsimp only at hSw); go_simp) <;> with_reducible rfl
              try simp only [Act.put, List.setIfInBounds_toArray, List.set_cons_zero, List.set_cons_succ]
              refine wpAnyH_take (i := 2) (oi := _) (v := ?_) rfl (by kernel_rfl) (by kernel_rfl) (by kernel_rfl) (fun _ _ _ h => h) (Or.inl ⟨by rfl, ?_⟩) (by assumption) ?_
              rotate_left
              · (intro w hSw; (try dsimp only at hSw); go_simp) <;> with_reducible rfl
              try simp only [Act.put, List.setIfInBounds_toArray, List.set_cons_zero, List.set_cons_succ]
              refine wpAnyH_take (i := 3) (oi := _) (v := ?_) rfl (by kernel_rfl) (by kernel_rfl) (by kernel_rfl) (fun _ _ _ h => h) (Or.inl ⟨by rfl, ?_⟩) (by assumption) ?_
              rotate_left
              · (intro w hSw; (try dsimp only at hSw); go_simp) <;> with_reducible rfl
              try simp only [Act.put, List.setIfInBounds_toArray, List.set_cons_zero, List.set_cons_succ]
              refine wpAnyH_take (i := 4) (oi := _) (v := ?_) rfl (by kernel_rfl) (by kernel_rfl) (by kernel_rfl) (fun _ _ _ h => h) (Or.inl ⟨by rfl, ?_⟩) (by assumption) ?_
              rotate_left
              · (intro w hSw; (try dsimp only at hSw); go_simp) <;> with_reducible rfl
              try simp only [Act.put, List.setIfInBounds_toArray, List.set_cons_zero, List.set_cons_succ]
              refine wpAnyH_take (i := 5) (oi := _) (v := ?_) rfl (by kernel_rfl) (by kernel_rfl) (by kernel_rfl) (fun _ _ _ h => h) (Or.inl ⟨by rfl, ?_⟩) (by assumption) ?_
              rotate_left
              · (intro w hSw; (try dsimp only at hSw); go_simp) <;> with_reducible rfl
              try simp only [Act.put, List.setIfInBounds_toArray, List.set_cons_zero, List.set_cons_succ]
              refine wpAnyH_take (i := 6) (oi := _) (v := ?_) rfl (by kernel_rfl) (by kernel_rfl) (by kernel_rfl) (fun _ _ _ h => h) (Or.inl ⟨by rfl, ?_⟩) (by assumption) ?_
              rotate_left
              · (intro w hSw; (try dsimp only at hSw); go_simp) <;> with_reducible rfl
              try simp only [Act.put, List.setIfInBounds_toArray, List.set_cons_zero, List.set_cons_succ]
              refine wpAnyH_take (i := 7) (oi := _) (v := ?_) rfl (by kernel_rfl) (by kernel_rfl) (by kernel_rfl) (fun _ _ _ h => h) (Or.inl ⟨by rfl, ?_⟩) (by assumption) ?_
              rotate_left
              · (intro w hSw; (try dsimp only at hSw); go_simp) <;> with_reducible rfl
              try simp only [Act.put, List.setIfInBounds_toArray, List.set_cons_zero, List.set_cons_succ]
              refine wpAnyH_take (i := 8) (oi := _) (v := ?_) rfl (by kernel_rfl) (by kernel_rfl) (by kernel_rfl) (fun _ _ _ h => h) (Or.inl ⟨by rfl, ?_⟩) (by assumption) ?_
              rotate_left
              · (intro w hSw; (try dsimp only at hSw); go_simp) <;> with_reducible rfl
              try simp only [Act.put, List.setIfInBounds_toArray, List.set_cons_zero, List.set_cons_succ]
              refine wpAnyH_take (i := 9) (oi := _) (v := ?_) rfl (by kernel_rfl) (by kernel_rfl) (by kernel_rfl) (fun _ _ _ h => h) (Or.inl ⟨by rfl, ?_⟩) (by assumption) ?_
              rotate_left
              · (intro w hSw; (try dsimp only at hSw); go_simp) <;> with_reducible rfl
              try simp only [Act.put, List.setIfInBounds_toArray, List.set_cons_zero, List.set_cons_succ]
              refine wpAnyH_take (i := 10) (oi := _) (v := ?_) rfl (by kernel_rfl) (by kernel_rfl) (by kernel_rfl) (fun _ _ _ h => h) (Or.inl ⟨by rfl, ?_⟩) (by assumption) ?_
              rotate_left
              · (intro w hSw; (try dsimp only at hSw); go_simp) <;> with_reducible rfl
              try simp only [Act.put, List.setIfInBounds_toArray, List.set_cons_zero, List.set_cons_succ]
              refine wpAnyH_take (i := 11) (oi := _) (v := ?_) rfl (by kernel_rfl) (by kernel_rfl) (by kernel_rfl) (fun _ _ _ h => h) (Or.inl ⟨by rfl, ?_⟩) (by assumption) ?_
              rotate_left
              · (intro w hSw; (try dsimp only at hSw); go_simp) <;> with_reducible rfl
              try simp only [Act.put, List.setIfInBounds_toArray, List.set_cons_zero, List.set_cons_succ]
              refine wpAnyH_take (i := 12) (oi := _) (v := ?_) rfl (by kernel_rfl) (by kernel_rfl) (by kernel_rfl) (fun _ _ _ h => h) (Or.inl ⟨by rfl, ?_⟩) (by assumption) ?_
              rotate_left
              · (intro w hSw; (try dsimp only at hSw); go_simp) <;> with_reducible rfl
              try simp only [Act.put, List.setIfInBounds_toArray, List.set_cons_zero, List.set_cons_succ]
              refine wpAnyH_take (i := 14) (oi := _) (v := ?_) rfl (by kernel_rfl) (by kernel_rfl) (by kernel_rfl) (fun _ _ _ h => h) (Or.inl ⟨by rfl, ?_⟩) (by assumption) ?_
              rotate_left
              · (intro w hSw; (try dsimp only at hSw); go_simp) <;> with_reducible rfl
              try simp only [Act.put, List.setIfInBounds_toArray, List.set_cons_zero, List.set_cons_succ]
              refine wpAnyH_take (i := 15) (oi := _) (v := ?_) rfl (by kernel_rfl) (by kernel_rfl) (by kernel_rfl) (fun _ _ _ h => h) (Or.inl ⟨by rfl, ?_⟩) (by assumption) ?_
              rotate_left
              · (intro w hSw; (try dsimp only at hSw); go_simp) <;> with_reducible rfl
              try simp only [Act.put, List.setIfInBounds_toArray, List.set_cons_zero, List.set_cons_succ]
              refine wpAnyH_ready (rs := [13]) (by kernel_rfl) (by simp) ?_
              refine AllReadyH.cons (o := _) rfl (fun K hK => ?_) AllReadyH.nil
              go_simp
              refine (impl_rowsUnder y1 HT.out ((RB.out _ hbq).drew) (by omega) HST.out HSG.out).mono ?_; rw [EU.out]; rintro e w2 ⟨A2, c2, rfl, ho2, hbd⟩
              have hb2 := below_of_drew hbd
              have C2 := Below.step' hbq (Nat.le_refl _) hb2
              obtain ⟨g, rfl, _, _, gc, _⟩ := ho2.at_ (by omega)
              have cg := gc b _ 0 _ HRW.out rfl
              simp only [Nat.mul_one, Nat.add_zero] at cg
              clear gc
              go_wp2_with fail
              refine hK.out _ _ (carq2.out _ C2) (fun hHeld => ?_)
              clear hK K
              try simp only [Act.put, List.setIfInBounds_toArray, List.set_cons_zero, List.set_cons_succ]
              have hb1' : (b : Int) < (b : Int) + 1 := by omega
              refine wpAnyH_take (i := 16) (oi := _) (v := ?_) rfl (by kernel_rfl) (by kernel_rfl) (by kernel_rfl) (fun _ _ _ h => h) (Or.inl ⟨by rfl, ?_⟩) (by assumption) ?_
              rotate_left
              · (intro w hSw; (try dsimp only at hSw); go_simp) <;> with_reducible rfl
              try simp only [Act.put, List.setIfInBounds_toArray, List.set_cons_zero, List.set_cons_succ]
              refine wpAnyH_ready (rs := [17]) (by kernel_rfl) (by simp) ?_
              refine AllReadyH.cons (o := _) rfl (fun K hK => ?_) AllReadyH.nil
              go_simp
              refine hK.out _ _ (carq2.out _ C2) (fun hHeld => ?_)
              clear hK K
              try simp only [Act.put, List.setIfInBounds_toArray, List.set_cons_zero, List.set_cons_succ]
              refine wpAnyH_take (i := 18) (oi := { dst := some 85, op := _, type := _, pos := _, after := _, guard := _ }) (v := ?_) rfl (by kernel_rfl) (by kernel_rfl) (by kernel_rfl) (fun _ _ _ h => h) (Or.inl ⟨by rfl, ?_⟩) (by assumption) ?_
              rotate_left
              · (intro w hSw; (try dsimp only at hSw); go_simp) <;> with_reducible rfl
              try simp only [Act.put, List.setIfInBounds_toArray, List.set_cons_zero, List.set_cons_succ]
              refine wpAnyH_done (by kernel_rfl) ?_ _
              try simp only [Act.put, List.setIfInBounds_toArray, List.set_cons_zero, List.set_cons_succ]
              go_wp2_with fail
              go_meet
              exact ⟨_, rfl, rfl, C2⟩
            case rest =>
              obtain ⟨v, rfl, hv, C2⟩ := hcut
              rename World => w2
              obtain ⟨z0, _, _⟩ := carz.out _ C2
              have HBR := Lib.hid (below_go b0 (Below.step' HBZ.out (Nat.le_refl _) C2))
              have hne : (x.1.toList == (rAt (hdAt st l kb ks t a) l b).toList) = !v := by rw [hv, bne, Bool.not_not]
              clear hv
              rcases v with _ | _
              rotate_left
              · have e1 := Lib.hid (EQ.out.trans (lie_hit2 HK.out hkL.out (bad_row HX.out EA.out EB.out HHA.out (decide_eq_false (fun e => by rw [e] at hne; simp at hne)))))
                clear hne
                go_wp2
                go_ret
                rw [e1.out]
                exact ⟨rfl, HBR.out⟩
              · have hE := Lib.hid (show decide (x.1 = rAt (hdAt st l kb ks t a) l b) = true from decide_eq_true (toList_inj (by simpa using hne)))
                have e1 := Lib.hid (fine_s HX.out HY.out EA.out EB.out la (by rw [HN.out]; exact lb) hls2.out HHA.out hE.out)
                clear hne
                go_wp2
                go_roundw
                case rel => exact ⟨_, by omega, by go_num, Lib.hid (badUp HK.out e1.out), Below.step' HBZ.out (Nat.le_refl _) C2⟩
                case measure => simp [intOf]; omega
    · obtain rfl : nL = k := by omega
      have e1 := Lib.hid (show flZ st l kb ks t lH lL = -1 from EQ.out.trans (lie_miss2 (fun j hj => HK.out j (by rw [← HNL.out]; exact hj))))
      go_wp2
      go_ret
      rw [e1.out]
      exact ⟨rfl, below_go b0 hb⟩
end Go.Proofs.Ytmdmnjjlpefigaa
