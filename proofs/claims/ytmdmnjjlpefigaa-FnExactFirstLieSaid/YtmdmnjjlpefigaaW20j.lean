/- The first wrong line of a proof, the reference's side. -/
import Derived.Test.YtmdmnjjlpefigaaW20i
import Derived.BigRegion
namespace Go.Proofs.Ytmdmnjjlpefigaa
set_option linter.unusedVariables false
set_option linter.unusedSimpArgs false
open Go.ChangeShapes Go.WideShapes Go.ChangeAt Go.RowKit Go.Deep
def lineAt (lL : List Line3) (i : Nat) : Line3 := lL.getD i (ByteArray.empty, 0, 0)
/-- Is line i wrong? -/
def lineBad (T : Nat) (l lH : List ByteArray) (lL : List Line3) (i : Nat) : Bool :=
  (decide (0 < i) && !less (lineAt lL (i - 1)).1 (lineAt lL i).1) || (decide ((T : Int) ≤ (lineAt lL i).2.1) || (decide ((l.length : Int) ≤ (lineAt lL i).2.2) || decide ((lineAt lL i).1 ≠ rAt (lH.getD (lineAt lL i).2.1.toNat ByteArray.empty) l (lineAt lL i).2.2.toNat)))
def lieIx (T : Nat) (l lH : List ByteArray) (lL : List Line3) : Option Nat := (List.range lL.length).find? (lineBad T l lH lL)
def lieZ (T : Nat) (l lH : List ByteArray) (lL : List Line3) : Int := match lieIx T l lH lL with
  | some i => (i : Int)
  | none => -1
theorem find_hit {f : Nat → Bool} {n k : Nat} (h : ∀ j, j < k → f j = false) (hk : k < n) (hf : f k = true) : (List.range n).find? f = some k := by
  rw [List.find?_range_eq_some]
  exact ⟨hf, List.mem_range.2 hk, fun j hj => by rw [h j hj]; rfl⟩
theorem find_miss {f : Nat → Bool} {n : Nat} (h : ∀ j, j < n → f j = false) : (List.range n).find? f = none := by
  rw [List.find?_eq_none]
  intro x hx
  rw [h x (List.mem_range.1 hx)]; simp
theorem lie_hit {T : Nat} {l lH : List ByteArray} {lL : List Line3} {k : Nat} (h : ∀ j, j < k → lineBad T l lH lL j = false) (hk : k < lL.length) (hf : lineBad T l lH lL k = true) : lieZ T l lH lL = k := by
  rw [lieZ, lieIx, find_hit h hk hf]
theorem lie_miss {T : Nat} {l lH : List ByteArray} {lL : List Line3} (h : ∀ j, j < lL.length → lineBad T l lH lL j = false) : lieZ T l lH lL = -1 := by
  rw [lieZ, lieIx, find_miss h]
theorem lineAt_some {lL : List Line3} {k : Nat} {x : Line3} (h : lL[k]? = some x) : lineAt lL k = x := by rw [lineAt, List.getD, h]; rfl
theorem badUp {f : Nat → Bool} {k : Nat} (h : ∀ j, j < k → f j = false) (hk : f k = false) : ∀ j, j < k + 1 → f j = false := by
  intro j hj
  by_cases e : j = k
  · subst e; exact hk
  · exact h j (by omega)
section
variable {T : Nat} {l lH : List ByteArray} {lL : List Line3} {k a b : Nat} {x y : Line3} {hd : ByteArray}
theorem bad_lead (hx : lL[k]? = some x) (h : (T : Int) ≤ x.2.1) : lineBad T l lH lL k = true := by
  rw [lineBad, lineAt_some hx, decide_eq_true h]; simp
theorem bad_at (hx : lL[k]? = some x) (h : (l.length : Int) ≤ x.2.2) : lineBad T l lH lL k = true := by
  rw [lineBad, lineAt_some hx, decide_eq_true h]; simp
theorem bad_prev (hx : lL[k + 1]? = some x) (hy : lL[k]? = some y) (h : less y.1 x.1 = false) : lineBad T l lH lL (k + 1) = true := by
  rw [lineBad, lineAt_some hx, Nat.add_sub_cancel, lineAt_some hy, h]; simp
theorem bad_row (hx : lL[k]? = some x) (ea : x.2.1 = (a : Int)) (eb : x.2.2 = (b : Int)) (hh : lH[a]? = some hd) (h : decide (x.1 = rAt hd l b) = false) : lineBad T l lH lL k = true := by
  have h2 : ¬ x.1 = rAt hd l b := of_decide_eq_false h
  rw [lineBad, lineAt_some hx, ea, eb, Int.toNat_natCast, Int.toNat_natCast, List.getD, hh]
  simp [h2]
theorem fine_0 (hx : lL[0]? = some x) (ea : x.2.1 = (a : Int)) (eb : x.2.2 = (b : Int)) (h1 : a < T) (h2 : b < l.length) (hh : lH[a]? = some hd) (h : decide (x.1 = rAt hd l b) = true) : lineBad T l lH lL 0 = false := by
  have h3 : x.1 = rAt hd l b := of_decide_eq_true h
  rw [lineBad, lineAt_some hx, ea, eb, Int.toNat_natCast, Int.toNat_natCast, List.getD, hh, decide_eq_false (show ¬ (T : Int) ≤ (a : Int) by omega), decide_eq_false (show ¬ (l.length : Int) ≤ (b : Int) by omega)]
  simp [h3]
theorem fine_s (hx : lL[k + 1]? = some x) (hy : lL[k]? = some y) (ea : x.2.1 = (a : Int)) (eb : x.2.2 = (b : Int)) (h1 : a < T) (h2 : b < l.length) (hl : less y.1 x.1 = true) (hh : lH[a]? = some hd) (h : decide (x.1 = rAt hd l b) = true) : lineBad T l lH lL (k + 1) = false := by
  have h3 : x.1 = rAt hd l b := of_decide_eq_true h
  rw [lineBad, lineAt_some hx, Nat.add_sub_cancel, lineAt_some hy, ea, eb, Int.toNat_natCast, Int.toNat_natCast, List.getD, hh, hl, decide_eq_false (show ¬ (T : Int) ≤ (a : Int) by omega), decide_eq_false (show ¬ (l.length : Int) ≤ (b : Int) by omega)]
  simp [h3]
end
theorem goodPf_t {lH : List ByteArray} {lL : List Line3} (h : goodPf lH lL = true) : lH.length ≤ 61 ∧ lL.length ≤ 800 ∧ (∀ s ∈ lH, digOk s = true) ∧ ∀ x ∈ lL, goodLn x = true := by
  rw [goodPf] at h
  simp only [Bool.and_eq_true, decide_eq_true_eq, List.all_eq_true] at h
  exact ⟨h.1.1, h.1.2, h.2.1, h.2.2⟩
theorem goodLn_t {x : Line3} (h : goodLn x = true) : ∃ a b : Nat, x.2.1 = (a : Int) ∧ x.2.2 = (b : Int) ∧ a ≤ 60 ∧ b ≤ 40 := by
  rw [goodLn] at h
  simp only [Bool.and_eq_true] at h
  have h1 := inB_t h.2.1; have h2 := inB_t h.2.2
  exact ⟨x.2.1.toNat, x.2.2.toNat, by omega, by omega, by omega, by omega⟩
set_option maxHeartbeats 4000000 in
set_option maxRecDepth 100000 in
theorem spec_l20Lie {A : Option Addr} {n c st : Nat} {nm : ByteArray} {l : List ByteArray} {kb ks : ByteArray} {t : ByteArray} {AH : Option Addr} {nH cH : Nat} {lH : List ByteArray} {AL : Option Addr} {nL cL : Nat} {lL : List Line3} {w : World} (hn : l.length = n) (h : Strs w A l) (hk : goodK nm (st : Int) l kb ks = true) (hg : goodT t = true) (hcap : n ≤ c) (hnH : lH.length = nH) (hH : Strs w AH lH) (hnL : lL.length = nL) (hL : Recs lineE 3 w AL lL) (hzH : nH ≤ 1048576) (hzL : nL ≤ 1048576) (hsH : ∀ s ∈ lH, s.size ≤ 16777216) (hsL : ∀ x ∈ lL, x.1.size ≤ 16777216) (hgp : goodPf lH lL = true) (hhd : lH = hdsL st l kb ks t (t.size + 1)) :
    Calls Try.prog 95 #[.agg #[.string nm, .int .i64 st, .slice A n c], .string t, .agg #[.slice AH nH cH, .slice AL nL cL]] w fun e w' => e = .returned (.int .i64 (lieZ t.size l lH lL)) ∧ Below w.heap.size w w' := by
  obtain ⟨h8, h40, hgl, _⟩ := goodK_all hk
  obtain ⟨ht1, ht60, _⟩ := goodT_t hg
  have hn40 : n ≤ 40 := by omega
  have HS := Lib.hid (fun (s' : ByteArray) (hs' : s' ∈ l) => show s'.size ≤ 16777216 from by have := goodChange_small (hgl s' hs'); omega)
  clear hgl
  have HD := Lib.hid (fun k => hdAt_good h8.1 h8.2 l kb ks t k)
  have HH := Lib.hid (fun (a : Nat) (ha : a ≤ t.size) => show lH[a]? = some (hdAt st l kb ks t a) from by rw [hhd]; exact hdsL_at (by omega))
  have hnt : nH = t.size + 1 := by rw [← hnH, hhd, hdsL_len]
  obtain ⟨_, hl8, _, hgl⟩ := goodPf_t hgp
  have HGL := Lib.hid hgl
  have hnL8 : nL ≤ 800 := by omega
  clear hgl hhd hgp hl8
  obtain ⟨bA, oA, _, rfl, _, _, _⟩ := h.at_str (k := 0) (by omega)
  obtain ⟨bH, oH, _, rfl, _, _, _⟩ := hH.at_str (k := 0) (by omega)
  have HNT := Lib.hid hnt
  clear hnt
  have b0 : Below w.heap.size w ((w.alloc (.cells ⟨[.string nm, .int .i64 st, .slice (some ⟨bA, oA, none⟩) n c]⟩ 42)).alloc (.cells ⟨[.slice (some ⟨bH, oH, none⟩) nH cH, .slice AL nL cL]⟩ 71)) := by (repeat' (first | (with_reducible exact Below.refl _ _) | (with_reducible assumption) | (with_reducible refine below_drewN ?_ _) | (with_reducible refine Below.drew ?_) | (with_reducible refine below_alloc ?_ _) | (with_reducible refine Below.alloc ?_ ?_ _) | (with_reducible refine Below.setCell ?_ ?_ _) | (with_reducible refine below_go ?_ (by with_reducible assumption)) | (with_reducible refine below_then (by with_reducible assumption) ?_ ?_) | go_size))
  have K0 := (Blk.at_ w 42 [.string nm, .int .i64 st, .slice (some ⟨bA, oA, none⟩) n c] (b := w.heap.size) rfl).alloc (.cells ⟨[.slice (some ⟨bH, oH, none⟩) nH cH, .slice AL nL cL]⟩ 71)
  have K1 := Blk.at_ (w.alloc (.cells ⟨[.string nm, .int .i64 st, .slice (some ⟨bA, oA, none⟩) n c]⟩ 42)) 71 [.slice (some ⟨bH, oH, none⟩) nH cH, .slice AL nL cL] (b := w.heap.size + 1) (by simp)
  go_in
  go_upto_region 1 with fail
  obtain ⟨w0, hw0⟩ : ∃ u, u = ((w.alloc (.cells #[.string nm, .int .i64 st, .slice (some ⟨bA, oA, none⟩) n c] 42)).alloc (.cells #[.slice (some ⟨bH, oH, none⟩) nH cH, .slice AL nL cL] 71)) := ⟨_, rfl⟩
  rw [← hw0] at b0 K0 K1 ⊢
  clear hw0
  have H0 := Lib.hid (h.up b0)
  have P0 := Lib.hid (hH.up b0)
  have L0 := Lib.hid (hL.up b0)
  have HN := Lib.hid hn
  have HNH := Lib.hid hnH
  have HNL := Lib.hid hnL
  have carry : Hid (∀ u : World, Below w0.heap.size w0 u → u.cell? ⟨w.heap.size, 2, none⟩ = some (.slice (some ⟨bA, oA, none⟩) n c) ∧ u.cell? ⟨w.heap.size + 1, 0, none⟩ = some (.slice (some ⟨bH, oH, none⟩) nH cH) ∧ u.cell? ⟨w.heap.size + 1, 1, none⟩ = some (.slice AL nL cL)) := Lib.hid (fun u hu => by
    have L0 := K0.up hu; have L1 := K1.up hu
    exact ⟨by simpa using L0.cell 2, by simpa using L1.cell 0, by simpa using L1.cell 1⟩)
  clear h hH hL K0 K1 hn hnH hnL hsH hsL
  obtain ⟨c0, c1, c2⟩ := carry.out _ (Below.refl _ _)
  go_wp2
  go_loopw [14] (fun i wr => ∃ k : Nat, k ≤ nL ∧ i = .int .i64 k ∧ Hid (∀ j, j < k → lineBad t.size l lH lL j = false) ∧ Below w0.heap.size w0 wr) (fun i _ => nL - (intOf i).toNat)
  case atStart => exact ⟨0, Nat.zero_le _, rfl, Lib.hid (fun j hj => absurd hj (by omega)), Below.refl _ _⟩
  case round =>
    obtain ⟨k, hk1, rfl, HK, hb⟩ := hrel
    clear c0 c1 c2
    by_cases hlt : k < nL
    · obtain ⟨x, hx⟩ := some_of_lt (l := lL) (k := k) (by rw [HNL.out]; exact hlt)
      obtain ⟨b1, o1, e3, hbb, hc1, hc2, hc3⟩ := (L0.out.below hb (Nat.le_refl _)).at_3 hx
      obtain ⟨a, b, ea, eb, ha60, hb40⟩ := goodLn_t (HGL.out x (List.mem_of_getElem? hx))
      have HX := Lib.hid hx
      have EA := Lib.hid ea
      have EB := Lib.hid eb
      rw [ea] at hc2
      rw [eb] at hc3
      subst e3
      clear hx ea eb
      go_wp2_with fail
      obtain ⟨wz, hwz⟩ : ∃ u, u = wr.alloc (.cells #[.string x.1, .int .i64 a, .int .i64 b] 143) := ⟨_, rfl⟩
      have KZ := Blk.at_ wr 143 [.string x.1, .int .i64 a, .int .i64 b] (b := wr.heap.size) rfl
      have hbz : Below w0.heap.size w0 wz := by rw [hwz]; exact hb.alloc hb.size _
      rw [← hwz] at KZ ⊢
      clear hwz hc1 hc2 hc3
      have carz : Hid (∀ u : World, Below wz.heap.size wz u → u.cell? ⟨wr.heap.size, 0, none⟩ = some (.string x.1) ∧ u.cell? ⟨wr.heap.size, 1, none⟩ = some (.int .i64 a) ∧ u.cell? ⟨wr.heap.size, 2, none⟩ = some (.int .i64 b)) := Lib.hid (fun u hu => by
        have L := KZ.up hu
        exact ⟨by simpa using L.cell 0, by simpa using L.cell 1, by simpa using L.cell 2⟩)
      clear KZ
      obtain ⟨c0, c1, c2⟩ := carry.out _ hbz
      obtain ⟨z0, z1, z2⟩ := carz.out _ (Below.refl _ _)
      have HB := Lib.hid (below_go b0 hbz)
      have HBZ := Lib.hid hbz
      have hkL := Lib.hid (show k < lL.length from by rw [HNL.out]; exact hlt)
      clear hb hbz
      by_cases f1 : (t.size : Int) ≤ (a : Int)
      · have e1 := Lib.hid (lie_hit HK.out hkL.out (bad_lead HX.out (by rw [EA.out]; exact f1)))
        go_region
        all_goals
          go_wp2
          go_ret
          rw [e1.out]
          exact ⟨rfl, by (have := HB.out); (repeat' (first | (with_reducible exact Below.refl _ _) | (with_reducible assumption) | (with_reducible refine below_drewN ?_ _) | (with_reducible refine Below.drew ?_) | (with_reducible refine below_alloc ?_ _) | (with_reducible refine Below.alloc ?_ ?_ _) | (with_reducible refine Below.setCell ?_ ?_ _) | (with_reducible refine below_go ?_ (by with_reducible assumption)) | (with_reducible refine below_then (by with_reducible assumption) ?_ ?_) | go_size))⟩
      by_cases f2 : (n : Int) ≤ (b : Int)
      · have e1 := Lib.hid (lie_hit HK.out hkL.out (bad_at HX.out (by rw [EB.out, HN.out]; exact f2)))
        go_region
        all_goals
          go_wp2
          go_ret
          rw [e1.out]
          exact ⟨rfl, by (have := HB.out); (repeat' (first | (with_reducible exact Below.refl _ _) | (with_reducible assumption) | (with_reducible refine below_drewN ?_ _) | (with_reducible refine Below.drew ?_) | (with_reducible refine below_alloc ?_ _) | (with_reducible refine Below.alloc ?_ ?_ _) | (with_reducible refine Below.setCell ?_ ?_ _) | (with_reducible refine below_go ?_ (by with_reducible assumption)) | (with_reducible refine below_then (by with_reducible assumption) ?_ ?_) | go_size))⟩
      have la : a < t.size := by omega
      have lb : b < n := by omega
      have HHA := Lib.hid (HH.out a (by omega))
      have carq : Hid (∀ u : World, Below wz.heap.size wz u → u.cell? ⟨w.heap.size, 2, none⟩ = some (.slice (some ⟨bA, oA, none⟩) n c) ∧ u.cell? ⟨w.heap.size + 1, 0, none⟩ = some (.slice (some ⟨bH, oH, none⟩) nH cH) ∧ u.cell? ⟨wr.heap.size, 1, none⟩ = some (.int .i64 a) ∧ u.cell? ⟨wr.heap.size, 2, none⟩ = some (.int .i64 b) ∧ u.cell? ⟨bH, oH + a, none⟩ = some (.string (hdAt st l kb ks t a))) := Lib.hid (fun u hu => by
        have hu2 := Below.step' HBZ.out (Nat.le_refl _) hu
        obtain ⟨c0, c1, c2⟩ := carry.out _ hu2
        obtain ⟨z0, z1, z2⟩ := carz.out _ hu
        obtain ⟨b4, o4, y, e4, _, hy, hcy⟩ := (P0.out.below hu2 (Nat.le_refl _)).at_str (k := a) (by rw [HNH.out, HNT.out]; omega)
        injection e4 with e4
        injection e4 with e5 e6
        subst e5 e6
        rw [HHA.out] at hy
        injection hy with hy
        subst hy
        exact ⟨c0, c1, z1, z2, hcy⟩)
      have p2 := HD.out a
      have y1 : (hdAt st l kb ks t a).size ≤ 8 := by rw [p2.2]; omega
      clear p2
      have HT := Lib.hid (show (l.take b).length = b by rw [List.length_take, HN.out]; omega)
      have HST := Lib.hid (fun (s' : ByteArray) (hs' : s' ∈ l.take b) => HS.out s' (List.mem_of_mem_take hs'))
      have ET := Lib.hid (show rAt (hdAt st l kb ks t a) (l.take b) b = rAt (hdAt st l kb ks t a) l b from rAt_take _ _ _ _ (Nat.le_refl _))
      have RB : Hid (∀ u : World, Below wz.heap.size wz u → Strs u (some ⟨bA, oA, none⟩) (l.take b)) := Lib.hid (fun u hu => by
        have hu2 := Below.step' HBZ.out (Nat.le_refl _) hu
        have q := (H0.out.below hu2 (Nat.le_refl _)).part 0 b (Nat.zero_le _) (by rw [HN.out]; omega)
        simpa using q)
      have hbc : (b : Int) ≤ (c : Int) := by omega
      have hb0 : (0 : Int) ≤ (b : Int) := by omega
      have haH : (a : Int) < (nH : Int) := by (have := HNT.out; omega)
      have ha0 : (0 : Int) ≤ (a : Int) := by omega
      rcases Nat.eq_zero_or_pos k with rfl | hpos
      · have hI : ¬ (0 : Int) < ((0 : Nat) : Int) := by omega
        go_cut [47] (fun s wx => s = .bool false ∧ Below wz.heap.size wz wx)
        case first =>
          go_region
          all_goals
            go_wp2_with fail
            go_meet
            exact ⟨rfl, by (repeat' (first | (with_reducible exact Below.refl _ _) | (with_reducible assumption) | (with_reducible refine below_drewN ?_ _) | (with_reducible refine Below.drew ?_) | (with_reducible refine below_alloc ?_ _) | (with_reducible refine Below.alloc ?_ ?_ _) | (with_reducible refine Below.setCell ?_ ?_ _) | (with_reducible refine below_go ?_ (by with_reducible assumption)) | (with_reducible refine below_then (by with_reducible assumption) ?_ ?_) | go_size))⟩
        case rest =>
          obtain ⟨rfl, hbq⟩ := hcut
          rename World => wq
          obtain ⟨q0, q1, q2, q3, q4⟩ := carq.out _ hbq
          clear z0 z1 z2 c0 c1 c2
          go_wp2_with fail
          clear q0 q1 q2 q3 q4
          go_region_held3 (fun u => u.cell? ⟨w.heap.size, 2, none⟩ = some (.slice (some ⟨bA, oA, none⟩) n c) ∧ u.cell? ⟨w.heap.size + 1, 0, none⟩ = some (.slice (some ⟨bH, oH, none⟩) nH cH) ∧ u.cell? ⟨wr.heap.size, 1, none⟩ = some (.int .i64 a) ∧ u.cell? ⟨wr.heap.size, 2, none⟩ = some (.int .i64 b) ∧ u.cell? ⟨bH, oH + a, none⟩ = some (.string (hdAt st l kb ks t a))) (first | exact carq.out _ C2 | exact carq.out _ hbq | exact carq.out _ hbq.drew) (first | (go_at_call 142; refine (spec_l4Lead y1 HT.out ((RB.out _ hbq).drew) (by omega) HST.out).mono ?_; rw [ET.out]; rintro e w2 ⟨A2, c2, rfl, ho2, hbd⟩; have hb2 := below_of_drew hbd; have C2 := Below.step' hbq (Nat.le_refl _) hb2))
          obtain ⟨z0, _, _⟩ := carz.out _ C2
          have HBR := Lib.hid (below_go b0 (Below.step' HBZ.out (Nat.le_refl _) C2))
          rcases hne : ((rAt (hdAt st l kb ks t a) l b).toList == x.1.toList)
          · have e1 := Lib.hid (lie_hit HK.out hkL.out (bad_row HX.out EA.out EB.out HHA.out (decide_eq_false (fun e => by rw [← e] at hne; simp at hne))))
            have hn2 := Lib.hid hne
            go_wp2
            go_ret
            rw [e1.out]
            exact ⟨rfl, HBR.out⟩
          · have hE := Lib.hid (show decide (x.1 = rAt (hdAt st l kb ks t a) l b) = true from decide_eq_true (toList_inj (Eq.symm (by simpa using hne))))
            have e1 := Lib.hid (fine_0 HX.out EA.out EB.out la (by rw [HN.out]; exact lb) HHA.out hE.out)
            go_wp2
            go_roundw
            case rel => exact ⟨_, by omega, by go_num, Lib.hid (badUp HK.out e1.out), Below.step' HBZ.out (Nat.le_refl _) C2⟩
            case measure => simp [intOf]; omega
      · obtain ⟨j, rfl⟩ : ∃ j, k = j + 1 := ⟨k - 1, by omega⟩
        obtain ⟨y, hy⟩ := some_of_lt (l := lL) (k := j) (by rw [HNL.out]; omega)
        obtain ⟨b5, o5, e5, _, d1, _, _⟩ := (L0.out.below HBZ.out (Nat.le_refl _)).at_3 hy
        injection e5 with e5
        injection e5 with e6 e7
        subst e6 e7
        have HY := Lib.hid hy
        clear hy
        have hI : (0 : Int) < (j : Int) + 1 := by omega
        have hwj : IntKind.i64.wrap ((j : Int) + 1 - 1) = (j : Int) := by rw [show (j : Int) + 1 - 1 = (j : Int) by omega]; exact wrap_id (by omega)
        have hji : (j : Int) < (nL : Int) := by omega
        have hj0 : (0 : Int) ≤ (j : Int) := by omega
        rcases hls : less y.1 x.1
        · have e1 := Lib.hid (lie_hit HK.out hkL.out (bad_prev HX.out HY.out hls))
          have hbl : Op.bytesLess y.1.toList x.1.toList = false := hls
          clear hls
          go_region
          all_goals
            go_wp2
            go_ret
            rw [e1.out]
            exact ⟨rfl, by (have := HB.out); (repeat' (first | (with_reducible exact Below.refl _ _) | (with_reducible assumption) | (with_reducible refine below_drewN ?_ _) | (with_reducible refine Below.drew ?_) | (with_reducible refine below_alloc ?_ _) | (with_reducible refine Below.alloc ?_ ?_ _) | (with_reducible refine Below.setCell ?_ ?_ _) | (with_reducible refine below_go ?_ (by with_reducible assumption)) | (with_reducible refine below_then (by with_reducible assumption) ?_ ?_) | go_size))⟩
        · have hls2 := Lib.hid hls
          have hbl : Op.bytesLess y.1.toList x.1.toList = true := hls
          clear hls
          go_cut [47] (fun s wx => s = .bool false ∧ Below wz.heap.size wz wx)
          case first =>
            go_region
            all_goals
              go_wp2_with fail
              go_meet
              exact ⟨rfl, by (repeat' (first | (with_reducible exact Below.refl _ _) | (with_reducible assumption) | (with_reducible refine below_drewN ?_ _) | (with_reducible refine Below.drew ?_) | (with_reducible refine below_alloc ?_ _) | (with_reducible refine Below.alloc ?_ ?_ _) | (with_reducible refine Below.setCell ?_ ?_ _) | (with_reducible refine below_go ?_ (by with_reducible assumption)) | (with_reducible refine below_then (by with_reducible assumption) ?_ ?_) | go_size))⟩
          case rest =>
            obtain ⟨rfl, hbq⟩ := hcut
            rename World => wq
            obtain ⟨q0, q1, q2, q3, q4⟩ := carq.out _ hbq
            clear z0 z1 z2 c0 c1 c2
            go_wp2_with fail
            clear q0 q1 q2 q3 q4
            go_region_held3 (fun u => u.cell? ⟨w.heap.size, 2, none⟩ = some (.slice (some ⟨bA, oA, none⟩) n c) ∧ u.cell? ⟨w.heap.size + 1, 0, none⟩ = some (.slice (some ⟨bH, oH, none⟩) nH cH) ∧ u.cell? ⟨wr.heap.size, 1, none⟩ = some (.int .i64 a) ∧ u.cell? ⟨wr.heap.size, 2, none⟩ = some (.int .i64 b) ∧ u.cell? ⟨bH, oH + a, none⟩ = some (.string (hdAt st l kb ks t a))) (first | exact carq.out _ C2 | exact carq.out _ hbq | exact carq.out _ hbq.drew) (first | (go_at_call 142; refine (spec_l4Lead y1 HT.out ((RB.out _ hbq).drew) (by omega) HST.out).mono ?_; rw [ET.out]; rintro e w2 ⟨A2, c2, rfl, ho2, hbd⟩; have hb2 := below_of_drew hbd; have C2 := Below.step' hbq (Nat.le_refl _) hb2))
            obtain ⟨z0, _, _⟩ := carz.out _ C2
            have HBR := Lib.hid (below_go b0 (Below.step' HBZ.out (Nat.le_refl _) C2))
            rcases hne : ((rAt (hdAt st l kb ks t a) l b).toList == x.1.toList)
            · have e1 := Lib.hid (lie_hit HK.out hkL.out (bad_row HX.out EA.out EB.out HHA.out (decide_eq_false (fun e => by rw [← e] at hne; simp at hne))))
              have hn2 := Lib.hid hne
              go_wp2
              go_ret
              rw [e1.out]
              exact ⟨rfl, HBR.out⟩
            · have hE := Lib.hid (show decide (x.1 = rAt (hdAt st l kb ks t a) l b) = true from decide_eq_true (toList_inj (Eq.symm (by simpa using hne))))
              have e1 := Lib.hid (fine_s HX.out HY.out EA.out EB.out la (by rw [HN.out]; exact lb) hls2.out HHA.out hE.out)
              go_wp2
              go_roundw
              case rel => exact ⟨_, by omega, by go_num, Lib.hid (badUp HK.out e1.out), Below.step' HBZ.out (Nat.le_refl _) C2⟩
              case measure => simp [intOf]; omega
    · obtain rfl : nL = k := by omega
      have e1 := Lib.hid (show lieZ t.size l lH lL = -1 from lie_miss (fun j hj => HK.out j (by rw [← HNL.out]; exact hj)))
      go_wp2
      go_ret
      rw [e1.out]
      exact ⟨rfl, below_go b0 hb⟩
end Go.Proofs.Ytmdmnjjlpefigaa
