/- The walk through the generator of arguments for CheckPrices. -/
import Derived.Test.YtdnbdnfoogjcmaaWway
import Derived.Deep.RegionHeld3
namespace Go.Proofs.Ytdnbdnfoogjcmaa
set_option linter.unusedVariables false
set_option linter.unusedSimpArgs false
open Go.ChangeShapes Go.WideShapes Go.ChangeAt Go.RowKit Go.Deep
theorem Src.up {w w' : World} {A : Option Addr} {n : Nat} (h : Src w A n) (hb : Below w.heap.size w w') : Src w' A n := by
  obtain ⟨l, h1, h2, h3, h4⟩ := h
  exact ⟨l, h1, h2, h3, h4.up hb⟩
theorem Tab.put {vs : List Hd} {w : World} {base : Nat} {A : Option Addr} {n c k f m d : Nat} {T : List (List Int)} {r : List Int} {x y : Int} (h : Tab vs w base A n c T) (hv : vs[k]? = some ((some ⟨f, 0, none⟩, m, d) : Hd)) (hr : T[k]? = some r) (hy : r[0]? = some y) :
    Tab vs (w.setCell ⟨f, 0, none⟩ (.int .i64 x)) base A n c (T.set k (r.set 0 x)) ∧ w.grownBy (w.setCell ⟨f, 0, none⟩ (.int .i64 x)) (some f) := by
  have ho := h.row k _ r hv hr
  have pt := ho.put (j := 0) (x := x) (u := .int .i64 x) hy (by decide) rfl
  simp only [Nat.mul_one, Nat.add_zero, Nat.zero_mul] at pt
  refine ⟨⟨by rw [List.length_set]; exact h.len, h.top.kept pt.2 (fun q hq e => ?_), fun k' v' r' hv' hr' => ?_, h.off, h.two⟩, pt.2⟩
  · injection e with e
    subst e
    exact h.off k _ hv f rfl hq
  · by_cases e : k' = k
    · subst e
      rw [hv] at hv'
      injection hv' with hv'
      subst hv'
      rw [List.getElem?_set_self (List.getElem?_eq_some_iff.1 hr).1] at hr'
      injection hr' with hr'
      subst hr'
      exact pt.1
    · rw [List.getElem?_set_ne (fun e2 => e e2.symm)] at hr'
      exact (h.row k' v' r' hv' hr').kept pt.2 (fun q hq e2 => by
        injection e2 with e2
        subst e2
        exact h.two k k' _ v' (fun e3 => e e3.symm) hv hv' f rfl hq)
theorem Tab.grownP {vs : List Hd} {w w' : World} {base p : Nat} {A : Option Addr} {n c : Nat} {T : List (List Int)} (h : Tab vs w base A n c T) (hp : p < base) (hg : w.grownBy w' (some p)) : Tab vs w' base A n c T :=
  h.same h.range fun g g1 g2 => hg.block g g2 (fun e => by injection e with e; omega)
theorem dcp_fin {w W : World} {A1 A2 A4 A5 : Option Addr} {n1 c1 n2 c2 n4 c4 n5 c5 b1 b4 b5 : Nat} {l1 l2 l5 : List Int} {vs : List Hd} {T : List (List Int)} {u v : Value}
    (o1 : Owned intE 1 3 W b1 A1 n1 c1 l1) (o2 : Owned intE 1 3 W b1 A2 n2 c2 l2) (hT : Tab vs W b4 A4 n4 c4 T) (o5 : Owned intE 1 3 W b5 A5 n5 c5 l5) (g1 : w.heap.size < b1) (g4 : w.heap.size < b4) (g5 : w.heap.size < b5) (B : Below w.heap.size w W) :
    Ints ((W.setCell ⟨w.heap.size, 0, none⟩ u).setCell ⟨w.heap.size, 1, none⟩ v).drew A1 l1 ∧ Ints ((W.setCell ⟨w.heap.size, 0, none⟩ u).setCell ⟨w.heap.size, 1, none⟩ v).drew A2 l2 ∧ TabR vs ((W.setCell ⟨w.heap.size, 0, none⟩ u).setCell ⟨w.heap.size, 1, none⟩ v).drew A4 T ∧ Ints ((W.setCell ⟨w.heap.size, 0, none⟩ u).setCell ⟨w.heap.size, 1, none⟩ v).drew A5 l5 ∧
      Below w.heap.size w ((W.setCell ⟨w.heap.size, 0, none⟩ u).setCell ⟨w.heap.size, 1, none⟩ v).drew := by
  have hg : W.grownBy ((W.setCell ⟨w.heap.size, 0, none⟩ u).setCell ⟨w.heap.size, 1, none⟩ v).drew (some w.heap.size) :=
    grownBy_trans (grownBy_trans (only_set W (p := ⟨w.heap.size, 0, none⟩) u) (only_set _ (p := ⟨w.heap.size, 1, none⟩) v)) (grown_any (Below.drew (Below.refl _ _)) _)
  exact ⟨(o1.past hg g1).recs, (o2.past hg g1).recs, (hT.grownP g4 hg).recs, (o5.past hg g5).recs, grown_below B (Nat.le_refl _) hg⟩
set_option maxHeartbeats 2000000 in
set_option maxRecDepth 100000 in
theorem draw_CheckPrices {A : Option Addr} {n c : Nat} {w : World} (hS : Src w A n) :
    Calls Try.prog 16 #[.slice A n c] w fun e w' => ∃ A1 n1 c1 l1 A2 n2 c2 l2 s vs A4 n4 c4 T A5 n5 c5 l5 x, e = .returned (.tuple #[.slice A1 n1 c1, .slice A2 n2 c2, .int .i64 s, .slice A4 n4 c4, .agg #[.slice A5 n5 c5, .int .i64 x]]) ∧ l1.length = n1 ∧ l2.length = n2 ∧ T.length = n4 ∧ l5.length = n5 ∧ n1 ≤ 7 ∧ n2 ≤ 14 ∧ n4 ≤ 1048576 ∧ n5 ≤ 1048576 ∧
      Ints w' A1 l1 ∧ Ints w' A2 l2 ∧ TabR vs w' A4 T ∧ (∀ r ∈ T, r.length ≤ 16777216) ∧ Ints w' A5 l5 ∧ (∀ x ∈ l5, -9223372036854775808 ≤ x ∧ x ≤ 9223372036854775807) ∧ Below w.heap.size w w' := by
  have b0 : Below w.heap.size w (w.alloc (.cells #[.slice none 0 0, .int .i64 0] 30)) := by (repeat' (first | (with_reducible exact Below.refl _ _) | (with_reducible assumption) | (with_reducible refine below_drewN ?_ _) | (with_reducible refine Below.drew ?_) | (with_reducible refine below_alloc ?_ _) | (with_reducible refine Below.alloc ?_ ?_ _) | (with_reducible refine Below.setCell ?_ ?_ _) | (with_reducible refine below_go ?_ (by with_reducible assumption)) | (with_reducible refine below_then (by with_reducible assumption) ?_ ?_) | go_size))
  have KR := Blk.at_ w 30 [.slice none 0 0, .int .i64 0] (b := w.heap.size) rfl
  go_in
  go_wp2_with fail
  refine (draw_BestMatch (hS.up b0)).mono ?_; rintro e w1 ⟨A1, n1, c1, l1, A2, n2, c2, l2, s, rfl, e1, e2, h1, h2, o1, o2, s0, s1, hb1⟩
  subst e1 e2
  have r1 := o1.recs; have r2 := o2.recs
  have hB1 := below_go b0 hb1
  have KR1 := KR.up hb1
  have S1 := hS.up hB1
  have lw0 : w.heap.size < (w.alloc (.cells #[.slice none 0 0, .int .i64 0] 30)).heap.size := by simp
  have lw1 : w.heap.size < w1.heap.size := by have := hb1.size; omega
  have b2 : Below w1.heap.size w1 (w1.alloc (.cells #[.slice A n c, .int .i64 0, .int .u64 0] 64)) := by (repeat' (first | (with_reducible exact Below.refl _ _) | (with_reducible assumption) | (with_reducible refine below_drewN ?_ _) | (with_reducible refine Below.drew ?_) | (with_reducible refine below_alloc ?_ _) | (with_reducible refine Below.alloc ?_ ?_ _) | (with_reducible refine Below.setCell ?_ ?_ _) | (with_reducible refine below_go ?_ (by with_reducible assumption)) | (with_reducible refine below_then (by with_reducible assumption) ?_ ?_) | go_size))
  have cur := cur_new w1 A n c
  have R1 := r1.up b2; have R2 := r2.up b2
  go_wp2_with fail
  obtain ⟨w2, hw2⟩ : ∃ u, u = w1.alloc (.cells #[.slice A n c, .int .i64 0, .int .u64 0] 64) := ⟨_, rfl⟩
  have sz2 : w2.heap.size = w1.heap.size + 1 := by rw [hw2]; simp
  rw [← hw2] at b2 cur R1 R2 ⊢
  clear hw2
  refine (spec_PricesOf rfl R1 (by omega) rfl R2 (by omega)).mono ?_; rintro e w3 ⟨vs, A4, c4, rfl, hT, hb3⟩
  have R1 := R1.up hb3; have R2 := R2.up hb3; have cur := cur.up hb3
  have sz3 := hb3.size
  go_wp2_with fail
  refine (spec_BestMatch rfl R1 (by omega) rfl R2 (by omega)).mono ?_; rintro e w4 ⟨A', c', rfl, ho, hn4, hb4⟩
  have sz4 := hb4.size
  have cur := cur.up hb4
  have hT4 := hT.up hb4
  have hTr := hT.range
  have hor := ho.range
  have lbest : (bestOf l1 l2 s).length ≤ 7 := by
    rcases h : askedM l1 l2 s
    · rw [(best_f h).1]; simp
    · rw [(best_t h).1, bestGo_len]; omega
  obtain ⟨bc, hbc⟩ : ∃ x, x = bestCost l1 l2 s := ⟨_, rfl⟩
  rw [← hbc]
  have hbcb : -1200001 ≤ bc ∧ bc ≤ 1200001 := by
    rcases h : askedM l1 l2 s
    · rw [hbc, (best_f h).2]; omega
    · rw [hbc, (best_t h).2]; have := pAt_bd h 0 0; omega
  clear hbc
  have A5 : Below w4.heap.size w4 (w4.alloc (.cells #[.slice A' (bestOf l1 l2 s).length c', .int .i64 bc] 30)) := by (repeat' (first | (with_reducible exact Below.refl _ _) | (with_reducible assumption) | (with_reducible refine below_drewN ?_ _) | (with_reducible refine Below.drew ?_) | (with_reducible refine below_alloc ?_ _) | (with_reducible refine Below.alloc ?_ ?_ _) | (with_reducible refine Below.setCell ?_ ?_ _) | (with_reducible refine below_go ?_ (by with_reducible assumption)) | (with_reducible refine below_then (by with_reducible assumption) ?_ ?_) | go_size))
  have K5 : Blk (w4.alloc (.cells #[.slice A' (bestOf l1 l2 s).length c', .int .i64 bc] 30)) w4.heap.size 30 [.slice A' (bestOf l1 l2 s).length c', .int .i64 bc] := Blk.at_ w4 30 [.slice A' (bestOf l1 l2 s).length c', .int .i64 bc] (b := w4.heap.size) rfl
  have cur5 := cur.up A5
  have hT5 := hT4.up A5
  have ho5 := ho.up A5
  have KR5 := (((KR1.up b2).up hb3).up hb4).up A5
  have B5 := ((b2.trans (hb3.mono (by omega))).trans (hb4.mono (by omega))).trans (A5.mono (by omega))
  rcases hk : askedM l1 l2 s
  · rw [pTabR_f hk] at hT5 ⊢
    go_wp2_with fail
    obtain ⟨w5, hw5⟩ : ∃ u, u = w4.alloc (.cells #[.slice A' (bestOf l1 l2 s).length c', .int .i64 bc] 30) := ⟨_, rfl⟩
    have sz5 : w5.heap.size = w4.heap.size + 1 := by rw [hw5]; simp
    rw [← hw5] at K5 cur5 hT5 ho5 KR5 B5 ⊢
    clear hw5 A5 hT hT4 KR KR1 cur R1 R2
    have q0 := K5.cell 0; have q1 := K5.cell 1; have f0 := KR5.frozen 0; have f1 := KR5.frozen 1
    have v0 := KR5.cell 0; have v1 := KR5.cell 1
    simp only [List.getElem?_cons_zero, List.getElem?_cons_succ] at q0 q1 v0 v1
    refine wp_region_still_tail 9 (by kernel_rfl) (by kernel_rfl) ?_
    simp only [List.take_succ_cons, List.take_zero, List.drop_succ_cons, List.drop_zero]
    repeat still_step
    refine wpStill_nil ?_
    change wpList _ _ _ _ _ w5.drew
    go_wp2
    refine bodyPost_ret (v := .tuple #[.slice A1 l1.length c1, .slice A2 l2.length c2, .int .i64 s, .slice A4 0 c4, .agg #[.slice A' (bestOf l1 l2 s).length c', .int .i64 bc]]) (by simp [results, Try.results16, go_sem, v0, v1]) rfl ?_
    obtain ⟨z1, z2, z3, z4, z5⟩ := dcp_fin (u := .slice A' (bestOf l1 l2 s).length c') (v := .int .i64 bc) (o1.up (B5)) (o2.up (B5)) hT5 ho5 lw0 (by omega) (by omega) (hB1.trans ((B5).mono hB1.size))
    exact ⟨A1, _, c1, l1, A2, _, c2, l2, s, vs, A4, _, c4, _, A', _, c', _, bc, rfl, rfl, rfl, hT5.len, ho5.len, h1, h2, by first | omega | (simp; done) | (simp; omega), by omega, z1, z2, z3, (fun r hr => by cases hr), z4, best_bd, z5⟩
  · rw [pTabR_t hk] at hT5 hTr ⊢
    rw [pTab_len] at hT5 hTr ⊢
    have HTl := Lib.hid (fun (r : List Int) (hr : r ∈ pTab l1 l2 s) => show r.length ≤ 16777216 from by
      obtain ⟨i, hi⟩ := List.getElem?_of_mem hr
      have hi2 : i < l1.length + 1 := by have := (List.getElem?_eq_some_iff.1 hi).1; rw [pTab_len] at this; omega
      rw [pTab_at l1 l2 s hi2] at hi; injection hi with hi; rw [← hi, pRow_len]; omega)
    go_wp2_with fail
    obtain ⟨w5, hw5⟩ : ∃ u, u = w4.alloc (.cells #[.slice A' (bestOf l1 l2 s).length c', .int .i64 bc] 30) := ⟨_, rfl⟩
    have sz5 : w5.heap.size = w4.heap.size + 1 := by rw [hw5]; simp
    rw [← hw5] at K5 cur5 hT5 ho5 KR5 B5 ⊢
    clear hw5 A5 hT hT4 KR KR1 cur R1 R2
    refine (cur_pick (p := w1.heap.size) hS (hB1.trans (B5.mono hB1.size)) hB1.size cur5 (by omega) (by omega) (by omega)).mono ?_; rintro e w6 ⟨k, rfl, ⟨k0, k1⟩, cur6, hg6⟩
    have B6 := grown_below B5 (Nat.le_refl _) hg6
    have K6 := K5.grown hg6 (fun e => by injection e with e; omega)
    have KR6 := KR5.grown hg6 (fun e => by injection e with e; omega)
    have hT6 := hT5.grownP (p := w1.heap.size) (by omega) hg6
    have ho6 := ho5.past hg6 (by omega)
    have sz6 := hg6.size
    go_wp2_with fail
    refine (cur_pick (p := w1.heap.size) hS (hB1.trans (B6.mono hB1.size)) hB1.size cur6 (by omega) (by omega) (by omega)).mono ?_; rintro e w7 ⟨v, rfl, ⟨v0, v1⟩, cur7, hg7⟩
    have B7 := grown_below B6 (Nat.le_refl _) hg7
    have K7 := K6.grown hg7 (fun e => by injection e with e; omega)
    have KR7 := KR6.grown hg7 (fun e => by injection e with e; omega)
    have hT7 := hT6.grownP (p := w1.heap.size) (by omega) hg7
    have ho7 := ho6.past hg7 (by omega)
    have sz7 := hg7.size
    clear K5 K6 KR5 KR6 hT5 hT6 ho5 ho6 cur5 cur6 B5 B6 hg6 hg7
    by_cases hv0 : v = 0
    · subst hv0
      obtain ⟨k, rfl⟩ := Int.eq_ofNat_of_zero_le k0
      have hk1 : k < l1.length + 1 := by omega
      have hkI : (k : Int) < (l1.length : Int) + 1 := by omega
      clear k1
      obtain ⟨g, rfl, g0, g1, gc, _⟩ := hT7.top.at_ (by omega)
      obtain ⟨⟨f, m, d⟩, hv⟩ := some_of_lt (l := vs) (k := k) (by rw [hT7.vlen, pTab_len]; exact hk1)
      have hr := pTab_at l1 l2 s hk1
      have ho := hT7.row k _ _ hv hr
      obtain rfl : (pRow l1 l2 s k).length = m := ho.len
      obtain ⟨f, rfl, f0, f1, fc, ff⟩ := ho.at_ (by show 0 < (pRow l1 l2 s k).length; rw [pRow_len]; omega)
      have ch := gc k _ 0 _ hv rfl
      have hfne := (hTr.2 k _ hv f rfl).2
      have hr0 := pRow_at l1 l2 s k (j := 0) (by omega)
      have cf := fc 0 _ 0 _ hr0 rfl
      have zf := ff 0
      simp only [Nat.mul_one, Nat.add_zero, Nat.zero_mul] at ch cf
      have hlen : (0 : Int) < ((pRow l1 l2 s k).length : Int) := by rw [pRow_len]; omega
      have hrl : Hid (∀ x : Int, ((pRow l1 l2 s k).set 0 x).length ≤ 16777216) := Lib.hid fun x => by rw [List.length_set, pRow_len]; omega
      have HP := Lib.hid (fun (u : World) (h : Tab vs u w2.heap.size (some ⟨g, 0, none⟩) (l1.length + 1) c4 (pTab l1 l2 s)) x => h.put (x := x) hv hr hr0)
      obtain ⟨y, hy⟩ : ∃ y, y = pAt l1 l2 s k 0 := ⟨_, rfl⟩
      rw [← hy] at cf
      have carry : Hid (∀ u : World, w7.grownBy u (some w1.heap.size) → u.cell? ⟨g, k, none⟩ = some (.slice (some ⟨f, 0, none⟩) (pRow l1 l2 s k).length d) ∧ u.cell? ⟨f, 0, none⟩ = some (.int .i64 y) ∧ u.frozen? ⟨f, 0, none⟩ = false) := Lib.hid fun u hu => ⟨(hu.cell_far ⟨g, k, none⟩ g1 (fun e => by simp at e; omega)).trans ch, (hu.cell_far ⟨f, 0, none⟩ f1 (fun e => by simp at e; omega)).trans cf, ((hu.frozen_far ⟨f, 0, none⟩ f1 (fun e => by simp at e; omega)).trans zf)⟩
      have G : Hid (∀ u : World, w7.grownBy u (some w1.heap.size) → Below w.heap.size w u) := Lib.hid fun u hu => grown_below (hB1.trans (B7.mono hB1.size)) hB1.size hu
      have GA : Hid (∀ o : Obj, w7.grownBy ((w7.drew).alloc o) (some w1.heap.size)) := Lib.hid fun o => grownBy_trans (grown_any (Below.drew (Below.refl _ _)) _) (World.grownBy_alloc _ _ _)
      have CU := Lib.hid cur7
      have pl := pRow_len l1 l2 s k
      rw [pl] at carry hlen ch
      clear gc fc ff hv hr hr0 ho zf cur7 hy
      have HPL := Lib.hid pl
      clear pl
      have hlI : (0 : Int) < (l2.length : Int) + 1 := by omega
      go_wp2_with fail
      have c7 := CU.out.lt
      obtain ⟨a1, a2, a3⟩ := carry.out _ (GA.out (.cells #[.int .i64 1, .int .i64 (-1)] 3))
      go_region_with (first | (go_at_call 48; refine (cur_among (p := w1.heap.size) hS (G.out _ (GA.out _)) hB1.size (CU.out.up (((Below.refl _ _).drew).alloc (Nat.le_refl _) _)) (by omega) rfl (lit_ints _ _ [1, -1]) (by decide) (by decide) (fun b o e => by injection e with e; injection e with e; have := CU.out.lt; simp at e; omega)).mono ?_; rintro e w8 ⟨x, hx, rfl, cur8, hg8⟩; have hg8x := grownBy_trans (GA.out _) hg8; obtain ⟨d1, d2, d3⟩ := carry.out _ hg8x))
      all_goals (
        have sz8 := hg8x.size
        have B8 := grown_below B7 (Nat.le_refl _) hg8x
        have K8 := K7.grown hg8x (fun e => by injection e with e; omega)
        have KR8 := KR7.grown hg8x (fun e => by injection e with e; omega)
        have hT8 := hT7.grownP (p := w1.heap.size) (by omega) hg8x
        have ho8 := ho7.past hg8x (by omega)
        obtain ⟨y2, hy2⟩ : ∃ y2, y2 = IntKind.i64.wrap (y + x) := ⟨_, rfl⟩
        have P9 := HP.out _ hT8 y2
        obtain ⟨w9, hw9⟩ : ∃ u, u = w8.setCell ⟨f, 0, none⟩ (.int .i64 y2) := ⟨_, rfl⟩
        rw [← hw9] at P9
        go_wp2_with fail
        rw [← hy2, ← hw9]
        have sz9 : w9.heap.size = w8.heap.size := by rw [hw9]; simp
        clear hw9 hy2
        have B9 : Below w1.heap.size w1 w9 := B8.grown P9.2 B8.size fun q hq => by injection hq with hq; omega
        have K9 := K8.grown P9.2 (fun e => by injection e with e; have := hfne; omega)
        have KR9 := KR8.grown P9.2 (fun e => by injection e with e; omega)
        have hT9 := P9.1
        have ho9 := ho8.kept P9.2 (fun q hq e => by have := ho8.blk hq; injection e with e; omega)
        have hsm := Lib.hid (fun (r : List Int) (hr : r ∈ (pTab l1 l2 s).set k ((pRow l1 l2 s k).set 0 y2)) => show r.length ≤ 16777216 from by
          rcases List.mem_or_eq_of_mem_set hr with hr | rfl
          · exact HTl.out r hr
          · exact hrl.out y2)
        have q0 := K9.cell 0; have q1 := K9.cell 1; have f0 := KR9.frozen 0; have f1 := KR9.frozen 1
        have v0 := KR9.cell 0; have v1 := KR9.cell 1
        simp only [List.getElem?_cons_zero, List.getElem?_cons_succ] at q0 q1 v0 v1
        refine wp_region_still_tail 9 (by kernel_rfl) (by kernel_rfl) ?_
        simp only [List.take_succ_cons, List.take_zero, List.drop_succ_cons, List.drop_zero]
        repeat still_step
        refine wpStill_nil ?_
        change wpList _ _ _ _ _ w9.drew
        go_wp2
        refine bodyPost_ret (v := .tuple #[.slice A1 l1.length c1, .slice A2 l2.length c2, .int .i64 s, .slice (some ⟨g, 0, none⟩) (l1.length + 1) c4, .agg #[.slice A' (bestOf l1 l2 s).length c', .int .i64 bc]]) (by simp [results, Try.results16, go_sem, v0, v1]) rfl ?_
        obtain ⟨z1, z2, z3, z4, z5⟩ := dcp_fin (u := .slice A' (bestOf l1 l2 s).length c') (v := .int .i64 bc) (o1.up (B9)) (o2.up (B9)) hT9 ho9 lw0 (by omega) (by omega) (hB1.trans ((B9).mono hB1.size))
        exact ⟨A1, _, c1, l1, A2, _, c2, l2, s, vs, some ⟨g, 0, none⟩, _, c4, _, A', _, c', _, bc, rfl, rfl, rfl, hT9.len, ho9.len, h1, h2, by first | omega | (simp; done) | (simp; omega), by omega, z1, z2, z3, hsm.out, z4, best_bd, z5⟩)
    · by_cases hv1 : v = 1
      · subst hv1
        have q0 := K7.cell 0; have q1 := K7.cell 1; have f1 := K7.frozen 1
        simp only [List.getElem?_cons_zero, List.getElem?_cons_succ] at q0 q1
        have gx : IntKind.i64.wrap (bc + 1) = bc + 1 := wrap_id (by omega)
        go_wp2_with fail
        obtain ⟨w9, hw9⟩ : ∃ u, u = w7.setCell ⟨w4.heap.size, 1, none⟩ (.int .i64 (bc + 1)) := ⟨_, rfl⟩
        have g9 : w7.grownBy w9 (some w4.heap.size) := by rw [hw9]; exact only_set w7 (p := ⟨w4.heap.size, 1, none⟩) _
        have K9 := K7.set_ 1 (.int .i64 (bc + 1))
        simp only [List.set_cons_succ, List.set_cons_zero] at K9
        rw [← hw9] at K9 ⊢
        have sz9 : w9.heap.size = w7.heap.size := by rw [hw9]; simp
        clear hw9
        have B9 : Below w1.heap.size w1 w9 := B7.grown g9 B7.size fun q hq => by injection hq with hq; omega
        have KR9 := KR7.grown g9 (fun e => by injection e with e; omega)
        have hT9 := hT7.same hTr fun q q1 q2 => g9.block q (by omega) (fun e => by injection e with e; omega)
        have ho9 := ho7.kept g9 (fun q hq e => by have := hor q hq; injection e with e; omega)
        have q0 := K9.cell 0; have q1 := K9.cell 1; have f0 := KR9.frozen 0; have f1 := KR9.frozen 1
        have v0 := KR9.cell 0; have v1 := KR9.cell 1
        simp only [List.getElem?_cons_zero, List.getElem?_cons_succ] at q0 q1 v0 v1
        refine wp_region_still_tail 9 (by kernel_rfl) (by kernel_rfl) ?_
        simp only [List.take_succ_cons, List.take_zero, List.drop_succ_cons, List.drop_zero]
        repeat still_step
        refine wpStill_nil ?_
        change wpList _ _ _ _ _ w9.drew
        go_wp2
        refine bodyPost_ret (v := .tuple #[.slice A1 l1.length c1, .slice A2 l2.length c2, .int .i64 s, .slice A4 (l1.length + 1) c4, .agg #[.slice A' (bestOf l1 l2 s).length c', .int .i64 (bc + 1)]]) (by simp [results, Try.results16, go_sem, v0, v1]) rfl ?_
        obtain ⟨z1, z2, z3, z4, z5⟩ := dcp_fin (u := .slice A' (bestOf l1 l2 s).length c') (v := .int .i64 (bc + 1)) (o1.up (B9)) (o2.up (B9)) hT9 ho9 lw0 (by omega) (by omega) (hB1.trans ((B9).mono hB1.size))
        exact ⟨A1, _, c1, l1, A2, _, c2, l2, s, vs, A4, _, c4, _, A', _, c', _, (bc + 1), rfl, rfl, rfl, hT9.len, ho9.len, h1, h2, by first | omega | (simp; done) | (simp; omega), by omega, z1, z2, z3, HTl.out, z4, best_bd, z5⟩
      · by_cases hv2 : v = 2
        · subst hv2
          go_wp2_with fail
          refine (cur_way (p := w1.heap.size) hS (hB1.trans (B7.mono hB1.size)) hB1.size cur7 (by omega) (by omega) (by omega)).mono ?_; rintro e w8 ⟨A6, n6, c6, l6, rfl, h6, hl6, T6, cur8⟩
          have B8 := grown_below B7 (Nat.le_refl _) T6.gr
          have K8 := K7.grown T6.gr (fun e => by injection e with e; omega)
          have KR8 := KR7.grown T6.gr (fun e => by injection e with e; omega)
          have hT8 := hT7.grownP (p := w1.heap.size) (by omega) T6.gr
          have sz8 := T6.gr.size
          have HL6 := Lib.hid hl6
          clear hl6
          have f1 := K8.frozen 0; have q1 := K8.cell 0
          simp only [List.getElem?_cons_zero, List.getElem?_cons_succ] at q1
          go_wp2_with fail
          obtain ⟨w9, hw9⟩ : ∃ u, u = w8.setCell ⟨w4.heap.size, 0, none⟩ (.slice A6 n6 c6) := ⟨_, rfl⟩
          have g9 : w8.grownBy w9 (some w4.heap.size) := by rw [hw9]; exact only_set w8 (p := ⟨w4.heap.size, 0, none⟩) _
          have K9 := K8.set_ 0 (.slice A6 n6 c6)
          simp only [List.set_cons_succ, List.set_cons_zero] at K9
          rw [← hw9] at K9 ⊢
          have sz9 : w9.heap.size = w8.heap.size := by rw [hw9]; simp
          clear hw9
          have B9 : Below w1.heap.size w1 w9 := B8.grown g9 B8.size fun q hq => by injection hq with hq; omega
          have KR9 := KR8.grown g9 (fun e => by injection e with e; omega)
          have hT9 := hT8.same hTr fun q q1 q2 => g9.block q (by omega) (fun e => by injection e with e; omega)
          have ho9 := T6.own1.kept g9 (fun q hq e => by have := (T6.own1.blk hq).1; injection e with e; omega)
          have q0 := K9.cell 0; have q1 := K9.cell 1; have f0 := KR9.frozen 0; have f1 := KR9.frozen 1
          have v0 := KR9.cell 0; have v1 := KR9.cell 1
          simp only [List.getElem?_cons_zero, List.getElem?_cons_succ] at q0 q1 v0 v1
          refine wp_region_still_tail 9 (by kernel_rfl) (by kernel_rfl) ?_
          simp only [List.take_succ_cons, List.take_zero, List.drop_succ_cons, List.drop_zero]
          repeat still_step
          refine wpStill_nil ?_
          change wpList _ _ _ _ _ w9.drew
          go_wp2
          refine bodyPost_ret (v := .tuple #[.slice A1 l1.length c1, .slice A2 l2.length c2, .int .i64 s, .slice A4 (l1.length + 1) c4, .agg #[.slice A6 n6 c6, .int .i64 bc]]) (by simp [results, Try.results16, go_sem, v0, v1]) rfl ?_
          obtain ⟨z1, z2, z3, z4, z5⟩ := dcp_fin (u := .slice A6 n6 c6) (v := .int .i64 bc) (o1.up (B9)) (o2.up (B9)) hT9 ho9 lw0 (by omega) (by omega) (hB1.trans ((B9).mono hB1.size))
          exact ⟨A1, _, c1, l1, A2, _, c2, l2, s, vs, A4, _, c4, _, A6, _, c6, _, bc, rfl, rfl, rfl, hT9.len, ho9.len, h1, h2, by first | omega | (simp; done) | (simp; omega), by omega, z1, z2, z3, HTl.out, z4, (fun x hx => by have := HL6.out x hx; omega), z5⟩
        · go_wp2_with fail
          have q0 := K7.cell 0; have q1 := K7.cell 1; have f0 := KR7.frozen 0; have f1 := KR7.frozen 1
          have v0 := KR7.cell 0; have v1 := KR7.cell 1
          simp only [List.getElem?_cons_zero, List.getElem?_cons_succ] at q0 q1 v0 v1
          skip
          refine wp_region_still_tail 9 (by kernel_rfl) (by kernel_rfl) ?_
          simp only [List.take_succ_cons, List.take_zero, List.drop_succ_cons, List.drop_zero]
          repeat still_step
          refine wpStill_nil ?_
          change wpList _ _ _ _ _ w7.drew
          go_wp2
          refine bodyPost_ret (v := .tuple #[.slice A1 l1.length c1, .slice A2 l2.length c2, .int .i64 s, .slice A4 (l1.length + 1) c4, .agg #[.slice A' (bestOf l1 l2 s).length c', .int .i64 bc]]) (by simp [results, Try.results16, go_sem, v0, v1]) rfl ?_
          obtain ⟨z1, z2, z3, z4, z5⟩ := dcp_fin (u := .slice A' (bestOf l1 l2 s).length c') (v := .int .i64 bc) (o1.up (B7)) (o2.up (B7)) hT7 ho7 lw0 (by omega) (by omega) (hB1.trans ((B7).mono hB1.size))
          exact ⟨A1, _, c1, l1, A2, _, c2, l2, s, vs, A4, _, c4, _, A', _, c', _, bc, rfl, rfl, rfl, hT7.len, ho7.len, h1, h2, by first | omega | (simp; done) | (simp; omega), by omega, z1, z2, z3, HTl.out, z4, best_bd, z5⟩

end Go.Proofs.Ytdnbdnfoogjcmaa
