/- Texts 6 of 6 that the claim leans on: plain laws and the walks' contracts, in order. -/
import Derived.Test.YtidolgonmimicaaGreatMRepair5
import Derived.Deep.Cut
import Derived.Deep.DeepCutAuto
import Derived.Shelf.Strings.OnBuilder
import Derived.Shelf.Strings.BuilderF
import Derived.Shelf.Strings.BuilderK
import Derived.Shelf.LaysM
import Derived.Shelf.Strings.Repeat
import Derived.Test.YtidolgonmimicaaGreatProg
set_option linter.unusedVariables false
set_option linter.unusedSimpArgs false
namespace Go.Proofs.YtidolgonmimicaaGreat
open Go.ChangeShapes Go.WideShapes Go.ChangeAt Go.RowKit Go.Deep
set_option maxHeartbeats 16000000 in
set_option maxRecDepth 100000 in
theorem draw_CheckRepair {A : Option Addr} {n c : Nat} {w : World} (hS : Src w A n) :
  Calls Tryz.prog 56 #[.slice A n c] w fun e w' => ∃ (nm : ByteArray) (st : Nat) (A1 : Option Addr) (n1 c1 : Nat) (L : List ByteArray) (kb ks f tg t : ByteArray) (AT : Option Addr) (nT cT : Nat) (M : List (List ByteArray)), e = .returned (.tuple #[.agg #[.string nm, .int .i64 st, .slice A1 n1 c1], .agg #[.string kb, .string ks], .string f, .string tg, .string t, .slice AT nT cT]) ∧ (goodM nm st L = true ∧ 3 ≤ st ∧ st ≤ 6 ∧ L.length ≤ 12) ∧ kb.size ≤ 8 ∧ ks.size ≤ 8 ∧ f.size ≤ 8 ∧ tg.size ≤ 16 ∧ t.size ≤ 100 ∧ TabS w' AT nT M ∧ nT ≤ 10 ∧ nT ≤ cT ∧ (∀ r ∈ M, r.length ≤ 5000) ∧ Owned strE 1 9 w' w.heap.size A1 n1 c1 L ∧ Below w.heap.size w w' := by
 have R := (Blk.at_ w 25 [.string ⟨#[]⟩, .int .i64 0, .slice none 0 0] (b := w.heap.size) rfl).alloc (.cells #[.string ⟨#[]⟩, .string ⟨#[]⟩] 27)
 have Q := Blk.at_ (w.alloc (.cells #[.string ⟨#[]⟩, .int .i64 0, .slice none 0 0] 25)) 27 [.string ⟨#[]⟩, .string ⟨#[]⟩] (b := w.heap.size + 1) (by simp)
 have b0 : Below w.heap.size w ((w.alloc (.cells #[.string ⟨#[]⟩, .int .i64 0, .slice none 0 0] 25)).alloc (.cells #[.string ⟨#[]⟩, .string ⟨#[]⟩] 27)) := by (repeat' (first | (with_reducible exact Below.refl _ _) | (with_reducible assumption) | (with_reducible refine below_drewN ?_ _) | (with_reducible refine Below.drew ?_) | (with_reducible refine below_alloc ?_ _) | (with_reducible refine Below.alloc ?_ ?_ _) | (with_reducible refine Below.setCell ?_ ?_ _) | (with_reducible refine below_go ?_ (by with_reducible assumption)) | (with_reducible refine below_then (by with_reducible assumption) ?_ ?_) | go_size))
 have HS := Lib.hid hS
 go_in
 go_wp2_with fail
 obtain ⟨w1, hw1⟩ : ∃ u, u = ((w.alloc (.cells #[.string ⟨#[]⟩, .int .i64 0, .slice none 0 0] 25)).alloc (.cells #[.string ⟨#[]⟩, .string ⟨#[]⟩] 27)) := ⟨_, rfl⟩
 have z1 : w1.heap.size = w.heap.size + 2 := by rw [hw1]; simp
 rw [← hw1] at b0 R Q ⊢
 clear hw1
 refine (draw_RepairTouch (hS.over b0)).mono ?_; rintro e v ⟨nm, st, A2, m, c2, L, kb, ks, f, tg, rfl, hgm, h3, h6, hl12, zkb, zks, hf8, htg, ho, hv⟩
 have HGM := Lib.hid hgm
 have hnm := goodM_name hgm
 have HLS : Hid (∀ s ∈ L, s.size ≤ 16777216) := Lib.hid (fun s hs => by have := goodM_changes hgm s hs; omega)
 have HLl := Lib.hid ho.len
 have hcap := ho.cap.1
 have HLB := Lib.hid (fun k (hk : (Value.slice A2 m c2).ownBlock = some k) => (ho.blk hk).2)
 rw [z1] at ho
 have HO := Lib.hid ho
 have s1 := hv.size
 have HB := Lib.hid (below_go b0 hv)
 replace R := R.up hv
 replace Q := Q.up hv
 clear hS ho hgm hv b0
 go_upto_region 3 with fail
 obtain ⟨b, hbv⟩ : ∃ u, u = v.heap.size := ⟨_, rfl⟩
 have a1 : Below v.heap.size v ((v.alloc (.cells #[.string nm, .int .i64 (st : Int), .slice A2 m c2] 25)).alloc (.cells #[.string kb, .string ks] 27)) := by (repeat' (first | (with_reducible exact Below.refl _ _) | (with_reducible assumption) | (with_reducible refine below_drewN ?_ _) | (with_reducible refine Below.drew ?_) | (with_reducible refine below_alloc ?_ _) | (with_reducible refine Below.alloc ?_ ?_ _) | (with_reducible refine Below.setCell ?_ ?_ _) | (with_reducible refine below_go ?_ (by with_reducible assumption)) | (with_reducible refine below_then (by with_reducible assumption) ?_ ?_) | go_size))
 have K := ((Blk.at_ v 25 [.string nm, .int .i64 (st : Int), .slice A2 m c2] (b := v.heap.size) rfl).alloc (.cells #[.string kb, .string ks] 27))
 have J := (Blk.at_ (v.alloc (.cells #[.string nm, .int .i64 (st : Int), .slice A2 m c2] 25)) 27 [.string kb, .string ks] (b := v.heap.size + 1) (by simp))
 replace R := R.up a1
 replace Q := Q.up a1
 replace HO := Lib.hid (HO.out.up a1)
 replace HB := Lib.hid (below_go HB.out a1)
 clear a1
 have hz2 : ((v.alloc (.cells #[.string nm, .int .i64 (st : Int), .slice A2 m c2] 25)).alloc (.cells #[.string kb, .string ks] 27)).heap.size = v.heap.size + 1 + 1 := by simp
 have HC := Lib.hid (cur_fresh ((v.alloc (.cells #[.string nm, .int .i64 (st : Int), .slice A2 m c2] 25)).alloc (.cells #[.string kb, .string ks] 27)) A n c)
 rw [hz2] at HC
 obtain ⟨v2, hv2⟩ : ∃ u, u = ((v.alloc (.cells #[.string nm, .int .i64 (st : Int), .slice A2 m c2] 25)).alloc (.cells #[.string kb, .string ks] 27)) := ⟨_, rfl⟩
 rw [← hv2] at K J R Q HO HB HC hz2 ⊢
 clear hv2
 have a2 : Below v2.heap.size v2 (v2.alloc (.cells #[.slice A n c, .int .i64 0, .int .u64 0] 87)) := by (repeat' (first | (with_reducible exact Below.refl _ _) | (with_reducible assumption) | (with_reducible refine below_drewN ?_ _) | (with_reducible refine Below.drew ?_) | (with_reducible refine below_alloc ?_ _) | (with_reducible refine Below.alloc ?_ ?_ _) | (with_reducible refine Below.setCell ?_ ?_ _) | (with_reducible refine below_go ?_ (by with_reducible assumption)) | (with_reducible refine below_then (by with_reducible assumption) ?_ ?_) | go_size))
 replace K := K.up a2
 replace J := J.up a2
 replace R := R.up a2
 replace Q := Q.up a2
 replace HO := Lib.hid (HO.out.up a2)
 replace HB := Lib.hid (below_go HB.out a2)
 clear a2
 have hz3 : (v2.alloc (.cells #[.slice A n c, .int .i64 0, .int .u64 0] 87)).heap.size = v2.heap.size + 1 := by simp
 obtain ⟨v3, hv3⟩ : ∃ u, u = v2.alloc (.cells #[.slice A n c, .int .i64 0, .int .u64 0] 87) := ⟨_, rfl⟩
 rw [← hv3] at K J R Q HO HB HC hz3 ⊢
 clear hv3
 rw [← hbv] at K J HC hz2 HLB s1 ⊢
 rw [z1] at s1
 clear hbv z1
 have hbz : w.heap.size + 2 ≤ b := s1
 obtain ⟨p, hp⟩ : ∃ u, u = b + 1 + 1 := ⟨_, rfl⟩
 rw [← hp] at HC hz2 ⊢
 have hp0 : w.heap.size ≤ p := by omega
 have hpb : b + 1 < p := by omega
 have hpz : p < v3.heap.size := by omega
 clear hp hz2 hz3 s1
 have kc0 := K.cell 0; have kc1 := K.cell 1; have kc2 := K.cell 2; have jc0 := J.cell 0; have jc1 := J.cell 1
 simp only [List.getElem?_cons_zero, List.getElem?_cons_succ] at kc0 kc1 kc2 jc0 jc1
 go_wp2_with fail
 clear kc0 kc1 kc2 jc0 jc1
 refine (spec_RepairTouch (nm := nm) (a := f) (b := tg) HLl.out HO.out.recs (by have := HLl.out; omega) HLS.out (by omega) (by omega) (by omega) (by omega) (by omega) (by omega) hcap).mono ?_; rintro e u4 ⟨rfl, hb4⟩
 have s4 := hb4.size
 replace R := R.up hb4
 replace Q := Q.up hb4
 replace K := K.up hb4
 replace J := J.up hb4
 replace HO := Lib.hid (HO.out.up hb4)
 replace HB := Lib.hid (below_go HB.out hb4)
 replace HC := Lib.hid (HC.out.up hb4)
 clear hb4
 have htz0 := lst_size nm st L kb ks f tg
 obtain ⟨t, htt⟩ : ∃ u, u = lstT (rtO nm st L kb ks f tg) := ⟨_, rfl⟩
 rw [← htt] at htz0 ⊢
 clear htt
 have kc0 := K.cell 0; have kc1 := K.cell 1; have kc2 := K.cell 2; have jc0 := J.cell 0; have jc1 := J.cell 1
 simp only [List.getElem?_cons_zero, List.getElem?_cons_succ] at kc0 kc1 kc2 jc0 jc1
 go_wp2_with fail
 clear kc0 kc1 kc2 jc0 jc1
 refine (spec_RepairLayers (nm := nm) (a := f) (b := tg) HLl.out HO.out.recs (by have := HLl.out; omega) HLS.out (by omega) (by omega) (by omega) (by omega) (by omega) (by omega) hcap).mono ?_; rintro e u5 ⟨AT, nT, cT, vs, rfl, hT, hb5⟩
 have s5 := hb5.size
 have hly := lay_rows nm st L kb ks f tg
 obtain ⟨M, hM⟩ : ∃ u, u = (rlO nm st L kb ks f tg).getD [] := ⟨_, rfl⟩
 rw [← hM] at hT hly
 clear hM
 have hM9 := hly.1
 have HMr := Lib.hid hly.2
 obtain ⟨bs, hbs⟩ : ∃ u, u = u4.heap.size := ⟨_, rfl⟩
 rw [← hbs] at hT s4 s5
 have hpbs : p < bs := by omega
 clear hly hbs
 have HT := Lib.hid hT
 have hnT : nT ≤ 9 := by rw [← hT.nlen]; exact hM9
 have hcT := hT.top.cap.1
 clear hT
 replace R := R.up hb5
 replace Q := Q.up hb5
 replace K := K.up hb5
 replace J := J.up hb5
 replace HO := Lib.hid (HO.out.up hb5)
 replace HB := Lib.hid (below_go HB.out hb5)
 replace HC := Lib.hid (HC.out.up hb5)
 clear hb5
 go_wp2_with fail
 refine (cur_pick HS.out HB.out hp0 HC.out (by omega) (by decide) (by decide)).mono ?_; rintro e w4 ⟨x, rfl, ⟨x0, x1⟩, hc9, hg9⟩
 have s9 := hg9.size
 replace HT := Lib.hid (HT.out.past hg9 hpbs)
 replace R := R.grown hg9 (fun e => by injection e with e; omega)
 replace Q := Q.grown hg9 (fun e => by injection e with e; omega)
 replace K := K.grown hg9 (fun e => by injection e with e; omega)
 replace J := J.grown hg9 (fun e => by injection e with e; omega)
 replace HO := Lib.hid (HO.out.kept hg9 (fun k hk e => by injection e with e; have := HLB.out k hk; omega))
 replace HB := Lib.hid (grown_below HB.out hp0 hg9)
 replace HC := Lib.hid hc9
 clear hg9 hc9
 have hx : x = 0 ∨ x = 1 ∨ x = 2 ∨ 3 ≤ x := by omega
 clear x1
 rename_i K2 a2 K1 a1 K0 a0
 refine a0 _ _ ?_
 refine wpList_nil ?_
 refine a1 _ _ ?_
 clear a0 a1
 go_cut [13, 15] (fun s13 s15 wx => ∃ (t' : ByteArray) (A' : Option Addr) (n' c' : Nat), s13 = .string t' ∧ s15 = .slice A' n' c' ∧ t'.size ≤ 100 ∧ n' ≤ 10 ∧ n' ≤ c' ∧ TabL wx bs A' n' ∧ (Blk wx b 25 [.string nm, .int .i64 (st : Int), .slice A2 m c2] ∧ Blk wx (b + 1) 27 [.string kb, .string ks]) ∧ (Blk wx w.heap.size 25 [.string ⟨#[]⟩, .int .i64 0, .slice none 0 0] ∧ Blk wx (w.heap.size + 1) 27 [.string ⟨#[]⟩, .string ⟨#[]⟩]) ∧ Hid (Owned strE 1 9 wx (w.heap.size + 2) A2 m c2 L) ∧ Hid (Below w.heap.size w wx))
 case first =>
  rcases hx with rfl | rfl | rfl | hx
  ·by_cases h1 : 1 < nT
   ·have h1I : (1 : Int) < (nT : Int) := by omega
    have hw1 : IntKind.i64.wrap ((nT : Int) - 1) = (nT : Int) - 1 := wrap_id (by omega)
    go_wp2_with fail
    refine (cur_pick HS.out HB.out hp0 HC.out (by omega) (by omega) (by omega)).mono ?_; rintro e w5 ⟨y, rfl, ⟨y0, y1⟩, hc5, hg5⟩
    replace HT := Lib.hid (HT.out.past hg5 hpbs)
    replace R := R.grown hg5 (fun e => by injection e with e; omega)
    replace Q := Q.grown hg5 (fun e => by injection e with e; omega)
    replace K := K.grown hg5 (fun e => by injection e with e; omega)
    replace J := J.grown hg5 (fun e => by injection e with e; omega)
    replace HO := Lib.hid (HO.out.kept hg5 (fun k hk e => by injection e with e; have := HLB.out k hk; omega))
    replace HB := Lib.hid (grown_below HB.out hp0 hg5)
    replace HC := Lib.hid hc5
    clear hg5 hc5
    obtain ⟨i, hi⟩ : ∃ i : Nat, (1 : Int) + y = (i : Int) := ⟨(1 + y).toNat, by omega⟩
    have hin : i < nT := by omega
    have hiI : (i : Int) < (nT : Int) := by omega
    have hwi : IntKind.i64.wrap (i : Int) = (i : Int) := wrap_id (by omega)
    clear y0 y1 hw1 h1I
    obtain ⟨g4, rfl, hg4, hg4w, gc4, _⟩ := HT.out.top.at_ (by omega)
    obtain ⟨vr, hvr⟩ := some_of_lt (l := vs) (k := i) (by rw [HT.out.top.len]; exact hin)
    obtain ⟨r, hr⟩ := some_of_lt (l := M) (k := i) (by rw [HT.out.nlen]; exact hin)
    have hrow := HT.out.row i vr r hvr hr
    have hrl := HMr.out r (List.mem_of_getElem? hr)
    have cr := gc4 i vr 0 _ hvr rfl
    simp only [Nat.mul_one, Nat.add_zero] at cr
    obtain ⟨vA, vn, vc⟩ := vr
    dsimp only at hrow cr
    have hvn : r.length = vn := hrow.len
    obtain ⟨gr, rfl, hgr, hgrw, _, _⟩ := hrow.at_ (by omega)
    have hne : g4 ≠ gr := fun q => HT.out.top.ne hrow (by decide) g4 rfl (by rw [q]; rfl)
    clear gc4 hvr hr
    go_wp2_with fail
    clear cr
    refine (cur_pickL HS.out HB.out hp0 HC.out (by omega) (by omega) (by omega)).mono ?_; rintro e w6 ⟨j, rfl, ⟨j0, j1⟩, hc6, hg6⟩
    replace HT := Lib.hid (HT.out.past hg6 hpbs)
    replace hrow := hrow.past hg6 hpbs
    replace R := R.grown hg6 (fun e => by injection e with e; omega)
    replace Q := Q.grown hg6 (fun e => by injection e with e; omega)
    replace K := K.grown hg6 (fun e => by injection e with e; omega)
    replace J := J.grown hg6 (fun e => by injection e with e; omega)
    replace HO := Lib.hid (HO.out.kept hg6 (fun k hk e => by injection e with e; have := HLB.out k hk; omega))
    replace HB := Lib.hid (grown_below HB.out hp0 hg6)
    replace HC := Lib.hid hc6
    clear hg6 hc6
    obtain ⟨jn, rfl⟩ := Int.eq_ofNat_of_zero_le j0
    have hjn : jn < vn := by omega
    have hjI : (jn : Int) < (vn : Int) := by omega
    obtain ⟨gr', eg, _, _, gcr, gfr⟩ := hrow.at_ (by omega)
    injection eg with eg
    injection eg with eg _ _
    subst eg
    obtain ⟨xr, hxr⟩ := some_of_lt (l := r) (k := jn) (by omega)
    have cx := gcr jn xr 0 _ hxr rfl
    simp only [Nat.mul_one, Nat.add_zero] at cx
    have fx := gfr jn
    clear gcr gfr hxr j0 j1
    have gs : w6.grownBy (w6.setCell ⟨gr, jn, none⟩ (.string f)) (some gr) := only_set w6 (p := ⟨gr, jn, none⟩) (.string f)
    have HTL : TabL (w6.setCell ⟨gr, jn, none⟩ (.string f)) bs (some ⟨g4, 0, none⟩) nT := (HT.out.loose (fun r hr => by have := (HMr.out r hr).2; omega)).hit (fun _ a ea => by injection ea with ea; subst ea; exact hne)
    replace K := K.grown gs (fun e => by injection e with e; omega)
    replace J := J.grown gs (fun e => by injection e with e; omega)
    replace R := R.grown gs (fun e => by injection e with e; omega)
    replace Q := Q.grown gs (fun e => by injection e with e; omega)
    replace HO := Lib.hid (HO.out.kept gs (fun k hk e => by injection e with e; have := HLB.out k hk; omega))
    replace HB := Lib.hid (HB.out.grown gs HB.out.size (fun k e => by injection e with e; omega))
    clear gs hrow HC
    go_wp2_with fail
    clear cx fx
    go_meet
    exact ⟨t, (some ⟨g4, 0, none⟩), nT, cT, rfl, rfl, by omega, by omega, by omega, HTL, ⟨K, J⟩, ⟨R, Q⟩, HO, HB⟩
   ·have h1I : ¬ (1 : Int) < (nT : Int) := by omega
    go_wp2_with fail
    go_meet
    exact ⟨t, AT, nT, cT, rfl, rfl, by omega, by omega, by omega, HT.out.loose (fun r hr => by have := (HMr.out r hr).2; omega), ⟨K, J⟩, ⟨R, Q⟩, HO, HB⟩
  ·go_wp2_with fail
   refine (cur_spoilt (B := 8) (t := t) HS.out HB.out hp0 HC.out (by omega) htz0 (by decide) (by decide) (by decide)).mono ?_; rintro e w5 ⟨t2, rfl, ht2, hc5, hg5⟩
   replace HT := Lib.hid (HT.out.past hg5 hpbs)
   replace R := R.grown hg5 (fun e => by injection e with e; omega)
   replace Q := Q.grown hg5 (fun e => by injection e with e; omega)
   replace K := K.grown hg5 (fun e => by injection e with e; omega)
   replace J := J.grown hg5 (fun e => by injection e with e; omega)
   replace HO := Lib.hid (HO.out.kept hg5 (fun k hk e => by injection e with e; have := HLB.out k hk; omega))
   replace HB := Lib.hid (grown_below HB.out hp0 hg5)
   replace HC := Lib.hid hc5
   clear hg5 hc5
   go_wp2_with fail
   go_meet
   exact ⟨t2, AT, nT, cT, rfl, rfl, by omega, by omega, by omega, HT.out.loose (fun r hr => by have := (HMr.out r hr).2; omega), ⟨K, J⟩, ⟨R, Q⟩, HO, HB⟩
  ·skip
   have bz : bs ≤ w4.heap.size := Nat.le_trans s5 s9
   have o1 := own_lit1_at' (base := bs) strE_len w4 9 tg (b := w4.heap.size) rfl bz
   have o1' := o1.alloc (.cells ⟨slcE (some ⟨w4.heap.size, 0, none⟩, 1, 1)⟩ 23)
   have ax : Below w4.heap.size w4 ((w4.alloc (.cells ⟨strE tg⟩ 9)).alloc (.cells ⟨slcE (some ⟨w4.heap.size, 0, none⟩, 1, 1)⟩ 23)) := by (repeat' (first | (with_reducible exact Below.refl _ _) | (with_reducible assumption) | (with_reducible refine below_drewN ?_ _) | (with_reducible refine Below.drew ?_) | (with_reducible refine below_alloc ?_ _) | (with_reducible refine Below.alloc ?_ ?_ _) | (with_reducible refine Below.setCell ?_ ?_ _) | (with_reducible refine below_go ?_ (by with_reducible assumption)) | (with_reducible refine below_then (by with_reducible assumption) ?_ ?_) | go_size))
   have HTX := Lib.hid (HT.out.up ax)
   go_wp2_with (first | (at_builtin; go_must ((refine wpList_append_recs Tryz.elStrs slcE_one rfl (.tmp 74) (.tmp 77) rfl rfl HTX.out.top rfl (own_lit1_at' slcE_len (w4.alloc (.cells ⟨strE tg⟩ 9)) 23 ((some ⟨w4.heap.size, 0, none⟩, 1, 1) : Hd) (by simp) (Nat.le_refl _)).recs rfl ?_ (by decide) ?_ ?_; (focus (first | omega | (simp only [World.size_alloc]; done) | (simp only [World.size_alloc]; omega) | (simp; done) | (simp; omega))); (focus (first | omega | (simp only [World.size_alloc]; done) | (simp only [World.size_alloc]; omega) | (simp; done) | (simp; omega))); intro A6 c6 w6 ho6 hg6 hl6; have HO6 := Lib.hid ho6; have HG6 := Lib.hid hg6; clear ho6 hg6 hl6))))
   have HT6 := Lib.hid (HTX.out.app (v := (some ⟨w4.heap.size, 0, none⟩, 1, 1)) (r := [tg]) HO6.out HG6.out o1' (by decide))
   have hc6 := HT6.out.top.cap.1
   replace K := (K.up ax).grown HG6.out (fun e => by have := (HTX.out.top.blk e.symm).1; omega)
   replace J := (J.up ax).grown HG6.out (fun e => by have := (HTX.out.top.blk e.symm).1; omega)
   replace R := (R.up ax).grown HG6.out (fun e => by have := (HTX.out.top.blk e.symm).1; omega)
   replace Q := (Q.up ax).grown HG6.out (fun e => by have := (HTX.out.top.blk e.symm).1; omega)
   replace HO := Lib.hid ((HO.out.up ax).kept HG6.out (fun k hk e => by have h1 := HLB.out k hk; have h2 := (HTX.out.top.blk e).1; omega))
   have HBX := Lib.hid (below_go HB.out ax)
   replace HB := Lib.hid (HBX.out.grown HG6.out HBX.out.size (fun k e => by have h2 := (HTX.out.top.blk e).1; omega))
   have HL6 : TabL w6 bs A6 (nT + 1) := HT6.out.loose (fun r hr => (List.mem_append.1 hr).elim (fun q => by have := (HMr.out r q).2; omega) (fun q => by rw [List.mem_singleton.1 q]; simp))
   clear HO6 HG6 HTX HT6 o1 o1' ax HBX HT
   try go_wp2_with fail
   go_meet
   exact ⟨t, A6, (nT + 1), c6, rfl, rfl, by omega, by omega, by omega, HL6, ⟨K, J⟩, ⟨R, Q⟩, HO, HB⟩
  ·skip
   have n0 : (x == 0) = false := by rw [beq_eq_false_iff_ne]; omega
   have n1 : (x == 1) = false := by rw [beq_eq_false_iff_ne]; omega
   have n2 : (x == 2) = false := by rw [beq_eq_false_iff_ne]; omega
   go_wp2_with fail
   clear n0 n1 n2
   go_meet
   exact ⟨t, AT, nT, cT, rfl, rfl, by omega, by omega, by omega, HT.out.loose (fun r hr => by have := (HMr.out r hr).2; omega), ⟨K, J⟩, ⟨R, Q⟩, HO, HB⟩
 case rest =>
  obtain ⟨t', A', n', c', rfl, rfl, ht', hn', hc', hTL, ⟨K, J⟩, ⟨R, Q⟩, HO, HB⟩ := hcut
  have HTL := Lib.hid hTL
  clear HT hTL
  try clear HC
  rename_i K9
  rename World => wr
  go_upto_region 14 with fail
  have aD : Below wr.heap.size wr wr.drew := (Below.refl _ _).drew
  replace R := R.up aD
  replace Q := Q.up aD
  replace K := K.up aD
  replace J := J.up aD
  replace HO := Lib.hid (HO.out.up aD)
  replace HB := Lib.hid (below_go HB.out aD)
  replace HTL := Lib.hid (HTL.out.up aD)
  clear aD
  have cS : Hid (∀ u : World, Blk u b 25 [.string nm, .int .i64 (st : Int), .slice A2 m c2] → Blk u (b + 1) 27 [.string kb, .string ks] → (u.cell? ⟨b, 0, none⟩ = some (.string nm) ∧ u.cell? ⟨b, 1, none⟩ = some (.int .i64 (st : Int)) ∧ u.cell? ⟨b, 2, none⟩ = some (.slice A2 m c2)) ∧ u.cell? ⟨b + 1, 0, none⟩ = some (.string kb) ∧ u.cell? ⟨b + 1, 1, none⟩ = some (.string ks)) := Lib.hid (fun u L0 L1 => ⟨⟨by simpa using L0.cell 0, by simpa using L0.cell 1, by simpa using L0.cell 2⟩, by simpa using L1.cell 0, by simpa using L1.cell 1⟩)
  refine wp_region_held_drew (S := fun u => (u.cell? ⟨b, 0, none⟩ = some (.string nm) ∧ u.cell? ⟨b, 1, none⟩ = some (.int .i64 (st : Int)) ∧ u.cell? ⟨b, 2, none⟩ = some (.slice A2 m c2)) ∧ u.cell? ⟨b + 1, 0, none⟩ = some (.string kb) ∧ u.cell? ⟨b + 1, 1, none⟩ = some (.string ks)) (by kernel_rfl) (cS.out _ K J) (fun hHeld => ?_)
  refine takeH 0 79 (v := ?_) rfl (by kernel_rfl) (by kernel_rfl) (by kernel_rfl) (fun _ _ _ h => h) (Or.inl ⟨by rfl, ?_⟩) (by assumption) ?_
  rotate_left
  ·(intro w hSw; (try dsimp only at hSw); go_simp) <;> with_reducible rfl
  (try simp only [Act.put, List.setIfInBounds_toArray, List.set_cons_zero, List.set_cons_succ])
  refine takeH 1 80 (v := ?_) rfl (by kernel_rfl) (by kernel_rfl) (by kernel_rfl) (fun _ _ _ h => h) (Or.inl ⟨by rfl, ?_⟩) (by assumption) ?_
  rotate_left
  ·(intro w hSw; (try dsimp only at hSw); go_simp) <;> with_reducible rfl
  (try simp only [Act.put, List.setIfInBounds_toArray, List.set_cons_zero, List.set_cons_succ])
  refine takeH 2 81 (v := ?_) rfl (by kernel_rfl) (by kernel_rfl) (by kernel_rfl) (fun _ _ _ h => h) (Or.inl ⟨by rfl, ?_⟩) (by assumption) ?_
  rotate_left
  ·(intro w hSw; (try dsimp only at hSw); go_simp) <;> with_reducible rfl
  (try simp only [Act.put, List.setIfInBounds_toArray, List.set_cons_zero, List.set_cons_succ])
  refine takeH 3 82 (v := ?_) rfl (by kernel_rfl) (by kernel_rfl) (by kernel_rfl) (fun _ _ _ h => h) (Or.inl ⟨by rfl, ?_⟩) (by assumption) ?_
  rotate_left
  ·(intro w hSw; (try dsimp only at hSw); go_simp) <;> with_reducible rfl
  (try simp only [Act.put, List.setIfInBounds_toArray, List.set_cons_zero, List.set_cons_succ])
  refine takeH 4 83 (v := ?_) rfl (by kernel_rfl) (by kernel_rfl) (by kernel_rfl) (fun _ _ _ h => h) (Or.inl ⟨by rfl, ?_⟩) (by assumption) ?_
  rotate_left
  ·(intro w hSw; (try dsimp only at hSw); go_simp) <;> with_reducible rfl
  (try simp only [Act.put, List.setIfInBounds_toArray, List.set_cons_zero, List.set_cons_succ])
  refine takeH 5 84 (v := ?_) rfl (by kernel_rfl) (by kernel_rfl) (by kernel_rfl) (fun _ _ _ h => h) (Or.inl ⟨by rfl, ?_⟩) (by assumption) ?_
  rotate_left
  ·(intro w hSw; (try dsimp only at hSw); go_simp) <;> with_reducible rfl
  (try simp only [Act.put, List.setIfInBounds_toArray, List.set_cons_zero, List.set_cons_succ])
  obtain ⟨wd, hwd⟩ : ∃ u, u = wr.drew := ⟨_, rfl⟩
  rw [← hwd] at K J R Q HO HB HTL hHeld ⊢
  clear hwd
  have rc0 := R.cell 0; have rc1 := R.cell 1; have rc2 := R.cell 2
  have rf0 := R.frozen 0; have rf1 := R.frozen 1; have rf2 := R.frozen 2
  simp only [List.getElem?_cons_zero, List.getElem?_cons_succ] at rc0 rc1 rc2
  have q1 := sets3_grown wd w.heap.size (.string nm) (.int .i64 (st : Int)) (.slice A2 m c2)
  have R1 := ((R.set_ 0 (.string nm)).set_ 1 (.int .i64 (st : Int))).set_ 2 (.slice A2 m c2)
  have Y1 := Q.grown q1 (fun e => by injection e with e; omega)
  have K1 := K.grown q1 (fun e => by injection e with e; omega)
  have J1 := J.grown q1 (fun e => by injection e with e; omega)
  have hbs := HB.out.size
  have HB1 := Lib.hid (HB.out.grown q1 hbs (fun k e => by injection e with e; omega))
  have HO1 := Lib.hid (HO.out.past q1 (by omega))
  have HT1 := Lib.hid (HTL.out.past q1 (by omega))
  obtain ⟨wA, hwA⟩ : ∃ u, u = ((wd.setCell ⟨w.heap.size, 0, none⟩ (.string nm)).setCell ⟨w.heap.size, 1, none⟩ (.int .i64 (st : Int))).setCell ⟨w.heap.size, 2, none⟩ (.slice A2 m c2) := ⟨_, rfl⟩
  rw [← hwA] at R1 Y1 K1 J1 HB1 HO1 HT1
  refine wpAnyH_ready (rs := [6]) (by kernel_rfl) (by simp) ?_
  refine AllReadyH.cons (o := _) rfl (fun K0 hK0 => ?_) AllReadyH.nil
  go_simp
  try rw [← hwA]
  refine hK0.out _ _ (cS.out _ K1 J1) (fun hHeld1 => ?_)
  clear hK0 K0 rc0 rc1 rc2 rf0 rf1 rf2 R Q K J hHeld hwA q1 HTL
  (try simp only [Act.put, List.setIfInBounds_toArray, List.set_cons_zero, List.set_cons_succ])
  have yc0 := Y1.cell 0; have yc1 := Y1.cell 1
  have yf0 := Y1.frozen 0; have yf1 := Y1.frozen 1
  simp only [List.getElem?_cons_zero, List.getElem?_cons_succ] at yc0 yc1
  have q2 := sets2_grown wA (w.heap.size + 1) (.string kb) (.string ks)
  have R2 := R1.grown q2 (fun e => by injection e with e; omega)
  have Y2 := (Y1.set_ 0 (.string kb)).set_ 1 (.string ks)
  have K2 := K1.grown q2 (fun e => by injection e with e; omega)
  have J2 := J1.grown q2 (fun e => by injection e with e; omega)
  have HB2 := Lib.hid (HB1.out.grown q2 HB1.out.size (fun k e => by injection e with e; omega))
  have HO2 := Lib.hid (HO1.out.past q2 (by omega))
  have HT2 := Lib.hid (HT1.out.past q2 (by omega))
  obtain ⟨wB, hwB⟩ : ∃ u, u = (wA.setCell ⟨w.heap.size + 1, 0, none⟩ (.string kb)).setCell ⟨w.heap.size + 1, 1, none⟩ (.string ks) := ⟨_, rfl⟩
  rw [← hwB] at R2 Y2 K2 J2 HB2 HO2 HT2
  refine wpAnyH_ready (rs := [7]) (by kernel_rfl) (by simp) ?_
  refine AllReadyH.cons (o := _) rfl (fun K0 hK0 => ?_) AllReadyH.nil
  go_simp
  try rw [← hwB]
  refine hK0.out _ _ (cS.out _ K2 J2) (fun hHeld2 => ?_)
  clear hK0 K0 yc0 yc1 yf0 yf1 hHeld1 hwB q2 R1 Y1 K1 J1 HB1 HO1 HT1
  (try simp only [Act.put, List.setIfInBounds_toArray, List.set_cons_zero, List.set_cons_succ])
  refine wpAnyH_ready (rs := [8]) (by kernel_rfl) (by simp) ?_
  refine AllReadyH.cons (o := _) rfl (fun K0 hK0 => ?_) AllReadyH.nil
  go_simp
  refine hK0.out _ _ (cS.out _ K2 J2) (fun hHeld3 => ?_)
  clear hK0 K0 hHeld3
  (try simp only [Act.put, List.setIfInBounds_toArray, List.set_cons_zero, List.set_cons_succ])
  refine wpAnyH_ready (rs := [9]) (by kernel_rfl) (by simp) ?_
  refine AllReadyH.cons (o := _) rfl (fun K0 hK0 => ?_) AllReadyH.nil
  go_simp
  refine hK0.out _ _ (cS.out _ K2 J2) (fun hHeld3 => ?_)
  clear hK0 K0 hHeld3
  (try simp only [Act.put, List.setIfInBounds_toArray, List.set_cons_zero, List.set_cons_succ])
  refine wpAnyH_ready (rs := [10]) (by kernel_rfl) (by simp) ?_
  refine AllReadyH.cons (o := _) rfl (fun K0 hK0 => ?_) AllReadyH.nil
  go_simp
  refine hK0.out _ _ (cS.out _ K2 J2) (fun hHeld3 => ?_)
  clear hK0 K0 hHeld3
  (try simp only [Act.put, List.setIfInBounds_toArray, List.set_cons_zero, List.set_cons_succ])
  refine wpAnyH_ready (rs := [11]) (by kernel_rfl) (by simp) ?_
  refine AllReadyH.cons (o := _) rfl (fun K0 hK0 => ?_) AllReadyH.nil
  go_simp
  refine hK0.out _ _ (cS.out _ K2 J2) (fun hHeld3 => ?_)
  clear hK0 K0 hHeld3
  (try simp only [Act.put, List.setIfInBounds_toArray, List.set_cons_zero, List.set_cons_succ])
  refine wpAnyH_done (by kernel_rfl) ?_ _
  (try simp only [Act.put, List.setIfInBounds_toArray, List.set_cons_zero, List.set_cons_succ])
  have u0 := R2.cell 0; have u1 := R2.cell 1; have u2 := R2.cell 2
  have y0 := Y2.cell 0; have y1 := Y2.cell 1
  simp only [List.set_cons_zero, List.set_cons_succ, List.getElem?_cons_zero, List.getElem?_cons_succ] at u0 u1 u2 y0 y1
  obtain ⟨MT, hMT, hMR⟩ := HT2.out.tab
  clear R2 Y2 K2 J2 HT2
  rename_i aK
  refine aK _ _ ?_
  refine wp_ret ?_
  refine bodyPost_ret (v := .tuple #[.agg #[.string nm, .int .i64 (st : Int), .slice A2 m c2], .agg #[.string kb, .string ks], .string f, .string tg, .string t', .slice A' n' c']) (by simp [results, Tryz.results56, go_sem, u0, u1, u2, y0, y1]) rfl ?_
  exact ⟨nm, st, A2, m, c2, L, kb, ks, f, tg, t', A', n', c', MT, rfl, ⟨HGM.out, h3, h6, hl12⟩, zkb, zks, hf8, htg, ht', hMT, hn', hc', hMR, HO2.out.base_le (by omega), HB2.out⟩
end Go.Proofs.YtidolgonmimicaaGreat
namespace Go.Proofs.YtidolgonmimicaaGreat
open Go.ChangeShapes Go.WideShapes Go.ChangeAt Go.RowKit Go.Deep
def teV (nm : ByteArray) (st : Nat) (l : List ByteArray) (kb ks t : ByteArray) : ByteArray := if goodF nm (st : Int) l kb ks t = true then hdAt st l kb ks t t.size else ⟨#[]⟩
theorem teV_t {nm : ByteArray} {st : Nat} {l : List ByteArray} {kb ks t : ByteArray} (h : goodF nm (st : Int) l kb ks t = true) : teV nm st l kb ks t = hdAt st l kb ks t t.size := if_pos h
theorem teV_f {nm : ByteArray} {st : Nat} {l : List ByteArray} {kb ks t : ByteArray} (h : goodF nm (st : Int) l kb ks t = false) : teV nm st l kb ks t = ⟨#[]⟩ := if_neg (by rw [h]; simp)
end Go.Proofs.YtidolgonmimicaaGreat
namespace Go.Proofs.YtidolgonmimicaaGreat
open Go.ChangeShapes Go.WideShapes Go.ChangeAt Go.RowKit Go.Deep
def PaP (nm : ByteArray) (st : Nat) (l : List ByteArray) (kb ks t : ByteArray) (m : Nat) : Prop :=
 m ≤ 40320 ∧ (goodF nm (st : Int) l kb ks t = true → IsOrd st (hdAt st l kb ks t t.size) m) ∧ (goodF nm (st : Int) l kb ks t = false → m = 0)
theorem PaP.uniq {nm : ByteArray} {st : Nat} {l : List ByteArray} {kb ks t : ByteArray} {m k : Nat} (h : PaP nm st l kb ks t m) (g : PaP nm st l kb ks t k) : m = k := by
 rcases hg : goodF nm (st : Int) l kb ks t
 ·rw [h.2.2 hg, g.2.2 hg]
 ·exact (h.2.1 hg).uniq (g.2.1 hg)
end Go.Proofs.YtidolgonmimicaaGreat
namespace Go.Proofs
open Go.Shelf
def Tryz.lays105_ren : Go.Shelf.Ren := ⟨fun | 105 => 86 | 212 => 171 | 99 => 172 | 165 => 173 | 166 => 174 | 170 => 175 | 169 => 176 | 263 => 217 | 264 => 218 | 206 => 219 | 240 => 220 | 241 => 221 | 276 => 248 | 277 => 249 | n => n, fun | 9 => 9 | 3 => 3 | 4 => 4 | 20 => 20 | 0 => 0 | 46 => 149 | 109 => 150 | 5 => 5 | 72 => 154 | 76 => 158 | 51 => 178 | 146 => 179 | 53 => 85 | 148 => 181 | 70 => 152 | 37 => 22 | 75 => 157 | 127 => 183 | 164 => 198 | 80 => 108 | n => n, fun | n => n⟩
end Go.Proofs
namespace Go.Proofs.YtidolgonmimicaaGreat
open Go.ChangeShapes Go.WideShapes Go.ChangeAt Go.RowKit Go.Deep
def repT (t : ByteArray) (m : Nat) : ByteArray := ⟨(Lib.repeatL t.data.toList m).toArray⟩
def WhP (nm : ByteArray) (st : Nat) (l : List ByteArray) (kb ks t : ByteArray) (x : ByteArray) (ok : Bool) : Prop :=
 ∃ m, PaP nm st l kb ks t m ∧ ok = (goodF nm (st : Int) l kb ks t && decide (m * t.size ≤ 60)) ∧ x = if ok = true then repT t m else ⟨#[]⟩
theorem WhP.uniq {nm : ByteArray} {st : Nat} {l : List ByteArray} {kb ks t x y : ByteArray} {a b : Bool} (h : WhP nm st l kb ks t x a) (g : WhP nm st l kb ks t y b) : a = b ∧ x = y := by
 obtain ⟨m, h1, h2, h3⟩ := h
 obtain ⟨k, g1, g2, g3⟩ := g
 obtain rfl := h1.uniq g1
 obtain rfl : a = b := by rw [h2, g2]
 exact ⟨rfl, by rw [h3, g3]⟩
def WhR (nm : ByteArray) (st : Nat) (l : List ByteArray) (kb ks t : ByteArray) (w : World) (e : Ending) (w' : World) : Prop :=
 ∃ (x : ByteArray) (ok : Bool), e = .returned (.tuple #[.string x, .bool ok]) ∧ WhP nm st l kb ks t x ok ∧ Below w.heap.size w w'
theorem WhR.mk {nm : ByteArray} {st : Nat} {l : List ByteArray} {kb ks t : ByteArray} {w w' : World} {e : Ending} (x : ByteArray) (ok : Bool) (he : e = .returned (.tuple #[.string x, .bool ok])) (h1 : WhP nm st l kb ks t x ok) (h2 : Below w.heap.size w w') : WhR nm st l kb ks t w e w' := ⟨x, ok, he, h1, h2⟩
end Go.Proofs.YtidolgonmimicaaGreat
namespace Go.Proofs.YtidolgonmimicaaGreat
open Go.ChangeShapes Go.WideShapes Go.ChangeAt Go.RowKit Go.Deep
end Go.Proofs.YtidolgonmimicaaGreat
namespace Go.Proofs.YtidolgonmimicaaGreat
open Go.ChangeShapes Go.WideShapes Go.ChangeAt Go.RowKit Go.Deep
set_option maxHeartbeats 2000000 in
theorem spec_TouchEndG {A : Option Addr} {n c st : Nat} {nm : ByteArray} {l : List ByteArray} {kb ks t : ByteArray} {w : World} (hn : l.length = n) (h : Strs w A l) (hz : n ≤ 1048576) (hs : ∀ s ∈ l, s.size ≤ 16777216) (hnm : nm.size ≤ 16777216) (h9 : st ≤ 1000) (hkb : kb.size ≤ 16777216) (hks : ks.size ≤ 16777216) (ht : t.size ≤ 16777216) (hcap : n ≤ c) :
  Calls Tryz.prog 38 #[.agg #[.string nm, .int .i64 st, .slice A n c], .agg #[.string kb, .string ks], .string t] w fun e w' => e = .returned (.tuple #[.string (teV nm st l kb ks t), .bool (goodF nm (st : Int) l kb ks t)]) ∧ Below w.heap.size w w' := by
 have b0 : Below w.heap.size w ((w.alloc (.cells ⟨[.string nm, .int .i64 st, .slice A n c]⟩ 25)).alloc (.cells ⟨[.string kb, .string ks]⟩ 27)) := by (repeat' (first | (with_reducible exact Below.refl _ _) | (with_reducible assumption) | (with_reducible refine below_drewN ?_ _) | (with_reducible refine Below.drew ?_) | (with_reducible refine below_alloc ?_ _) | (with_reducible refine Below.alloc ?_ ?_ _) | (with_reducible refine Below.setCell ?_ ?_ _) | (with_reducible refine below_go ?_ (by with_reducible assumption)) | (with_reducible refine below_then (by with_reducible assumption) ?_ ?_) | go_size))
 have K0 := (Blk.at_ w 25 [.string nm, .int .i64 st, .slice A n c] (b := w.heap.size) rfl).alloc (.cells ⟨[.string kb, .string ks]⟩ 27)
 have J0 := Blk.at_ (w.alloc (.cells ⟨[.string nm, .int .i64 st, .slice A n c]⟩ 25)) 27 [.string kb, .string ks] (b := w.heap.size + 1) (by simp)
 have hI : I64 (st : Int) := ⟨by omega, by omega⟩
 have H0 := h.up b0
 have HT := Lib.hid (@teV_t nm st l kb ks t)
 have HF := Lib.hid (@teV_f nm st l kb ks t)
 have HG : Hid (goodF nm st l kb ks t = (goodK nm (st : Int) l kb ks && goodT t)) := Lib.hid rfl
 go_in
 go_wp2_with fail
 refine (spec_l9Asked (nm := nm) (st := (st : Int)) hn H0 hz hs hnm hI hkb hks ht).mono ?_; rintro e w1 ⟨rfl, hb1⟩
 have K1 := K0.up hb1
 have J1 := J0.up hb1
 have H1 := H0.up hb1
 have B1 := below_go b0 hb1
 clear K0 J0 H0 h b0 hb1
 rcases hg : goodF nm st l kb ks t
 ·have e2 := Lib.hid hg
  go_wp2
  go_ret2
  rw [HF.out e2.out, e2.out]
  exact ⟨rfl, B1⟩
 ·have e2 := Lib.hid hg
  have hgg := hg
  rw [HG.out, Bool.and_eq_true] at hgg
  have k0 := K1.cell 0; have k1 := K1.cell 1; have k2 := K1.cell 2; have j0 := J1.cell 0; have j1 := J1.cell 1
  simp only [List.getElem?_cons_zero, List.getElem?_cons_succ] at k0 k1 k2 j0 j1
  go_wp2_with fail
  refine (spec_l9EndP (t := t) hn H1 hgg.1 hgg.2 hcap).mono ?_; rintro e w2 ⟨rfl, hb2⟩
  go_wp2
  go_ret2
  rw [HT.out e2.out, e2.out]
  exact ⟨rfl, below_go B1 hb2⟩
end Go.Proofs.YtidolgonmimicaaGreat
namespace Go.Proofs.YtidolgonmimicaaGreat
open Go.ChangeShapes Go.WideShapes Go.ChangeAt Go.RowKit Go.Deep
set_option maxHeartbeats 16000000 in
set_option maxRecDepth 100000 in
theorem law_Repair (A0 : Option Addr) (c0 : Nat) (l0 : List Int) (A1 : Option Addr) (c1 : Nat) (l1 : List Int) (w : World) (h0 : Recs byteE 1 w A0 l0) (hm0 : l0.length ≤ 9223372036854775807) (hb0 : ∀ x ∈ l0, 0 ≤ x ∧ x ≤ 255)
  (h1 : Recs byteE 1 w A1 l1) (hm1 : l1.length ≤ 9223372036854775807) (hb1 : ∀ x ∈ l1, 0 ≤ x ∧ x ≤ 255) :
  Calls Tryz.prog 7 #[.slice A0 l0.length c0, .slice A1 l1.length c1] w fun e w' => e = .returned (.bool true) ∧ Below w.heap.size w w' := by
 have S0 := Lib.hid (show Src w A0 l0.length from ⟨l0, rfl, hm0, hb0, h0⟩)
 have S1 := Lib.hid (show Src w A1 l1.length from ⟨l1, rfl, hm1, hb1, h1⟩)
 clear h0 hb0 h1 hb1
 by_cases hz : wrap64 ((l0.length : Int) + (l1.length : Int)) ≤ 1048576
 ·have hI : ¬ 1048576 < wrap64 ((l0.length : Int) + (l1.length : Int)) := by omega
  clear hz
  go_in
  go_wp2_with fail
  clear hI
  refine (draw_RepairTouch S0.out).mono ?_; rintro e v ⟨nm, st, B, m, d, L, kb, ks, f, tg, rfl, hgm, h3, h6, hl12, zk, zs, hf8, htg, ho, hv⟩
  have hnm := goodM_name hgm
  have HLS : Hid (∀ s ∈ L, s.size ≤ 16777216) := Lib.hid (fun s hs => by have := goodM_changes hgm s hs; omega)
  have HL := Lib.hid ho.len
  have hcap := ho.cap.1
  have z : m ≤ 1048576 := by have := HL.out; omega
  have hnm2 : nm.size ≤ 16777216 := by omega
  have h9 : st ≤ 1000 := by omega
  have zk2 : kb.size ≤ 16777216 := by omega
  have zs2 : ks.size ≤ 16777216 := by omega
  have zf2 : f.size ≤ 16777216 := by omega
  have zg2 : tg.size ≤ 16777216 := by omega
  have a1 : Below v.heap.size v ((v.alloc (.cells #[.string nm, .int .i64 (st : Int), .slice B m d] 25)).alloc (.cells #[.string kb, .string ks] 27)) := by (repeat' (first | (with_reducible exact Below.refl _ _) | (with_reducible assumption) | (with_reducible refine below_drewN ?_ _) | (with_reducible refine Below.drew ?_) | (with_reducible refine below_alloc ?_ _) | (with_reducible refine Below.alloc ?_ ?_ _) | (with_reducible refine Below.setCell ?_ ?_ _) | (with_reducible refine below_go ?_ (by with_reducible assumption)) | (with_reducible refine below_then (by with_reducible assumption) ?_ ?_) | go_size))
  have K := ((Blk.at_ v 25 [.string nm, .int .i64 (st : Int), .slice B m d] (b := v.heap.size) rfl).alloc (.cells #[.string kb, .string ks] 27))
  have J := (Blk.at_ (v.alloc (.cells #[.string nm, .int .i64 (st : Int), .slice B m d] 25)) 27 [.string kb, .string ks] (b := v.heap.size + 1) (by simp))
  have R := Lib.hid (ho.recs.up a1)
  have HW := Lib.hid (below_go hv a1)
  clear hv a1 hgm ho
  go_upto_region 4 with fail
  obtain ⟨u, hu⟩ : ∃ u, u = ((v.alloc (.cells #[.string nm, .int .i64 (st : Int), .slice B m d] 25)).alloc (.cells #[.string kb, .string ks] 27)) := ⟨_, rfl⟩
  rw [← hu] at K J R HW ⊢
  obtain ⟨p, hp⟩ : ∃ u, u = v.heap.size := ⟨_, rfl⟩
  rw [← hp] at K J ⊢
  clear hu hp
  obtain ⟨o, hoo⟩ : ∃ u, u = rtO nm st L kb ks f tg := ⟨_, rfl⟩
  have HO := Lib.hid hoo
  clear hoo
  obtain ⟨lo, hlo⟩ : ∃ u, u = rlO nm st L kb ks f tg := ⟨_, rfl⟩
  have HLO := Lib.hid hlo
  have hly := lay_rows nm st L kb ks f tg
  rw [← hlo] at hly
  clear hlo
  have kc0 := K.cell 0; have kc1 := K.cell 1; have kc2 := K.cell 2; have jc0 := J.cell 0; have jc1 := J.cell 1
  simp only [List.getElem?_cons_zero, List.getElem?_cons_succ] at kc0 kc1 kc2 jc0 jc1
  go_wp2_with fail
  refine (impl_RepairTouch (nm := nm) (a := f) (b := tg) HL.out R.out z HLS.out hnm2 h9 zk2 zs2 zf2 zg2).mono ?_; rw [← HO.out]; rintro e y2 ⟨rfl, hy⟩
  clear kc0 kc1 kc2 jc0 jc1
  replace K := K.up hy
  replace J := J.up hy
  replace R := Lib.hid (R.out.up hy)
  replace HW := Lib.hid (below_go HW.out hy)
  clear hy
  have kc0 := K.cell 0; have kc1 := K.cell 1; have kc2 := K.cell 2; have jc0 := J.cell 0; have jc1 := J.cell 1
  simp only [List.getElem?_cons_zero, List.getElem?_cons_succ] at kc0 kc1 kc2 jc0 jc1
  go_wp2_with fail
  refine (spec_RepairTouch (nm := nm) (a := f) (b := tg) HL.out R.out z HLS.out hnm2 h9 zk2 zs2 zf2 zg2 hcap).mono ?_; rw [← HO.out]; rintro e y3 ⟨rfl, hy⟩
  clear kc0 kc1 kc2 jc0 jc1
  replace K := K.up hy
  replace J := J.up hy
  replace R := Lib.hid (R.out.up hy)
  replace HW := Lib.hid (below_go HW.out hy)
  clear hy
  have kc0 := K.cell 0; have kc1 := K.cell 1; have kc2 := K.cell 2; have jc0 := J.cell 0; have jc1 := J.cell 1
  simp only [List.getElem?_cons_zero, List.getElem?_cons_succ] at kc0 kc1 kc2 jc0 jc1
  go_wp2_with fail
  refine (impl_RepairLayers (nm := nm) (a := f) (b := tg) HL.out R.out z HLS.out hnm2 h9 zk2 zs2 zf2 zg2).mono ?_; rw [← HLO.out]; rintro e y4 ⟨X1, n1, q1, v1, rfl, hT1, hy⟩
  clear kc0 kc1 kc2 jc0 jc1
  have HT1 := Lib.hid hT1.tab
  have hn1 := hT1.nlen
  clear hT1
  replace K := K.up hy
  replace J := J.up hy
  replace R := Lib.hid (R.out.up hy)
  replace HW := Lib.hid (below_go HW.out hy)
  clear hy
  have kc0 := K.cell 0; have kc1 := K.cell 1; have kc2 := K.cell 2; have jc0 := J.cell 0; have jc1 := J.cell 1
  simp only [List.getElem?_cons_zero, List.getElem?_cons_succ] at kc0 kc1 kc2 jc0 jc1
  go_wp2_with fail
  refine (spec_RepairLayers (nm := nm) (a := f) (b := tg) HL.out R.out z HLS.out hnm2 h9 zk2 zs2 zf2 zg2 hcap).mono ?_; rw [← HLO.out]; rintro e y5 ⟨X2, n2, q2, v2, rfl, hT2, hy⟩
  clear kc0 kc1 kc2 jc0 jc1
  have HT2 := Lib.hid hT2.tab
  obtain rfl : n2 = n1 := by rw [← hn1, ← hT2.nlen]
  clear hT2
  replace K := K.up hy
  replace J := J.up hy
  replace R := Lib.hid (R.out.up hy)
  replace HT1 := Lib.hid (HT1.out.up hy)
  replace HW := Lib.hid (below_go HW.out hy)
  clear hy
  go_wp2_with fail
  refine (draw_CheckRepair (S1.out.over HW.out)).mono ?_; rintro e y6 ⟨nm3, st3, A3, n3, c3, L3, kb3, ks3, f3, tg3, t3, X3, m3, d3, M3, rfl, ⟨hgm3, h33, h36, hl3⟩, zk3, zs3, hf3, htg3, ht3, hT3, hm3, hd3, hM3, ho3, hy⟩
  have hnm3 := goodM_name hgm3
  have HLS3 : Hid (∀ s ∈ L3, s.size ≤ 16777216) := Lib.hid (fun s hs => by have := goodM_changes hgm3 s hs; omega)
  have HL3 := Lib.hid ho3.len
  have hcap3 := ho3.cap.1
  have z3 : n3 ≤ 1048576 := by have := HL3.out; omega
  have R3 := Lib.hid ho3.recs
  have HT3 := Lib.hid hT3
  have HMZ3 : Hid (∀ r ∈ M3, r.length ≤ 16777216) := Lib.hid (fun r hr => by have := hM3 r hr; omega)
  clear hgm3 ho3 hT3 hM3
  replace K := K.up hy
  replace J := J.up hy
  replace R := Lib.hid (R.out.up hy)
  replace HT1 := Lib.hid (HT1.out.up hy)
  replace HT2 := Lib.hid (HT2.out.up hy)
  replace HW := Lib.hid (below_go HW.out hy)
  clear hy
  have a9 : Below y6.heap.size y6 ((y6.alloc (.cells #[.string nm3, .int .i64 (st3 : Int), .slice A3 n3 c3] 25)).alloc (.cells #[.string kb3, .string ks3] 27)) := by (repeat' (first | (with_reducible exact Below.refl _ _) | (with_reducible assumption) | (with_reducible refine below_drewN ?_ _) | (with_reducible refine Below.drew ?_) | (with_reducible refine below_alloc ?_ _) | (with_reducible refine Below.alloc ?_ ?_ _) | (with_reducible refine Below.setCell ?_ ?_ _) | (with_reducible refine below_go ?_ (by with_reducible assumption)) | (with_reducible refine below_then (by with_reducible assumption) ?_ ?_) | go_size))
  have G3 := ((Blk.at_ y6 25 [.string nm3, .int .i64 (st3 : Int), .slice A3 n3 c3] (b := y6.heap.size) rfl).alloc (.cells #[.string kb3, .string ks3] 27))
  have J3 := (Blk.at_ (y6.alloc (.cells #[.string nm3, .int .i64 (st3 : Int), .slice A3 n3 c3] 25)) 27 [.string kb3, .string ks3] (b := y6.heap.size + 1) (by simp))
  replace K := K.up a9
  replace J := J.up a9
  replace R := Lib.hid (R.out.up a9)
  replace HT1 := Lib.hid (HT1.out.up a9)
  replace HT2 := Lib.hid (HT2.out.up a9)
  replace R3 := Lib.hid (R3.out.up a9)
  replace HT3 := Lib.hid (HT3.out.up a9)
  replace HW := Lib.hid (below_go HW.out a9)
  clear a9
  go_upto_region 9 with fail
  obtain ⟨u3, hu⟩ : ∃ u, u = ((y6.alloc (.cells #[.string nm3, .int .i64 (st3 : Int), .slice A3 n3 c3] 25)).alloc (.cells #[.string kb3, .string ks3] 27)) := ⟨_, rfl⟩
  rw [← hu] at K J R HT1 HT2 R3 HT3 G3 J3 HW ⊢
  obtain ⟨q3, hp⟩ : ∃ u, u = y6.heap.size := ⟨_, rfl⟩
  rw [← hp] at G3 J3 ⊢
  clear hu hp
  have aD : Below u3.heap.size u3 u3.drew := (Below.refl _ _).drew
  replace G3 := G3.up aD
  replace J3 := J3.up aD
  replace K := K.up aD
  replace J := J.up aD
  replace R := Lib.hid (R.out.up aD)
  replace HT1 := Lib.hid (HT1.out.up aD)
  replace HT2 := Lib.hid (HT2.out.up aD)
  replace R3 := Lib.hid (R3.out.up aD)
  replace HT3 := Lib.hid (HT3.out.up aD)
  replace HW := Lib.hid (below_go HW.out aD)
  clear aD
  have cS : Hid (∀ u : World, Below u3.drew.heap.size u3.drew u → (u.cell? ⟨q3, 0, none⟩ = some (.string nm3) ∧ u.cell? ⟨q3, 1, none⟩ = some (.int .i64 (st3 : Int)) ∧ u.cell? ⟨q3, 2, none⟩ = some (.slice A3 n3 c3)) ∧ u.cell? ⟨q3 + 1, 0, none⟩ = some (.string kb3) ∧ u.cell? ⟨q3 + 1, 1, none⟩ = some (.string ks3)) := Lib.hid (fun u hu => by
   have L0 := G3.up hu; have L1 := J3.up hu
   exact ⟨⟨by simpa using L0.cell 0, by simpa using L0.cell 1, by simpa using L0.cell 2⟩, by simpa using L1.cell 0, by simpa using L1.cell 1⟩)
  obtain ⟨ck, hck⟩ : ∃ u, u = ckR nm3 st3 L3 kb3 ks3 f3 tg3 t3 M3 := ⟨_, rfl⟩
  have HCK := Lib.hid hck
  clear hck
  have hfl := ol_same nm st L kb ks f tg
  rw [← HO.out, ← HLO.out] at hfl
  have hMZ : ∀ r ∈ lo.getD [], r.length ≤ 16777216 := fun r hr => by have := (hly.2 r hr).2; omega
  have HMZ := Lib.hid hMZ
  have hn9 : n2 ≤ 9 := by rw [← hn1]; exact hly.1
  clear hMZ hly
  rcases o with _ | wd
  ·rcases lo with _ | M
   ·simp only [lstT, Option.isSome]
    refine wp_region_held_drew (S := fun u => (u.cell? ⟨q3, 0, none⟩ = some (.string nm3) ∧ u.cell? ⟨q3, 1, none⟩ = some (.int .i64 (st3 : Int)) ∧ u.cell? ⟨q3, 2, none⟩ = some (.slice A3 n3 c3)) ∧ u.cell? ⟨q3 + 1, 0, none⟩ = some (.string kb3) ∧ u.cell? ⟨q3 + 1, 1, none⟩ = some (.string ks3)) (by kernel_rfl) (cS.out _ (Below.refl _ _)) (fun hHeld => ?_)
    refine takeH 0 81 (v := ?_) rfl (by kernel_rfl) (by kernel_rfl) (by kernel_rfl) (fun _ _ _ h => h) (Or.inl ⟨by rfl, ?_⟩) (by assumption) ?_
    rotate_left
    ·(intro w hSw; (try dsimp only at hSw); go_simp) <;> with_reducible rfl
    (try simp only [Act.put, List.setIfInBounds_toArray, List.set_cons_zero, List.set_cons_succ])
    refine takeH 1 82 (v := ?_) rfl (by kernel_rfl) (by kernel_rfl) (by kernel_rfl) (fun _ _ _ h => h) (Or.inl ⟨by rfl, ?_⟩) (by assumption) ?_
    rotate_left
    ·(intro w hSw; (try dsimp only at hSw); go_simp) <;> with_reducible rfl
    (try simp only [Act.put, List.setIfInBounds_toArray, List.set_cons_zero, List.set_cons_succ])
    refine takeH 2 83 (v := ?_) rfl (by kernel_rfl) (by kernel_rfl) (by kernel_rfl) (fun _ _ _ h => h) (Or.inl ⟨by rfl, ?_⟩) (by assumption) ?_
    rotate_left
    ·(intro w hSw; (try dsimp only at hSw); go_simp) <;> with_reducible rfl
    (try simp only [Act.put, List.setIfInBounds_toArray, List.set_cons_zero, List.set_cons_succ])
    refine takeH 3 84 (v := ?_) rfl (by kernel_rfl) (by kernel_rfl) (by kernel_rfl) (fun _ _ _ h => h) (Or.inl ⟨by rfl, ?_⟩) (by assumption) ?_
    rotate_left
    ·(intro w hSw; (try dsimp only at hSw); go_simp) <;> with_reducible rfl
    (try simp only [Act.put, List.setIfInBounds_toArray, List.set_cons_zero, List.set_cons_succ])
    refine takeH 4 85 (v := ?_) rfl (by kernel_rfl) (by kernel_rfl) (by kernel_rfl) (fun _ _ _ h => h) (Or.inl ⟨by rfl, ?_⟩) (by assumption) ?_
    rotate_left
    ·(intro w hSw; (try dsimp only at hSw); go_simp) <;> with_reducible rfl
    (try simp only [Act.put, List.setIfInBounds_toArray, List.set_cons_zero, List.set_cons_succ])
    refine takeH 5 86 (v := ?_) rfl (by kernel_rfl) (by kernel_rfl) (by kernel_rfl) (fun _ _ _ h => h) (Or.inl ⟨by rfl, ?_⟩) (by assumption) ?_
    rotate_left
    ·(intro w hSw; (try dsimp only at hSw); go_simp) <;> with_reducible rfl
    (try simp only [Act.put, List.setIfInBounds_toArray, List.set_cons_zero, List.set_cons_succ])
    refine takeH 6 87 (v := ?_) rfl (by kernel_rfl) (by kernel_rfl) (by kernel_rfl) (fun _ _ _ h => h) (Or.inl ⟨by rfl, ?_⟩) (by assumption) ?_
    rotate_left
    ·(intro w hSw; (try dsimp only at hSw); go_simp) <;> with_reducible rfl
    (try simp only [Act.put, List.setIfInBounds_toArray, List.set_cons_zero, List.set_cons_succ])
    refine takeH 7 88 (v := ?_) rfl (by kernel_rfl) (by kernel_rfl) (by kernel_rfl) (fun _ _ _ h => h) (Or.inl ⟨by rfl, ?_⟩) (by assumption) ?_
    rotate_left
    ·(intro w hSw; (try dsimp only at hSw); go_simp) <;> with_reducible rfl
    (try simp only [Act.put, List.setIfInBounds_toArray, List.set_cons_zero, List.set_cons_succ])
    refine takeH 8 89 (v := ?_) rfl (by kernel_rfl) (by kernel_rfl) (by kernel_rfl) (fun _ _ _ h => h) (Or.inl ⟨by rfl, ?_⟩) (by assumption) ?_
    rotate_left
    ·(intro w hSw; (try dsimp only at hSw); go_simp) <;> with_reducible rfl
    (try simp only [Act.put, List.setIfInBounds_toArray, List.set_cons_zero, List.set_cons_succ])
    refine takeH 9 90 (v := ?_) rfl (by kernel_rfl) (by kernel_rfl) (by kernel_rfl) (fun _ _ _ h => h) (Or.inl ⟨by rfl, ?_⟩) (by assumption) ?_
    rotate_left
    ·(intro w hSw; (try dsimp only at hSw); go_simp) <;> with_reducible rfl
    (try simp only [Act.put, List.setIfInBounds_toArray, List.set_cons_zero, List.set_cons_succ])
    refine takeH 10 91 (v := ?_) rfl (by kernel_rfl) (by kernel_rfl) (by kernel_rfl) (fun _ _ _ h => h) (Or.inl ⟨by rfl, ?_⟩) (by assumption) ?_
    rotate_left
    ·(intro w hSw; (try dsimp only at hSw); go_simp) <;> with_reducible rfl
    (try simp only [Act.put, List.setIfInBounds_toArray, List.set_cons_zero, List.set_cons_succ])
    refine takeH 11 92 (v := ?_) rfl (by kernel_rfl) (by kernel_rfl) (by kernel_rfl) (fun _ _ _ h => h) (Or.inl ⟨by rfl, ?_⟩) (by assumption) ?_
    rotate_left
    ·(intro w hSw; (try dsimp only at hSw); go_simp) <;> with_reducible rfl
    (try simp only [Act.put, List.setIfInBounds_toArray, List.set_cons_zero, List.set_cons_succ])
    refine takeH 12 93 (v := ?_) rfl (by kernel_rfl) (by kernel_rfl) (by kernel_rfl) (fun _ _ _ h => h) (Or.inl ⟨by rfl, ?_⟩) (by assumption) ?_
    rotate_left
    ·(intro w hSw; (try dsimp only at hSw); go_simp) <;> with_reducible rfl
    (try simp only [Act.put, List.setIfInBounds_toArray, List.set_cons_zero, List.set_cons_succ])
    refine takeH 13 94 (v := ?_) rfl (by kernel_rfl) (by kernel_rfl) (by kernel_rfl) (fun _ _ _ h => h) (Or.inl ⟨by rfl, ?_⟩) (by assumption) ?_
    rotate_left
    ·(intro w hSw; (try dsimp only at hSw); go_simp) <;> with_reducible rfl
    (try simp only [Act.put, List.setIfInBounds_toArray, List.set_cons_zero, List.set_cons_succ])
    refine takeH 14 95 (v := ?_) rfl (by kernel_rfl) (by kernel_rfl) (by kernel_rfl) (fun _ _ _ h => h) (Or.inl ⟨by rfl, ?_⟩) (by assumption) ?_
    rotate_left
    ·(intro w hSw; (try dsimp only at hSw); go_simp) <;> with_reducible rfl
    (try simp only [Act.put, List.setIfInBounds_toArray, List.set_cons_zero, List.set_cons_succ])
    refine takeH 15 96 (v := ?_) rfl (by kernel_rfl) (by kernel_rfl) (by kernel_rfl) (fun _ _ _ h => h) (Or.inl ⟨by rfl, ?_⟩) (by assumption) ?_
    rotate_left
    ·(intro w hSw; (try dsimp only at hSw); go_simp) <;> with_reducible rfl
    (try simp only [Act.put, List.setIfInBounds_toArray, List.set_cons_zero, List.set_cons_succ])
    refine takeH 16 97 (v := ?_) rfl (by kernel_rfl) (by kernel_rfl) (by kernel_rfl) (fun _ _ _ h => h) (Or.inl ⟨by rfl, ?_⟩) (by assumption) ?_
    rotate_left
    ·(intro w hSw; (try dsimp only at hSw); go_simp) <;> with_reducible rfl
    (try simp only [Act.put, List.setIfInBounds_toArray, List.set_cons_zero, List.set_cons_succ])
    refine takeH 17 98 (v := ?_) rfl (by kernel_rfl) (by kernel_rfl) (by kernel_rfl) (fun _ _ _ h => h) (Or.inl ⟨by rfl, ?_⟩) (by assumption) ?_
    rotate_left
    ·(intro w hSw; (try dsimp only at hSw); go_simp) <;> with_reducible rfl
    (try simp only [Act.put, List.setIfInBounds_toArray, List.set_cons_zero, List.set_cons_succ])
    refine takeH 18 99 (v := ?_) rfl (by kernel_rfl) (by kernel_rfl) (by kernel_rfl) (fun _ _ _ h => h) (Or.inl ⟨by rfl, ?_⟩) (by assumption) ?_
    rotate_left
    ·(intro w hSw; (try dsimp only at hSw); go_simp) <;> with_reducible rfl
    (try simp only [Act.put, List.setIfInBounds_toArray, List.set_cons_zero, List.set_cons_succ])
    refine takeH 19 100 (v := ?_) rfl (by kernel_rfl) (by kernel_rfl) (by kernel_rfl) (fun _ _ _ h => h) (Or.inl ⟨by rfl, ?_⟩) (by assumption) ?_
    rotate_left
    ·(intro w hSw; (try dsimp only at hSw); go_simp) <;> with_reducible rfl
    (try simp only [Act.put, List.setIfInBounds_toArray, List.set_cons_zero, List.set_cons_succ])
    refine takeH 20 101 (v := ?_) rfl (by kernel_rfl) (by kernel_rfl) (by kernel_rfl) (fun _ _ _ h => h) (Or.inl ⟨by rfl, ?_⟩) (by assumption) ?_
    rotate_left
    ·(intro w hSw; (try dsimp only at hSw); go_simp) <;> with_reducible rfl
    (try simp only [Act.put, List.setIfInBounds_toArray, List.set_cons_zero, List.set_cons_succ])
    refine wpAnyH_ready (rs := [21]) (by kernel_rfl) (by simp) ?_
    refine AllReadyH.cons (o := _) rfl (fun K hK => ?_) AllReadyH.nil
    go_simp
    refine (laws_qSameL HT1.out HT2.out (by omega) HMZ.out).mono ?_; rintro e x1 ⟨rfl, hx1⟩
    try go_wp2_with fail
    refine hK.out _ _ (cS.out _ hx1) (fun hHeld => ?_)
    clear hK K
    (try simp only [Act.put, List.setIfInBounds_toArray, List.set_cons_zero, List.set_cons_succ])
    refine takeH 22 103 (v := ?_) rfl (by kernel_rfl) (by kernel_rfl) (by kernel_rfl) (fun _ _ _ h => h) (Or.inl ⟨by rfl, ?_⟩) (by assumption) ?_
    rotate_left
    ·(intro w hSw; (try dsimp only at hSw); go_simp) <;> with_reducible rfl
    (try simp only [Act.put, List.setIfInBounds_toArray, List.set_cons_zero, List.set_cons_succ])
    refine takeH 23 104 (v := ?_) rfl (by kernel_rfl) (by kernel_rfl) (by kernel_rfl) (fun _ _ _ h => h) (Or.inl ⟨by rfl, ?_⟩) (by assumption) ?_
    rotate_left
    ·(intro w hSw; (try dsimp only at hSw); go_simp) <;> with_reducible rfl
    (try simp only [Act.put, List.setIfInBounds_toArray, List.set_cons_zero, List.set_cons_succ])
    refine takeH 24 105 (v := ?_) rfl (by kernel_rfl) (by kernel_rfl) (by kernel_rfl) (fun _ _ _ h => h) (Or.inl ⟨by rfl, ?_⟩) (by assumption) ?_
    rotate_left
    ·(intro w hSw; (try dsimp only at hSw); go_simp) <;> with_reducible rfl
    (try simp only [Act.put, List.setIfInBounds_toArray, List.set_cons_zero, List.set_cons_succ])
    refine takeH 25 106 (v := ?_) rfl (by kernel_rfl) (by kernel_rfl) (by kernel_rfl) (fun _ _ _ h => h) (Or.inl ⟨by rfl, ?_⟩) (by assumption) ?_
    rotate_left
    ·(intro w hSw; (try dsimp only at hSw); go_simp) <;> with_reducible rfl
    (try simp only [Act.put, List.setIfInBounds_toArray, List.set_cons_zero, List.set_cons_succ])
    refine takeH 26 107 (v := ?_) rfl (by kernel_rfl) (by kernel_rfl) (by kernel_rfl) (fun _ _ _ h => h) (Or.inl ⟨by rfl, ?_⟩) (by assumption) ?_
    rotate_left
    ·(intro w hSw; (try dsimp only at hSw); go_simp) <;> with_reducible rfl
    (try simp only [Act.put, List.setIfInBounds_toArray, List.set_cons_zero, List.set_cons_succ])
    refine takeH 27 108 (v := ?_) rfl (by kernel_rfl) (by kernel_rfl) (by kernel_rfl) (fun _ _ _ h => h) (Or.inl ⟨by rfl, ?_⟩) (by assumption) ?_
    rotate_left
    ·(intro w hSw; (try dsimp only at hSw); go_simp) <;> with_reducible rfl
    (try simp only [Act.put, List.setIfInBounds_toArray, List.set_cons_zero, List.set_cons_succ])
    refine takeH 28 109 (v := ?_) rfl (by kernel_rfl) (by kernel_rfl) (by kernel_rfl) (fun _ _ _ h => h) (Or.inl ⟨by rfl, ?_⟩) (by assumption) ?_
    rotate_left
    ·(intro w hSw; (try dsimp only at hSw); go_simp) <;> with_reducible rfl
    (try simp only [Act.put, List.setIfInBounds_toArray, List.set_cons_zero, List.set_cons_succ])
    refine takeH 29 110 (v := ?_) rfl (by kernel_rfl) (by kernel_rfl) (by kernel_rfl) (fun _ _ _ h => h) (Or.inl ⟨by rfl, ?_⟩) (by assumption) ?_
    rotate_left
    ·(intro w hSw; (try dsimp only at hSw); go_simp) <;> with_reducible rfl
    (try simp only [Act.put, List.setIfInBounds_toArray, List.set_cons_zero, List.set_cons_succ])
    refine takeH 30 111 (v := ?_) rfl (by kernel_rfl) (by kernel_rfl) (by kernel_rfl) (fun _ _ _ h => h) (Or.inl ⟨by rfl, ?_⟩) (by assumption) ?_
    rotate_left
    ·(intro w hSw; (try dsimp only at hSw); go_simp) <;> with_reducible rfl
    (try simp only [Act.put, List.setIfInBounds_toArray, List.set_cons_zero, List.set_cons_succ])
    refine takeH 32 113 (v := ?_) rfl (by kernel_rfl) (by kernel_rfl) (by kernel_rfl) (fun _ _ _ h => h) (Or.inl ⟨by rfl, ?_⟩) (by assumption) ?_
    rotate_left
    ·(intro w hSw; (try dsimp only at hSw); go_simp) <;> with_reducible rfl
    (try simp only [Act.put, List.setIfInBounds_toArray, List.set_cons_zero, List.set_cons_succ])
    refine takeH 33 114 (v := ?_) rfl (by kernel_rfl) (by kernel_rfl) (by kernel_rfl) (fun _ _ _ h => h) (Or.inl ⟨by rfl, ?_⟩) (by assumption) ?_
    rotate_left
    ·(intro w hSw; (try dsimp only at hSw); go_simp) <;> with_reducible rfl
    (try simp only [Act.put, List.setIfInBounds_toArray, List.set_cons_zero, List.set_cons_succ])
    refine takeH 34 115 (v := ?_) rfl (by kernel_rfl) (by kernel_rfl) (by kernel_rfl) (fun _ _ _ h => h) (Or.inl ⟨by rfl, ?_⟩) (by assumption) ?_
    rotate_left
    ·(intro w hSw; (try dsimp only at hSw); go_simp) <;> with_reducible rfl
    (try simp only [Act.put, List.setIfInBounds_toArray, List.set_cons_zero, List.set_cons_succ])
    refine takeH 35 116 (v := ?_) rfl (by kernel_rfl) (by kernel_rfl) (by kernel_rfl) (fun _ _ _ h => h) (Or.inl ⟨by rfl, ?_⟩) (by assumption) ?_
    rotate_left
    ·(intro w hSw; (try dsimp only at hSw); go_simp) <;> with_reducible rfl
    (try simp only [Act.put, List.setIfInBounds_toArray, List.set_cons_zero, List.set_cons_succ])
    refine takeH 36 117 (v := ?_) rfl (by kernel_rfl) (by kernel_rfl) (by kernel_rfl) (fun _ _ _ h => h) (Or.inl ⟨by rfl, ?_⟩) (by assumption) ?_
    rotate_left
    ·(intro w hSw; (try dsimp only at hSw); go_simp) <;> with_reducible rfl
    (try simp only [Act.put, List.setIfInBounds_toArray, List.set_cons_zero, List.set_cons_succ])
    refine takeH 37 118 (v := ?_) rfl (by kernel_rfl) (by kernel_rfl) (by kernel_rfl) (fun _ _ _ h => h) (Or.inl ⟨by rfl, ?_⟩) (by assumption) ?_
    rotate_left
    ·(intro w hSw; (try dsimp only at hSw); go_simp) <;> with_reducible rfl
    (try simp only [Act.put, List.setIfInBounds_toArray, List.set_cons_zero, List.set_cons_succ])
    refine wpAnyH_ready (rs := [31]) (by kernel_rfl) (by simp) ?_
    refine AllReadyH.cons (o := _) rfl (fun K hK => ?_) AllReadyH.nil
    go_simp
    refine (impl_CheckRepair (nm := nm3) (a := f3) (tg := tg3) (t := t3) HL3.out (R3.out.up hx1) z3 HLS3.out (by omega) (by omega) (by omega) (by omega) (by omega) (by omega) (by omega) (HT3.out.up hx1) (by omega) HMZ3.out).mono ?_; rw [← HCK.out]; rintro e x2 ⟨rfl, hx2⟩
    have hx2 := below_go hx1 hx2
    try go_wp2_with fail
    refine hK.out _ _ (cS.out _ hx2) (fun hHeld => ?_)
    clear hK K
    (try simp only [Act.put, List.setIfInBounds_toArray, List.set_cons_zero, List.set_cons_succ])
    refine wpAnyH_ready (rs := [38]) (by kernel_rfl) (by simp) ?_
    refine AllReadyH.cons (o := _) rfl (fun K hK => ?_) AllReadyH.nil
    go_simp
    refine (spec_CheckRepair (nm := nm3) (a := f3) (tg := tg3) (t := t3) HL3.out (R3.out.up hx2) z3 HLS3.out (by omega) (by omega) (by omega) (by omega) (by omega) (by omega) (by omega) hcap3 (HT3.out.up hx2) (by omega) hd3 HMZ3.out).mono ?_; rw [← HCK.out]; rintro e x3 ⟨rfl, hx3⟩
    have hx3 := below_go hx2 hx3
    try go_wp2_with fail
    refine hK.out _ _ (cS.out _ hx3) (fun hHeld => ?_)
    clear hK K
    (try simp only [Act.put, List.setIfInBounds_toArray, List.set_cons_zero, List.set_cons_succ])
    refine takeH 39 120 (v := ?_) rfl (by kernel_rfl) (by kernel_rfl) (by kernel_rfl) (fun _ _ _ h => h) (Or.inl ⟨by rfl, ?_⟩) (by assumption) ?_
    rotate_left
    ·(intro w hSw; (try dsimp only at hSw); go_simp) <;> with_reducible rfl
    (try simp only [Act.put, List.setIfInBounds_toArray, List.set_cons_zero, List.set_cons_succ])
    refine takeH 40 121 (v := ?_) rfl (by kernel_rfl) (by kernel_rfl) (by kernel_rfl) (fun _ _ _ h => h) (Or.inl ⟨by rfl, ?_⟩) (by assumption) ?_
    rotate_left
    ·(intro w hSw; (try dsimp only at hSw); go_simp) <;> with_reducible rfl
    (try simp only [Act.put, List.setIfInBounds_toArray, List.set_cons_zero, List.set_cons_succ])
    refine wpAnyH_done (by kernel_rfl) ?_ _
    (try simp only [Act.put, List.setIfInBounds_toArray, List.set_cons_zero, List.set_cons_succ])
    replace K := K.up hx3
    replace J := J.up hx3
    replace R := Lib.hid (R.out.up hx3)
    replace HT1 := Lib.hid (HT1.out.up hx3)
    replace HW := Lib.hid (below_go HW.out hx3)
    clear hx3 hx2 hx1 hHeld cS G3 J3 HT2 HT3 R3 HCK
    go_wp2
    go_ret
    exact ⟨rfl, HW.out⟩
   ·cases hfl
  ·rcases lo with _ | M
   ·cases hfl
   ·simp only [lstT, Option.isSome]
    refine wp_region_held_drew (S := fun u => (u.cell? ⟨q3, 0, none⟩ = some (.string nm3) ∧ u.cell? ⟨q3, 1, none⟩ = some (.int .i64 (st3 : Int)) ∧ u.cell? ⟨q3, 2, none⟩ = some (.slice A3 n3 c3)) ∧ u.cell? ⟨q3 + 1, 0, none⟩ = some (.string kb3) ∧ u.cell? ⟨q3 + 1, 1, none⟩ = some (.string ks3)) (by kernel_rfl) (cS.out _ (Below.refl _ _)) (fun hHeld => ?_)
    refine takeH 0 81 (v := ?_) rfl (by kernel_rfl) (by kernel_rfl) (by kernel_rfl) (fun _ _ _ h => h) (Or.inl ⟨by rfl, ?_⟩) (by assumption) ?_
    rotate_left
    ·(intro w hSw; (try dsimp only at hSw); go_simp) <;> with_reducible rfl
    (try simp only [Act.put, List.setIfInBounds_toArray, List.set_cons_zero, List.set_cons_succ])
    refine takeH 1 82 (v := ?_) rfl (by kernel_rfl) (by kernel_rfl) (by kernel_rfl) (fun _ _ _ h => h) (Or.inl ⟨by rfl, ?_⟩) (by assumption) ?_
    rotate_left
    ·(intro w hSw; (try dsimp only at hSw); go_simp) <;> with_reducible rfl
    (try simp only [Act.put, List.setIfInBounds_toArray, List.set_cons_zero, List.set_cons_succ])
    refine takeH 2 83 (v := ?_) rfl (by kernel_rfl) (by kernel_rfl) (by kernel_rfl) (fun _ _ _ h => h) (Or.inl ⟨by rfl, ?_⟩) (by assumption) ?_
    rotate_left
    ·(intro w hSw; (try dsimp only at hSw); go_simp) <;> with_reducible rfl
    (try simp only [Act.put, List.setIfInBounds_toArray, List.set_cons_zero, List.set_cons_succ])
    refine takeH 3 84 (v := ?_) rfl (by kernel_rfl) (by kernel_rfl) (by kernel_rfl) (fun _ _ _ h => h) (Or.inl ⟨by rfl, ?_⟩) (by assumption) ?_
    rotate_left
    ·(intro w hSw; (try dsimp only at hSw); go_simp) <;> with_reducible rfl
    (try simp only [Act.put, List.setIfInBounds_toArray, List.set_cons_zero, List.set_cons_succ])
    refine takeH 4 85 (v := ?_) rfl (by kernel_rfl) (by kernel_rfl) (by kernel_rfl) (fun _ _ _ h => h) (Or.inl ⟨by rfl, ?_⟩) (by assumption) ?_
    rotate_left
    ·(intro w hSw; (try dsimp only at hSw); go_simp) <;> with_reducible rfl
    (try simp only [Act.put, List.setIfInBounds_toArray, List.set_cons_zero, List.set_cons_succ])
    refine takeH 5 86 (v := ?_) rfl (by kernel_rfl) (by kernel_rfl) (by kernel_rfl) (fun _ _ _ h => h) (Or.inl ⟨by rfl, ?_⟩) (by assumption) ?_
    rotate_left
    ·(intro w hSw; (try dsimp only at hSw); go_simp) <;> with_reducible rfl
    (try simp only [Act.put, List.setIfInBounds_toArray, List.set_cons_zero, List.set_cons_succ])
    refine takeH 6 87 (v := ?_) rfl (by kernel_rfl) (by kernel_rfl) (by kernel_rfl) (fun _ _ _ h => h) (Or.inl ⟨by rfl, ?_⟩) (by assumption) ?_
    rotate_left
    ·(intro w hSw; (try dsimp only at hSw); go_simp) <;> with_reducible rfl
    (try simp only [Act.put, List.setIfInBounds_toArray, List.set_cons_zero, List.set_cons_succ])
    refine takeH 7 88 (v := ?_) rfl (by kernel_rfl) (by kernel_rfl) (by kernel_rfl) (fun _ _ _ h => h) (Or.inl ⟨by rfl, ?_⟩) (by assumption) ?_
    rotate_left
    ·(intro w hSw; (try dsimp only at hSw); go_simp) <;> with_reducible rfl
    (try simp only [Act.put, List.setIfInBounds_toArray, List.set_cons_zero, List.set_cons_succ])
    refine takeH 8 89 (v := ?_) rfl (by kernel_rfl) (by kernel_rfl) (by kernel_rfl) (fun _ _ _ h => h) (Or.inl ⟨by rfl, ?_⟩) (by assumption) ?_
    rotate_left
    ·(intro w hSw; (try dsimp only at hSw); go_simp) <;> with_reducible rfl
    (try simp only [Act.put, List.setIfInBounds_toArray, List.set_cons_zero, List.set_cons_succ])
    refine takeH 9 90 (v := ?_) rfl (by kernel_rfl) (by kernel_rfl) (by kernel_rfl) (fun _ _ _ h => h) (Or.inl ⟨by rfl, ?_⟩) (by assumption) ?_
    rotate_left
    ·(intro w hSw; (try dsimp only at hSw); go_simp) <;> with_reducible rfl
    (try simp only [Act.put, List.setIfInBounds_toArray, List.set_cons_zero, List.set_cons_succ])
    refine takeH 10 91 (v := ?_) rfl (by kernel_rfl) (by kernel_rfl) (by kernel_rfl) (fun _ _ _ h => h) (Or.inl ⟨by rfl, ?_⟩) (by assumption) ?_
    rotate_left
    ·(intro w hSw; (try dsimp only at hSw); go_simp) <;> with_reducible rfl
    (try simp only [Act.put, List.setIfInBounds_toArray, List.set_cons_zero, List.set_cons_succ])
    refine takeH 11 92 (v := ?_) rfl (by kernel_rfl) (by kernel_rfl) (by kernel_rfl) (fun _ _ _ h => h) (Or.inl ⟨by rfl, ?_⟩) (by assumption) ?_
    rotate_left
    ·(intro w hSw; (try dsimp only at hSw); go_simp) <;> with_reducible rfl
    (try simp only [Act.put, List.setIfInBounds_toArray, List.set_cons_zero, List.set_cons_succ])
    refine takeH 12 93 (v := ?_) rfl (by kernel_rfl) (by kernel_rfl) (by kernel_rfl) (fun _ _ _ h => h) (Or.inl ⟨by rfl, ?_⟩) (by assumption) ?_
    rotate_left
    ·(intro w hSw; (try dsimp only at hSw); go_simp) <;> with_reducible rfl
    (try simp only [Act.put, List.setIfInBounds_toArray, List.set_cons_zero, List.set_cons_succ])
    refine takeH 13 94 (v := ?_) rfl (by kernel_rfl) (by kernel_rfl) (by kernel_rfl) (fun _ _ _ h => h) (Or.inl ⟨by rfl, ?_⟩) (by assumption) ?_
    rotate_left
    ·(intro w hSw; (try dsimp only at hSw); go_simp) <;> with_reducible rfl
    (try simp only [Act.put, List.setIfInBounds_toArray, List.set_cons_zero, List.set_cons_succ])
    refine takeH 14 95 (v := ?_) rfl (by kernel_rfl) (by kernel_rfl) (by kernel_rfl) (fun _ _ _ h => h) (Or.inl ⟨by rfl, ?_⟩) (by assumption) ?_
    rotate_left
    ·(intro w hSw; (try dsimp only at hSw); go_simp) <;> with_reducible rfl
    (try simp only [Act.put, List.setIfInBounds_toArray, List.set_cons_zero, List.set_cons_succ])
    refine takeH 15 96 (v := ?_) rfl (by kernel_rfl) (by kernel_rfl) (by kernel_rfl) (fun _ _ _ h => h) (Or.inl ⟨by rfl, ?_⟩) (by assumption) ?_
    rotate_left
    ·(intro w hSw; (try dsimp only at hSw); go_simp) <;> with_reducible rfl
    (try simp only [Act.put, List.setIfInBounds_toArray, List.set_cons_zero, List.set_cons_succ])
    refine takeH 16 97 (v := ?_) rfl (by kernel_rfl) (by kernel_rfl) (by kernel_rfl) (fun _ _ _ h => h) (Or.inl ⟨by rfl, ?_⟩) (by assumption) ?_
    rotate_left
    ·(intro w hSw; (try dsimp only at hSw); go_simp) <;> with_reducible rfl
    (try simp only [Act.put, List.setIfInBounds_toArray, List.set_cons_zero, List.set_cons_succ])
    refine takeH 17 98 (v := ?_) rfl (by kernel_rfl) (by kernel_rfl) (by kernel_rfl) (fun _ _ _ h => h) (Or.inl ⟨by rfl, ?_⟩) (by assumption) ?_
    rotate_left
    ·(intro w hSw; (try dsimp only at hSw); go_simp) <;> with_reducible rfl
    (try simp only [Act.put, List.setIfInBounds_toArray, List.set_cons_zero, List.set_cons_succ])
    refine takeH 18 99 (v := ?_) rfl (by kernel_rfl) (by kernel_rfl) (by kernel_rfl) (fun _ _ _ h => h) (Or.inl ⟨by rfl, ?_⟩) (by assumption) ?_
    rotate_left
    ·(intro w hSw; (try dsimp only at hSw); go_simp) <;> with_reducible rfl
    (try simp only [Act.put, List.setIfInBounds_toArray, List.set_cons_zero, List.set_cons_succ])
    refine takeH 19 100 (v := ?_) rfl (by kernel_rfl) (by kernel_rfl) (by kernel_rfl) (fun _ _ _ h => h) (Or.inl ⟨by rfl, ?_⟩) (by assumption) ?_
    rotate_left
    ·(intro w hSw; (try dsimp only at hSw); go_simp) <;> with_reducible rfl
    (try simp only [Act.put, List.setIfInBounds_toArray, List.set_cons_zero, List.set_cons_succ])
    refine takeH 20 101 (v := ?_) rfl (by kernel_rfl) (by kernel_rfl) (by kernel_rfl) (fun _ _ _ h => h) (Or.inl ⟨by rfl, ?_⟩) (by assumption) ?_
    rotate_left
    ·(intro w hSw; (try dsimp only at hSw); go_simp) <;> with_reducible rfl
    (try simp only [Act.put, List.setIfInBounds_toArray, List.set_cons_zero, List.set_cons_succ])
    refine wpAnyH_ready (rs := [21]) (by kernel_rfl) (by simp) ?_
    refine AllReadyH.cons (o := _) rfl (fun K hK => ?_) AllReadyH.nil
    go_simp
    refine (laws_qSameL HT1.out HT2.out (by omega) HMZ.out).mono ?_; rintro e x1 ⟨rfl, hx1⟩
    try go_wp2_with fail
    refine hK.out _ _ (cS.out _ hx1) (fun hHeld => ?_)
    clear hK K
    (try simp only [Act.put, List.setIfInBounds_toArray, List.set_cons_zero, List.set_cons_succ])
    refine takeH 22 103 (v := ?_) rfl (by kernel_rfl) (by kernel_rfl) (by kernel_rfl) (fun _ _ _ h => h) (Or.inl ⟨by rfl, ?_⟩) (by assumption) ?_
    rotate_left
    ·(intro w hSw; (try dsimp only at hSw); go_simp) <;> with_reducible rfl
    (try simp only [Act.put, List.setIfInBounds_toArray, List.set_cons_zero, List.set_cons_succ])
    refine takeH 23 104 (v := ?_) rfl (by kernel_rfl) (by kernel_rfl) (by kernel_rfl) (fun _ _ _ h => h) (Or.inl ⟨by rfl, ?_⟩) (by assumption) ?_
    rotate_left
    ·(intro w hSw; (try dsimp only at hSw); go_simp) <;> with_reducible rfl
    (try simp only [Act.put, List.setIfInBounds_toArray, List.set_cons_zero, List.set_cons_succ])
    refine takeH 24 105 (v := ?_) rfl (by kernel_rfl) (by kernel_rfl) (by kernel_rfl) (fun _ _ _ h => h) (Or.inl ⟨by rfl, ?_⟩) (by assumption) ?_
    rotate_left
    ·(intro w hSw; (try dsimp only at hSw); go_simp) <;> with_reducible rfl
    (try simp only [Act.put, List.setIfInBounds_toArray, List.set_cons_zero, List.set_cons_succ])
    refine takeH 25 106 (v := ?_) rfl (by kernel_rfl) (by kernel_rfl) (by kernel_rfl) (fun _ _ _ h => h) (Or.inl ⟨by rfl, ?_⟩) (by assumption) ?_
    rotate_left
    ·(intro w hSw; (try dsimp only at hSw); go_simp) <;> with_reducible rfl
    (try simp only [Act.put, List.setIfInBounds_toArray, List.set_cons_zero, List.set_cons_succ])
    refine takeH 26 107 (v := ?_) rfl (by kernel_rfl) (by kernel_rfl) (by kernel_rfl) (fun _ _ _ h => h) (Or.inl ⟨by rfl, ?_⟩) (by assumption) ?_
    rotate_left
    ·(intro w hSw; (try dsimp only at hSw); go_simp) <;> with_reducible rfl
    (try simp only [Act.put, List.setIfInBounds_toArray, List.set_cons_zero, List.set_cons_succ])
    refine takeH 27 108 (v := ?_) rfl (by kernel_rfl) (by kernel_rfl) (by kernel_rfl) (fun _ _ _ h => h) (Or.inl ⟨by rfl, ?_⟩) (by assumption) ?_
    rotate_left
    ·(intro w hSw; (try dsimp only at hSw); go_simp) <;> with_reducible rfl
    (try simp only [Act.put, List.setIfInBounds_toArray, List.set_cons_zero, List.set_cons_succ])
    refine takeH 28 109 (v := ?_) rfl (by kernel_rfl) (by kernel_rfl) (by kernel_rfl) (fun _ _ _ h => h) (Or.inl ⟨by rfl, ?_⟩) (by assumption) ?_
    rotate_left
    ·(intro w hSw; (try dsimp only at hSw); go_simp) <;> with_reducible rfl
    (try simp only [Act.put, List.setIfInBounds_toArray, List.set_cons_zero, List.set_cons_succ])
    refine takeH 29 110 (v := ?_) rfl (by kernel_rfl) (by kernel_rfl) (by kernel_rfl) (fun _ _ _ h => h) (Or.inl ⟨by rfl, ?_⟩) (by assumption) ?_
    rotate_left
    ·(intro w hSw; (try dsimp only at hSw); go_simp) <;> with_reducible rfl
    (try simp only [Act.put, List.setIfInBounds_toArray, List.set_cons_zero, List.set_cons_succ])
    refine takeH 30 111 (v := ?_) rfl (by kernel_rfl) (by kernel_rfl) (by kernel_rfl) (fun _ _ _ h => h) (Or.inl ⟨by rfl, ?_⟩) (by assumption) ?_
    rotate_left
    ·(intro w hSw; (try dsimp only at hSw); go_simp) <;> with_reducible rfl
    (try simp only [Act.put, List.setIfInBounds_toArray, List.set_cons_zero, List.set_cons_succ])
    refine takeH 32 113 (v := ?_) rfl (by kernel_rfl) (by kernel_rfl) (by kernel_rfl) (fun _ _ _ h => h) (Or.inl ⟨by rfl, ?_⟩) (by assumption) ?_
    rotate_left
    ·(intro w hSw; (try dsimp only at hSw); go_simp) <;> with_reducible rfl
    (try simp only [Act.put, List.setIfInBounds_toArray, List.set_cons_zero, List.set_cons_succ])
    refine takeH 33 114 (v := ?_) rfl (by kernel_rfl) (by kernel_rfl) (by kernel_rfl) (fun _ _ _ h => h) (Or.inl ⟨by rfl, ?_⟩) (by assumption) ?_
    rotate_left
    ·(intro w hSw; (try dsimp only at hSw); go_simp) <;> with_reducible rfl
    (try simp only [Act.put, List.setIfInBounds_toArray, List.set_cons_zero, List.set_cons_succ])
    refine takeH 34 115 (v := ?_) rfl (by kernel_rfl) (by kernel_rfl) (by kernel_rfl) (fun _ _ _ h => h) (Or.inl ⟨by rfl, ?_⟩) (by assumption) ?_
    rotate_left
    ·(intro w hSw; (try dsimp only at hSw); go_simp) <;> with_reducible rfl
    (try simp only [Act.put, List.setIfInBounds_toArray, List.set_cons_zero, List.set_cons_succ])
    refine takeH 35 116 (v := ?_) rfl (by kernel_rfl) (by kernel_rfl) (by kernel_rfl) (fun _ _ _ h => h) (Or.inl ⟨by rfl, ?_⟩) (by assumption) ?_
    rotate_left
    ·(intro w hSw; (try dsimp only at hSw); go_simp) <;> with_reducible rfl
    (try simp only [Act.put, List.setIfInBounds_toArray, List.set_cons_zero, List.set_cons_succ])
    refine takeH 36 117 (v := ?_) rfl (by kernel_rfl) (by kernel_rfl) (by kernel_rfl) (fun _ _ _ h => h) (Or.inl ⟨by rfl, ?_⟩) (by assumption) ?_
    rotate_left
    ·(intro w hSw; (try dsimp only at hSw); go_simp) <;> with_reducible rfl
    (try simp only [Act.put, List.setIfInBounds_toArray, List.set_cons_zero, List.set_cons_succ])
    refine takeH 37 118 (v := ?_) rfl (by kernel_rfl) (by kernel_rfl) (by kernel_rfl) (fun _ _ _ h => h) (Or.inl ⟨by rfl, ?_⟩) (by assumption) ?_
    rotate_left
    ·(intro w hSw; (try dsimp only at hSw); go_simp) <;> with_reducible rfl
    (try simp only [Act.put, List.setIfInBounds_toArray, List.set_cons_zero, List.set_cons_succ])
    refine wpAnyH_ready (rs := [31]) (by kernel_rfl) (by simp) ?_
    refine AllReadyH.cons (o := _) rfl (fun K hK => ?_) AllReadyH.nil
    go_simp
    refine (impl_CheckRepair (nm := nm3) (a := f3) (tg := tg3) (t := t3) HL3.out (R3.out.up hx1) z3 HLS3.out (by omega) (by omega) (by omega) (by omega) (by omega) (by omega) (by omega) (HT3.out.up hx1) (by omega) HMZ3.out).mono ?_; rw [← HCK.out]; rintro e x2 ⟨rfl, hx2⟩
    have hx2 := below_go hx1 hx2
    try go_wp2_with fail
    refine hK.out _ _ (cS.out _ hx2) (fun hHeld => ?_)
    clear hK K
    (try simp only [Act.put, List.setIfInBounds_toArray, List.set_cons_zero, List.set_cons_succ])
    refine wpAnyH_ready (rs := [38]) (by kernel_rfl) (by simp) ?_
    refine AllReadyH.cons (o := _) rfl (fun K hK => ?_) AllReadyH.nil
    go_simp
    refine (spec_CheckRepair (nm := nm3) (a := f3) (tg := tg3) (t := t3) HL3.out (R3.out.up hx2) z3 HLS3.out (by omega) (by omega) (by omega) (by omega) (by omega) (by omega) (by omega) hcap3 (HT3.out.up hx2) (by omega) hd3 HMZ3.out).mono ?_; rw [← HCK.out]; rintro e x3 ⟨rfl, hx3⟩
    have hx3 := below_go hx2 hx3
    try go_wp2_with fail
    refine hK.out _ _ (cS.out _ hx3) (fun hHeld => ?_)
    clear hK K
    (try simp only [Act.put, List.setIfInBounds_toArray, List.set_cons_zero, List.set_cons_succ])
    refine takeH 39 120 (v := ?_) rfl (by kernel_rfl) (by kernel_rfl) (by kernel_rfl) (fun _ _ _ h => h) (Or.inl ⟨by rfl, ?_⟩) (by assumption) ?_
    rotate_left
    ·(intro w hSw; (try dsimp only at hSw); go_simp) <;> with_reducible rfl
    (try simp only [Act.put, List.setIfInBounds_toArray, List.set_cons_zero, List.set_cons_succ])
    refine takeH 40 121 (v := ?_) rfl (by kernel_rfl) (by kernel_rfl) (by kernel_rfl) (fun _ _ _ h => h) (Or.inl ⟨by rfl, ?_⟩) (by assumption) ?_
    rotate_left
    ·(intro w hSw; (try dsimp only at hSw); go_simp) <;> with_reducible rfl
    (try simp only [Act.put, List.setIfInBounds_toArray, List.set_cons_zero, List.set_cons_succ])
    refine wpAnyH_done (by kernel_rfl) ?_ _
    (try simp only [Act.put, List.setIfInBounds_toArray, List.set_cons_zero, List.set_cons_succ])
    replace K := K.up hx3
    replace J := J.up hx3
    replace R := Lib.hid (R.out.up hx3)
    replace HT1 := Lib.hid (HT1.out.up hx3)
    replace HW := Lib.hid (below_go HW.out hx3)
    clear hx3 hx2 hx1 hHeld cS G3 J3 HT2 HT3 R3 HCK
    obtain ⟨f1, f2, f3', f4, f5⟩ := ck_own HO.out.symm HLO.out.symm
    have HF1 := Lib.hid f1
    have HGF := Lib.hid f3'
    have HTE := Lib.hid (teV_t f3')
    have HTW := Lib.hid f4
    have hbz := wT_size wd
    have htz8 : (wT wd).size ≤ 8 := by
     have := lst_size nm st L kb ks f tg
     rw [← HO.out] at this
     exact this
    try simp only [Option.getD_some] at hn1
    try simp only [Option.getD_some] at HT1
    try simp only [Option.getD_some] at HMZ
    try simp only [lstT, Option.isSome]
    obtain ⟨bst, hbst⟩ : ∃ u, u = wT wd := ⟨_, rfl⟩
    rw [← hbst] at HF1 HGF HTE HTW f2 f5 htz8 ⊢
    clear f1 f3' f4 hbst hbz
    have kc0 := K.cell 0; have kc1 := K.cell 1; have kc2 := K.cell 2; have jc0 := J.cell 0; have jc1 := J.cell 1
    simp only [List.getElem?_cons_zero, List.getElem?_cons_succ] at kc0 kc1 kc2 jc0 jc1
    go_wp2_with fail
    refine (spec_TouchEndG (nm := nm) (t := bst) HL.out R.out z HLS.out hnm2 h9 zk2 zs2 (by omega) hcap).mono ?_; rw [HGF.out, HTE.out]; rintro e y7 ⟨rfl, hy⟩
    clear kc0 kc1 kc2 jc0 jc1
    replace K := K.up hy
    replace J := J.up hy
    replace R := Lib.hid (R.out.up hy)
    replace HT1 := Lib.hid (HT1.out.up hy)
    replace HW := Lib.hid (below_go HW.out hy)
    clear hy
    obtain ⟨hr, hhr⟩ : ∃ u, u = hdAt st L kb ks bst bst.size := ⟨_, rfl⟩
    rw [← hhr] at HTW f5 ⊢
    clear hhr
    have hrz : hr.size ≤ 16777216 := by
     have h1 := HTW.out
     simp only [twoB, Bool.and_eq_true, decide_eq_true_iff] at h1
     omega
    go_wp2_with fail
    refine (spec_Times (a := f) (b := hr) zf2 hrz).mono ?_; rw [HTW.out, if_pos rfl, f5]; rintro e y8 ⟨rfl, hy⟩
    replace K := K.up hy
    replace J := J.up hy
    replace R := Lib.hid (R.out.up hy)
    replace HT1 := Lib.hid (HT1.out.up hy)
    replace HW := Lib.hid (below_go HW.out hy)
    clear hy
    have hnb : ((n2 : Int) == (bst.size : Int) + 1) = true := by rw [beq_iff_eq]; omega
    have hwb : IntKind.i64.wrap ((bst.size : Int) + 1) = (bst.size : Int) + 1 := wrap_id (by omega)
    have HN1 := Lib.hid hn1
    have HN9 := Lib.hid hn9
    clear hn1 f2 f5 hn9
    have kc0 := K.cell 0; have kc1 := K.cell 1; have kc2 := K.cell 2; have jc0 := J.cell 0; have jc1 := J.cell 1
    simp only [List.getElem?_cons_zero, List.getElem?_cons_succ] at kc0 kc1 kc2 jc0 jc1
    go_wp2_with fail
    clear kc0 kc1 kc2 jc0 jc1
    refine (impl_CheckRepair (nm := nm) (a := f) (tg := tg) (t := bst) HL.out R.out z HLS.out hnm2 h9 zk2 zs2 zf2 zg2 (by omega) HT1.out (by have := HN9.out; omega) HMZ.out).mono ?_; rw [HF1.out]; rintro e y9 ⟨rfl, hy⟩
    go_wp2
    go_ret
    exact ⟨rfl, below_go HW.out hy⟩
 ·have hI : 1048576 < wrap64 ((l0.length : Int) + (l1.length : Int)) := by omega
  go_in
  go_wp2
  go_ret
  exact ⟨rfl, Below.refl _ _⟩
end Go.Proofs.YtidolgonmimicaaGreat
