/- Texts 4 of 6 that the claim leans on: plain laws and the walks' contracts, in order. -/
import Derived.Test.YtidolgonmimicaaGreatMRepair3
import Derived.Deep.Cut
import Derived.Deep.DeepCutAuto
set_option linter.unusedVariables false
set_option linter.unusedSimpArgs false
namespace Go.Proofs.YtidolgonmimicaaGreat
open Go.ChangeShapes Go.WideShapes Go.ChangeAt Go.RowKit Go.Deep
theorem drM_of15 {nm : ByteArray} {st m : Nat} {L : List ByteArray} (h : goodM nm (st : Int) L = true) (h3 : 3 ≤ st) (h6 : st ≤ 6) (hm : m ≤ 12) (hl : L.length = m) : drM nm st L :=
 ⟨by have := goodM_name h; omega, by omega, by omega, by omega, goodM_changes h⟩
theorem drM_f15 {nm : ByteArray} {st : Nat} {L : List ByteArray} (h : drM nm st L) : nm.size ≤ 16777216 ∧ st ≤ 1000 ∧ L.length ≤ 1048576 ∧ (∀ s ∈ L, s.size ≤ 16777216) ∧ I64 (st : Int) := by
 obtain ⟨h1, h2, h3, h4, h5⟩ := h
 exact ⟨by omega, by omega, by omega, fun s hs => by have := h5 s hs; omega, by constructor <;> omega⟩
set_option maxHeartbeats 8000000 in
set_option maxRecDepth 100000 in
theorem draw_RepairTouch {A : Option Addr} {n c : Nat} {w : World} (hS : Src w A n) :
  Calls Tryz.prog 35 #[.slice A n c] w fun e w' => ∃ (nm : ByteArray) (st : Nat) (A1 : Option Addr) (n1 c1 : Nat) (L : List ByteArray) (kb ks f tg : ByteArray), e = .returned (.tuple #[.agg #[.string nm, .int .i64 st, .slice A1 n1 c1], .agg #[.string kb, .string ks], .string f, .string tg]) ∧ goodM nm st L = true ∧ 3 ≤ st ∧ st ≤ 6 ∧ L.length ≤ 12 ∧ kb.size ≤ 8 ∧ ks.size ≤ 8 ∧ f.size ≤ 8 ∧ tg.size ≤ 16 ∧ Owned strE 1 9 w' w.heap.size A1 n1 c1 L ∧ Below w.heap.size w w' := by
 have R := ((Blk.at_ w 25 [.string ⟨#[]⟩, .int .i64 0, .slice none 0 0] (b := w.heap.size) rfl).alloc (.cells #[.string ⟨#[]⟩, .string ⟨#[]⟩] 27)).alloc (.cells #[.slice A n c, .int .i64 0, .int .u64 0] 87)
 have Q := (Blk.at_ (w.alloc (.cells #[.string ⟨#[]⟩, .int .i64 0, .slice none 0 0] 25)) 27 [.string ⟨#[]⟩, .string ⟨#[]⟩] (b := w.heap.size + 1) (by simp)).alloc (.cells #[.slice A n c, .int .i64 0, .int .u64 0] 87)
 have c0 := cur_fresh ((w.alloc (.cells #[.string ⟨#[]⟩, .int .i64 0, .slice none 0 0] 25)).alloc (.cells #[.string ⟨#[]⟩, .string ⟨#[]⟩] 27)) A n c
 rw [show ((w.alloc (.cells #[.string ⟨#[]⟩, .int .i64 0, .slice none 0 0] 25)).alloc (.cells #[.string ⟨#[]⟩, .string ⟨#[]⟩] 27)).heap.size = w.heap.size + 2 by simp] at c0
 have b0 : Below w.heap.size w (((w.alloc (.cells #[.string ⟨#[]⟩, .int .i64 0, .slice none 0 0] 25)).alloc (.cells #[.string ⟨#[]⟩, .string ⟨#[]⟩] 27)).alloc (.cells #[.slice A n c, .int .i64 0, .int .u64 0] 87)) := by (repeat' (first | (with_reducible exact Below.refl _ _) | (with_reducible assumption) | (with_reducible refine below_drewN ?_ _) | (with_reducible refine Below.drew ?_) | (with_reducible refine below_alloc ?_ _) | (with_reducible refine Below.alloc ?_ ?_ _) | (with_reducible refine Below.setCell ?_ ?_ _) | (with_reducible refine below_go ?_ (by with_reducible assumption)) | (with_reducible refine below_then (by with_reducible assumption) ?_ ?_) | go_size))
 have HS := Lib.hid hS
 have hp0 : w.heap.size ≤ w.heap.size + 2 := by omega
 clear hS
 go_in
 go_wp2_with fail
 obtain ⟨w1, hw1⟩ : ∃ u, u = (((w.alloc (.cells #[.string ⟨#[]⟩, .int .i64 0, .slice none 0 0] 25)).alloc (.cells #[.string ⟨#[]⟩, .string ⟨#[]⟩] 27)).alloc (.cells #[.slice A n c, .int .i64 0, .int .u64 0] 87)) := ⟨_, rfl⟩
 have z1 : w1.heap.size = w.heap.size + 3 := by rw [hw1]; simp
 rw [← hw1] at b0 R Q c0 ⊢
 clear hw1
 refine (cur_regular HS.out b0 hp0 c0 (by omega)).mono ?_; rintro e w2 ⟨nm, st, A2, m, c2, L, rfl, hgm, h3, h6, hm12, ho2, hc2, hg2⟩
 have s2 := hg2.size
 have K := Blk.at_ w2 25 [.string nm, .int .i64 (st : Int), .slice A2 m c2] (b := w2.heap.size) rfl
 replace R := R.grown hg2 (fun e => by injection e with e; omega)
 replace Q := Q.grown hg2 (fun e => by injection e with e; omega)
 have HO := Lib.hid ho2
 have HB := Lib.hid (grown_below b0 hp0 hg2)
 have HC := Lib.hid hc2
 have hdr : drM nm st L := drM_of15 hgm h3 h6 hm12 ho2.len
 have HDR := Lib.hid hdr
 have hdf := drM_f15 hdr
 have HGM := Lib.hid hgm
 have HLl := Lib.hid ho2.len
 have a2 : Below w2.heap.size w2 (w2.alloc (.cells #[.string nm, .int .i64 (st : Int), .slice A2 m c2] 25)) := by (repeat' (first | (with_reducible exact Below.refl _ _) | (with_reducible assumption) | (with_reducible refine below_drewN ?_ _) | (with_reducible refine Below.drew ?_) | (with_reducible refine below_alloc ?_ _) | (with_reducible refine Below.alloc ?_ ?_ _) | (with_reducible refine Below.setCell ?_ ?_ _) | (with_reducible refine below_go ?_ (by with_reducible assumption)) | (with_reducible refine below_then (by with_reducible assumption) ?_ ?_) | go_size))
 replace R := R.up a2
 replace Q := Q.up a2
 replace HO := Lib.hid (HO.out.up a2)
 replace HC := Lib.hid (HC.out.up a2)
 replace HB := Lib.hid (below_go HB.out a2)
 rw [z1] at HO
 obtain ⟨b, hb⟩ : ∃ b, b = w2.heap.size := ⟨_, rfl⟩
 have hbz : w.heap.size + 3 ≤ b := by omega
 clear c0 b0 ho2 hc2 hg2 hdr a2 s2
 go_upto_region 3 with fail
 obtain ⟨w3, hw3⟩ : ∃ u, u = w2.alloc (.cells #[.string nm, .int .i64 (st : Int), .slice A2 m c2] 25) := ⟨_, rfl⟩
 rw [← hw3] at K R Q HO HC HB ⊢
 rw [← hb] at K ⊢
 clear hw3 hb z1
 have kc0 := K.cell 0; have kc1 := K.cell 1; have kc2 := K.cell 2
 simp only [List.getElem?_cons_zero, List.getElem?_cons_succ] at kc0 kc1 kc2
 go_wp2_with fail
 have hb3 := K.lt
 refine (cur_anyCalls HS.out HB.out hp0 HC.out (by omega) HLl.out HO.out.recs (by have := HLl.out; omega) hdf.2.2.2.1 hdf.1 hdf.2.2.2.2).mono ?_; rintro e w4 ⟨kb, ks, rfl, zkb, zks, hc4, hg4⟩
 have s4 := hg4.size
 clear kc0 kc1 kc2
 replace K := K.grown hg4 (fun e => by injection e with e; omega)
 replace R := R.grown hg4 (fun e => by injection e with e; omega)
 replace Q := Q.grown hg4 (fun e => by injection e with e; omega)
 replace HO := Lib.hid (HO.out.past hg4 (by omega))
 replace HB := Lib.hid (grown_below HB.out hp0 hg4)
 replace HC := Lib.hid hc4
 clear hg4 hc4
 have J := Blk.at_ w4 27 [.string kb, .string ks] (b := w4.heap.size) rfl
 have a4 : Below w4.heap.size w4 (w4.alloc (.cells #[.string kb, .string ks] 27)) := by (repeat' (first | (with_reducible exact Below.refl _ _) | (with_reducible assumption) | (with_reducible refine below_drewN ?_ _) | (with_reducible refine Below.drew ?_) | (with_reducible refine below_alloc ?_ _) | (with_reducible refine Below.alloc ?_ ?_ _) | (with_reducible refine Below.setCell ?_ ?_ _) | (with_reducible refine below_go ?_ (by with_reducible assumption)) | (with_reducible refine below_then (by with_reducible assumption) ?_ ?_) | go_size))
 replace K := K.up a4
 replace R := R.up a4
 replace Q := Q.up a4
 replace HO := Lib.hid (HO.out.up a4)
 replace HC := Lib.hid (HC.out.up a4)
 replace HB := Lib.hid (below_go HB.out a4)
 obtain ⟨d, hd⟩ : ∃ b, b = w4.heap.size := ⟨_, rfl⟩
 have hdz : b < d := by omega
 clear a4 s4
 go_upto_region 4 with fail
 obtain ⟨w5, hw5⟩ : ∃ u, u = w4.alloc (.cells #[.string kb, .string ks] 27) := ⟨_, rfl⟩
 rw [← hw5] at K J R Q HO HC HB ⊢
 rw [← hd] at J ⊢
 clear hw5 hd
 have kc0 := K.cell 0; have kc1 := K.cell 1; have kc2 := K.cell 2
 simp only [List.getElem?_cons_zero, List.getElem?_cons_succ] at kc0 kc1 kc2
 have hd3 := J.lt
 go_wp2_with fail
 refine (cur_row HS.out HB.out hp0 HC.out (by omega) h3 (by omega)).mono ?_; rintro e w6 ⟨f, rfl, hf, hc6, hg6⟩
 have hfz : f.size ≤ 8 := by rw [hf.2]; omega
 have HF := Lib.hid hf
 clear kc0 kc1 kc2 hf
 have s6 := hg6.size
 replace K := K.grown hg6 (fun e => by injection e with e; omega)
 replace J := J.grown hg6 (fun e => by injection e with e; omega)
 replace R := R.grown hg6 (fun e => by injection e with e; omega)
 replace Q := Q.grown hg6 (fun e => by injection e with e; omega)
 replace HO := Lib.hid (HO.out.past hg6 (by omega))
 replace HB := Lib.hid (grown_below HB.out hp0 hg6)
 replace HC := Lib.hid hc6
 clear hg6 hc6
 have kc0 := K.cell 0; have kc1 := K.cell 1; have kc2 := K.cell 2
 simp only [List.getElem?_cons_zero, List.getElem?_cons_succ] at kc0 kc1 kc2
 go_wp2_with fail
 refine (cur_row HS.out HB.out hp0 HC.out (by omega) h3 (by omega)).mono ?_; rintro e w7 ⟨tg, rfl, htg, hc7, hg7⟩
 have htz : tg.size ≤ 16 := by rw [htg.2]; omega
 clear kc0 kc1 kc2 htg
 have s7 := hg7.size
 replace K := K.grown hg7 (fun e => by injection e with e; omega)
 replace J := J.grown hg7 (fun e => by injection e with e; omega)
 replace R := R.grown hg7 (fun e => by injection e with e; omega)
 replace Q := Q.grown hg7 (fun e => by injection e with e; omega)
 replace HO := Lib.hid (HO.out.past hg7 (by omega))
 replace HB := Lib.hid (grown_below HB.out hp0 hg7)
 replace HC := Lib.hid hc7
 clear hg7 hc7
 have kc0 := K.cell 0; have kc1 := K.cell 1; have kc2 := K.cell 2
 simp only [List.getElem?_cons_zero, List.getElem?_cons_succ] at kc0 kc1 kc2
 have jc0 := J.cell 0; have jc1 := J.cell 1
 simp only [List.getElem?_cons_zero, List.getElem?_cons_succ] at jc0 jc1
 go_wp2_with fail
 have hcap := HO.out.cap.1
 refine (spec_l8Good (nm := nm) (st := (st : Int)) HLl.out HO.out.recs (by have := HLl.out; omega) hdf.2.2.2.1 hdf.1 hdf.2.2.2.2 (by omega) (by omega)).mono ?_; rintro e w8 ⟨rfl, hb8⟩
 clear kc0 kc1 kc2 jc0 jc1
 have s8 := hb8.size
 replace K := K.up hb8
 replace J := J.up hb8
 replace R := R.up hb8
 replace Q := Q.up hb8
 replace HO := Lib.hid (HO.out.up hb8)
 replace HC := Lib.hid (HC.out.up hb8)
 replace HB := Lib.hid (below_go HB.out hb8)
 clear hb8
 rcases hgk : goodK nm (st : Int) L kb ks
 ·clear hgk
  go_wp2_with fail
  have hd8 := J.lt
  refine (cur_one HS.out HB.out hp0 HC.out (by omega) (by decide) (by decide)).mono ?_; rintro e w12 ⟨y12, rfl, hc12, hg12⟩
  have s12 := hg12.size
  replace K := K.grown hg12 (fun e => by injection e with e; omega)
  replace J := J.grown hg12 (fun e => by injection e with e; omega)
  replace R := R.grown hg12 (fun e => by injection e with e; omega)
  replace Q := Q.grown hg12 (fun e => by injection e with e; omega)
  replace HO := Lib.hid (HO.out.past hg12 (by omega))
  replace HB := Lib.hid (grown_below HB.out hp0 hg12)
  replace HC := Lib.hid hc12
  clear hg12 hc12
  have HK12 := Lib.hid trivial
  rcases y12
  ·skip
   have carO : Hid (∀ u : World, w12.grownBy u (some (w.heap.size + 2)) → u.cell? ⟨b, 0, none⟩ = some (.string nm) ∧ u.cell? ⟨b, 1, none⟩ = some (.int .i64 (st : Int)) ∧ u.cell? ⟨b, 2, none⟩ = some (.slice A2 m c2) ∧ u.cell? ⟨d, 0, none⟩ = some (.string kb) ∧ u.cell? ⟨d, 1, none⟩ = some (.string ks)) := Lib.hid (fun u hu => by
    have L0 := K.grown hu (fun e => by injection e with e; omega)
    have L1 := J.grown hu (fun e => by injection e with e; omega)
    exact ⟨by simpa using L0.cell 0, by simpa using L0.cell 1, by simpa using L0.cell 2, by simpa using L1.cell 0, by simpa using L1.cell 1⟩)
   have C0 : w12.grownBy w12.drew (some (w.heap.size + 2)) := grown_any (Below.refl _ _).drew _
   go_upto_region 10 with fail
   refine wp_region_held_drew (S := fun u => u.cell? ⟨b, 0, none⟩ = some (.string nm) ∧ u.cell? ⟨b, 1, none⟩ = some (.int .i64 (st : Int)) ∧ u.cell? ⟨b, 2, none⟩ = some (.slice A2 m c2) ∧ u.cell? ⟨d, 0, none⟩ = some (.string kb) ∧ u.cell? ⟨d, 1, none⟩ = some (.string ks)) (by kernel_rfl) (carO.out _ C0) (fun hHeld => ?_)
   refine takeH 0 46 (v := ?_) rfl (by kernel_rfl) (by kernel_rfl) (by kernel_rfl) (fun _ _ _ h => h) (Or.inl ⟨by rfl, ?_⟩) (by assumption) ?_
   rotate_left
   ·(intro w hSw; (try dsimp only at hSw); go_simp) <;> with_reducible rfl
   (try simp only [Act.put, List.setIfInBounds_toArray, List.set_cons_zero, List.set_cons_succ])
   refine takeH 1 47 (v := ?_) rfl (by kernel_rfl) (by kernel_rfl) (by kernel_rfl) (fun _ _ _ h => h) (Or.inl ⟨by rfl, ?_⟩) (by assumption) ?_
   rotate_left
   ·(intro w hSw; (try dsimp only at hSw); go_simp) <;> with_reducible rfl
   (try simp only [Act.put, List.setIfInBounds_toArray, List.set_cons_zero, List.set_cons_succ])
   refine takeH 2 48 (v := ?_) rfl (by kernel_rfl) (by kernel_rfl) (by kernel_rfl) (fun _ _ _ h => h) (Or.inl ⟨by rfl, ?_⟩) (by assumption) ?_
   rotate_left
   ·(intro w hSw; (try dsimp only at hSw); go_simp) <;> with_reducible rfl
   (try simp only [Act.put, List.setIfInBounds_toArray, List.set_cons_zero, List.set_cons_succ])
   refine takeH 3 49 (v := ?_) rfl (by kernel_rfl) (by kernel_rfl) (by kernel_rfl) (fun _ _ _ h => h) (Or.inl ⟨by rfl, ?_⟩) (by assumption) ?_
   rotate_left
   ·(intro w hSw; (try dsimp only at hSw); go_simp) <;> with_reducible rfl
   (try simp only [Act.put, List.setIfInBounds_toArray, List.set_cons_zero, List.set_cons_succ])
   clear carO C0
   have aD : Below w12.heap.size w12 w12.drew := (Below.refl _ _).drew
   replace K := K.up aD
   replace J := J.up aD
   replace R := R.up aD
   replace Q := Q.up aD
   replace HO := Lib.hid (HO.out.up aD)
   replace HC := Lib.hid (HC.out.up aD)
   replace HB := Lib.hid (below_go HB.out aD)
   clear aD
   obtain ⟨wd, hwd⟩ : ∃ u, u = w12.drew := ⟨_, rfl⟩
   rw [← hwd] at K J R Q HO HB HC hHeld ⊢
   clear hwd
   have rc0 := R.cell 0; have rc1 := R.cell 1; have rc2 := R.cell 2
   have rf0 := R.frozen 0; have rf1 := R.frozen 1; have rf2 := R.frozen 2
   have yc0 := Q.cell 0; have yc1 := Q.cell 1
   have yf0 := Q.frozen 0; have yf1 := Q.frozen 1
   simp only [List.getElem?_cons_zero, List.getElem?_cons_succ] at rc0 rc1 rc2 yc0 yc1
   have cS : Hid (∀ u : World, Blk u b 25 [.string nm, .int .i64 (st : Int), .slice A2 m c2] → Blk u d 27 [.string kb, .string ks] → u.cell? ⟨b, 0, none⟩ = some (.string nm) ∧ u.cell? ⟨b, 1, none⟩ = some (.int .i64 (st : Int)) ∧ u.cell? ⟨b, 2, none⟩ = some (.slice A2 m c2) ∧ u.cell? ⟨d, 0, none⟩ = some (.string kb) ∧ u.cell? ⟨d, 1, none⟩ = some (.string ks)) := Lib.hid (fun u L0 L1 => ⟨by simpa using L0.cell 0, by simpa using L0.cell 1, by simpa using L0.cell 2, by simpa using L1.cell 0, by simpa using L1.cell 1⟩)
   have q1 := sets3_grown wd w.heap.size (.string nm) (.int .i64 (st : Int)) (.slice A2 m c2)
   have R1 := ((R.set_ 0 (.string nm)).set_ 1 (.int .i64 (st : Int))).set_ 2 (.slice A2 m c2)
   have Y1 := Q.grown q1 (fun e => by injection e with e; omega)
   have K1 := K.grown q1 (fun e => by injection e with e; omega)
   have J1 := J.grown q1 (fun e => by injection e with e; omega)
   have hbs := HB.out.size
   have HB1 := Lib.hid (HB.out.grown q1 hbs (fun k e => by injection e with e; omega))
   have HO1 := Lib.hid (HO.out.past q1 (by omega))
   obtain ⟨wA, hwA⟩ : ∃ u, u = ((wd.setCell ⟨w.heap.size, 0, none⟩ (.string nm)).setCell ⟨w.heap.size, 1, none⟩ (.int .i64 (st : Int))).setCell ⟨w.heap.size, 2, none⟩ (.slice A2 m c2) := ⟨_, rfl⟩
   rw [← hwA] at R1 Y1 K1 J1 HB1 HO1
   refine wpAnyH_ready (rs := [4]) (by kernel_rfl) (by simp) ?_
   refine AllReadyH.cons (o := _) rfl (fun K0 hK0 => ?_) AllReadyH.nil
   go_simp
   try rw [← hwA]
   refine hK0.out _ _ (cS.out _ K1 J1) (fun hHeld1 => ?_)
   clear hK0 K0 rc0 rc1 rc2 rf0 rf1 rf2 yc0 yc1 yf0 yf1 R Q K J hHeld hwA q1
   (try simp only [Act.put, List.setIfInBounds_toArray, List.set_cons_zero, List.set_cons_succ])
   have yc0 := Y1.cell 0; have yc1 := Y1.cell 1
   have yf0 := Y1.frozen 0; have yf1 := Y1.frozen 1
   simp only [List.getElem?_cons_zero, List.getElem?_cons_succ] at yc0 yc1
   have q2 := sets2_grown wA (w.heap.size + 1) (.string kb) (.string ks)
   have R2 := R1.grown q2 (fun e => by injection e with e; omega)
   have Y2 := (Y1.set_ 0 (.string kb)).set_ 1 (.string ks)
   have K2 := K1.grown q2 (fun e => by injection e with e; omega)
   have J2 := J1.grown q2 (fun e => by injection e with e; omega)
   have HB2 := Lib.hid (HB1.out.grown q2 HB1.out.size (fun k e => by injection e with e; omega))
   have HO2 := Lib.hid (HO1.out.past q2 (by omega))
   obtain ⟨wB, hwB⟩ : ∃ u, u = (wA.setCell ⟨w.heap.size + 1, 0, none⟩ (.string kb)).setCell ⟨w.heap.size + 1, 1, none⟩ (.string ks) := ⟨_, rfl⟩
   rw [← hwB] at R2 Y2 K2 J2 HB2 HO2
   refine wpAnyH_ready (rs := [5]) (by kernel_rfl) (by simp) ?_
   refine AllReadyH.cons (o := _) rfl (fun K0 hK0 => ?_) AllReadyH.nil
   go_simp
   try rw [← hwB]
   refine hK0.out _ _ (cS.out _ K2 J2) (fun hHeld2 => ?_)
   clear hK0 K0 yc0 yc1 yf0 yf1 hHeld1 hwB q2
   (try simp only [Act.put, List.setIfInBounds_toArray, List.set_cons_zero, List.set_cons_succ])
   refine wpAnyH_ready (rs := [6]) (by kernel_rfl) (by simp) ?_
   refine AllReadyH.cons (o := _) rfl (fun K0 hK0 => ?_) AllReadyH.nil
   go_simp
   refine hK0.out _ _ (cS.out _ K2 J2) (fun hHeld3 => ?_)
   clear hK0 K0 hHeld3
   (try simp only [Act.put, List.setIfInBounds_toArray, List.set_cons_zero, List.set_cons_succ])
   refine wpAnyH_ready (rs := [7]) (by kernel_rfl) (by simp) ?_
   refine AllReadyH.cons (o := _) rfl (fun K0 hK0 => ?_) AllReadyH.nil
   go_simp
   refine hK0.out _ _ (cS.out _ K2 J2) (fun hHeld3 => ?_)
   clear hK0 K0 hHeld3
   (try simp only [Act.put, List.setIfInBounds_toArray, List.set_cons_zero, List.set_cons_succ])
   refine wpAnyH_done (by kernel_rfl) ?_ _
   (try simp only [Act.put, List.setIfInBounds_toArray, List.set_cons_zero, List.set_cons_succ])
   have u0 := R2.cell 0; have u1 := R2.cell 1; have u2 := R2.cell 2
   have v0 := Y2.cell 0; have v1 := Y2.cell 1
   simp only [List.set_cons_zero, List.set_cons_succ, List.getElem?_cons_zero, List.getElem?_cons_succ] at u0 u1 u2 v0 v1
   clear R1 R2 Y1 Y2 K1 J1 K2 J2 HC HB1 HO1
   clear HK12
   rename_i aK
   refine aK _ _ ?_
   refine wp_ret ?_
   refine bodyPost_ret (v := .tuple #[.agg #[.string nm, .int .i64 (st : Int), .slice A2 m c2], .agg #[.string kb, .string ks], .string f, .string tg]) (by simp [results, Tryz.results35, go_sem, u0, u1, u2, v0, v1]) rfl ?_
   exact ⟨nm, st, A2, m, c2, L, kb, ks, f, tg, rfl, HGM.out, h3, h6, (by rw [HLl.out]; exact hm12), zkb, zks, hfz, (by omega), HO2.out.base_le (by omega), HB2.out⟩
  ·go_wp2_with fail
   refine (cur_anyRow HS.out HB.out hp0 HC.out (by omega)).mono ?_; rintro e w13 ⟨rr, rfl, hrr, hc13, hg13⟩
   have s13 := hg13.size
   replace K := K.grown hg13 (fun e => by injection e with e; omega)
   replace J := J.grown hg13 (fun e => by injection e with e; omega)
   replace R := R.grown hg13 (fun e => by injection e with e; omega)
   replace Q := Q.grown hg13 (fun e => by injection e with e; omega)
   replace HO := Lib.hid (HO.out.past hg13 (by omega))
   replace HB := Lib.hid (grown_below HB.out hp0 hg13)
   replace HC := Lib.hid hc13
   clear hg13 hc13
   have carO : Hid (∀ u : World, w13.grownBy u (some (w.heap.size + 2)) → u.cell? ⟨b, 0, none⟩ = some (.string nm) ∧ u.cell? ⟨b, 1, none⟩ = some (.int .i64 (st : Int)) ∧ u.cell? ⟨b, 2, none⟩ = some (.slice A2 m c2) ∧ u.cell? ⟨d, 0, none⟩ = some (.string kb) ∧ u.cell? ⟨d, 1, none⟩ = some (.string ks)) := Lib.hid (fun u hu => by
    have L0 := K.grown hu (fun e => by injection e with e; omega)
    have L1 := J.grown hu (fun e => by injection e with e; omega)
    exact ⟨by simpa using L0.cell 0, by simpa using L0.cell 1, by simpa using L0.cell 2, by simpa using L1.cell 0, by simpa using L1.cell 1⟩)
   have C0 : w13.grownBy w13.drew (some (w.heap.size + 2)) := grown_any (Below.refl _ _).drew _
   go_upto_region 10 with fail
   refine wp_region_held_drew (S := fun u => u.cell? ⟨b, 0, none⟩ = some (.string nm) ∧ u.cell? ⟨b, 1, none⟩ = some (.int .i64 (st : Int)) ∧ u.cell? ⟨b, 2, none⟩ = some (.slice A2 m c2) ∧ u.cell? ⟨d, 0, none⟩ = some (.string kb) ∧ u.cell? ⟨d, 1, none⟩ = some (.string ks)) (by kernel_rfl) (carO.out _ C0) (fun hHeld => ?_)
   refine takeH 0 46 (v := ?_) rfl (by kernel_rfl) (by kernel_rfl) (by kernel_rfl) (fun _ _ _ h => h) (Or.inl ⟨by rfl, ?_⟩) (by assumption) ?_
   rotate_left
   ·(intro w hSw; (try dsimp only at hSw); go_simp) <;> with_reducible rfl
   (try simp only [Act.put, List.setIfInBounds_toArray, List.set_cons_zero, List.set_cons_succ])
   refine takeH 1 47 (v := ?_) rfl (by kernel_rfl) (by kernel_rfl) (by kernel_rfl) (fun _ _ _ h => h) (Or.inl ⟨by rfl, ?_⟩) (by assumption) ?_
   rotate_left
   ·(intro w hSw; (try dsimp only at hSw); go_simp) <;> with_reducible rfl
   (try simp only [Act.put, List.setIfInBounds_toArray, List.set_cons_zero, List.set_cons_succ])
   refine takeH 2 48 (v := ?_) rfl (by kernel_rfl) (by kernel_rfl) (by kernel_rfl) (fun _ _ _ h => h) (Or.inl ⟨by rfl, ?_⟩) (by assumption) ?_
   rotate_left
   ·(intro w hSw; (try dsimp only at hSw); go_simp) <;> with_reducible rfl
   (try simp only [Act.put, List.setIfInBounds_toArray, List.set_cons_zero, List.set_cons_succ])
   refine takeH 3 49 (v := ?_) rfl (by kernel_rfl) (by kernel_rfl) (by kernel_rfl) (fun _ _ _ h => h) (Or.inl ⟨by rfl, ?_⟩) (by assumption) ?_
   rotate_left
   ·(intro w hSw; (try dsimp only at hSw); go_simp) <;> with_reducible rfl
   (try simp only [Act.put, List.setIfInBounds_toArray, List.set_cons_zero, List.set_cons_succ])
   clear carO C0
   have aD : Below w13.heap.size w13 w13.drew := (Below.refl _ _).drew
   replace K := K.up aD
   replace J := J.up aD
   replace R := R.up aD
   replace Q := Q.up aD
   replace HO := Lib.hid (HO.out.up aD)
   replace HC := Lib.hid (HC.out.up aD)
   replace HB := Lib.hid (below_go HB.out aD)
   clear aD
   obtain ⟨wd, hwd⟩ : ∃ u, u = w13.drew := ⟨_, rfl⟩
   rw [← hwd] at K J R Q HO HB HC hHeld ⊢
   clear hwd
   have rc0 := R.cell 0; have rc1 := R.cell 1; have rc2 := R.cell 2
   have rf0 := R.frozen 0; have rf1 := R.frozen 1; have rf2 := R.frozen 2
   have yc0 := Q.cell 0; have yc1 := Q.cell 1
   have yf0 := Q.frozen 0; have yf1 := Q.frozen 1
   simp only [List.getElem?_cons_zero, List.getElem?_cons_succ] at rc0 rc1 rc2 yc0 yc1
   have cS : Hid (∀ u : World, Blk u b 25 [.string nm, .int .i64 (st : Int), .slice A2 m c2] → Blk u d 27 [.string kb, .string ks] → u.cell? ⟨b, 0, none⟩ = some (.string nm) ∧ u.cell? ⟨b, 1, none⟩ = some (.int .i64 (st : Int)) ∧ u.cell? ⟨b, 2, none⟩ = some (.slice A2 m c2) ∧ u.cell? ⟨d, 0, none⟩ = some (.string kb) ∧ u.cell? ⟨d, 1, none⟩ = some (.string ks)) := Lib.hid (fun u L0 L1 => ⟨by simpa using L0.cell 0, by simpa using L0.cell 1, by simpa using L0.cell 2, by simpa using L1.cell 0, by simpa using L1.cell 1⟩)
   have q1 := sets3_grown wd w.heap.size (.string nm) (.int .i64 (st : Int)) (.slice A2 m c2)
   have R1 := ((R.set_ 0 (.string nm)).set_ 1 (.int .i64 (st : Int))).set_ 2 (.slice A2 m c2)
   have Y1 := Q.grown q1 (fun e => by injection e with e; omega)
   have K1 := K.grown q1 (fun e => by injection e with e; omega)
   have J1 := J.grown q1 (fun e => by injection e with e; omega)
   have hbs := HB.out.size
   have HB1 := Lib.hid (HB.out.grown q1 hbs (fun k e => by injection e with e; omega))
   have HO1 := Lib.hid (HO.out.past q1 (by omega))
   obtain ⟨wA, hwA⟩ : ∃ u, u = ((wd.setCell ⟨w.heap.size, 0, none⟩ (.string nm)).setCell ⟨w.heap.size, 1, none⟩ (.int .i64 (st : Int))).setCell ⟨w.heap.size, 2, none⟩ (.slice A2 m c2) := ⟨_, rfl⟩
   rw [← hwA] at R1 Y1 K1 J1 HB1 HO1
   refine wpAnyH_ready (rs := [4]) (by kernel_rfl) (by simp) ?_
   refine AllReadyH.cons (o := _) rfl (fun K0 hK0 => ?_) AllReadyH.nil
   go_simp
   try rw [← hwA]
   refine hK0.out _ _ (cS.out _ K1 J1) (fun hHeld1 => ?_)
   clear hK0 K0 rc0 rc1 rc2 rf0 rf1 rf2 yc0 yc1 yf0 yf1 R Q K J hHeld hwA q1
   (try simp only [Act.put, List.setIfInBounds_toArray, List.set_cons_zero, List.set_cons_succ])
   have yc0 := Y1.cell 0; have yc1 := Y1.cell 1
   have yf0 := Y1.frozen 0; have yf1 := Y1.frozen 1
   simp only [List.getElem?_cons_zero, List.getElem?_cons_succ] at yc0 yc1
   have q2 := sets2_grown wA (w.heap.size + 1) (.string kb) (.string ks)
   have R2 := R1.grown q2 (fun e => by injection e with e; omega)
   have Y2 := (Y1.set_ 0 (.string kb)).set_ 1 (.string ks)
   have K2 := K1.grown q2 (fun e => by injection e with e; omega)
   have J2 := J1.grown q2 (fun e => by injection e with e; omega)
   have HB2 := Lib.hid (HB1.out.grown q2 HB1.out.size (fun k e => by injection e with e; omega))
   have HO2 := Lib.hid (HO1.out.past q2 (by omega))
   obtain ⟨wB, hwB⟩ : ∃ u, u = (wA.setCell ⟨w.heap.size + 1, 0, none⟩ (.string kb)).setCell ⟨w.heap.size + 1, 1, none⟩ (.string ks) := ⟨_, rfl⟩
   rw [← hwB] at R2 Y2 K2 J2 HB2 HO2
   refine wpAnyH_ready (rs := [5]) (by kernel_rfl) (by simp) ?_
   refine AllReadyH.cons (o := _) rfl (fun K0 hK0 => ?_) AllReadyH.nil
   go_simp
   try rw [← hwB]
   refine hK0.out _ _ (cS.out _ K2 J2) (fun hHeld2 => ?_)
   clear hK0 K0 yc0 yc1 yf0 yf1 hHeld1 hwB q2
   (try simp only [Act.put, List.setIfInBounds_toArray, List.set_cons_zero, List.set_cons_succ])
   refine wpAnyH_ready (rs := [6]) (by kernel_rfl) (by simp) ?_
   refine AllReadyH.cons (o := _) rfl (fun K0 hK0 => ?_) AllReadyH.nil
   go_simp
   refine hK0.out _ _ (cS.out _ K2 J2) (fun hHeld3 => ?_)
   clear hK0 K0 hHeld3
   (try simp only [Act.put, List.setIfInBounds_toArray, List.set_cons_zero, List.set_cons_succ])
   refine wpAnyH_ready (rs := [7]) (by kernel_rfl) (by simp) ?_
   refine AllReadyH.cons (o := _) rfl (fun K0 hK0 => ?_) AllReadyH.nil
   go_simp
   refine hK0.out _ _ (cS.out _ K2 J2) (fun hHeld3 => ?_)
   clear hK0 K0 hHeld3
   (try simp only [Act.put, List.setIfInBounds_toArray, List.set_cons_zero, List.set_cons_succ])
   refine wpAnyH_done (by kernel_rfl) ?_ _
   (try simp only [Act.put, List.setIfInBounds_toArray, List.set_cons_zero, List.set_cons_succ])
   have u0 := R2.cell 0; have u1 := R2.cell 1; have u2 := R2.cell 2
   have v0 := Y2.cell 0; have v1 := Y2.cell 1
   simp only [List.set_cons_zero, List.set_cons_succ, List.getElem?_cons_zero, List.getElem?_cons_succ] at u0 u1 u2 v0 v1
   clear R1 R2 Y1 Y2 K1 J1 K2 J2 HC HB1 HO1
   clear HK12
   rename_i aK
   refine aK _ _ ?_
   refine wp_ret ?_
   refine bodyPost_ret (v := .tuple #[.agg #[.string nm, .int .i64 (st : Int), .slice A2 m c2], .agg #[.string kb, .string ks], .string f, .string rr]) (by simp [results, Tryz.results35, go_sem, u0, u1, u2, v0, v1]) rfl ?_
   exact ⟨nm, st, A2, m, c2, L, kb, ks, f, rr, rfl, HGM.out, h3, h6, (by rw [HLl.out]; exact hm12), zkb, zks, hfz, (by omega), HO2.out.base_le (by omega), HB2.out⟩
 ·skip
  have HGK := Lib.hid hgk
  clear hgk
  go_wp2_with fail
  have hd4 := J.lt
  refine (cur_one HS.out HB.out hp0 HC.out (by omega) (by decide) (by decide)).mono ?_; rintro e w9 ⟨y9, rfl, hc9, hg9⟩
  have s9 := hg9.size
  replace K := K.grown hg9 (fun e => by injection e with e; omega)
  replace J := J.grown hg9 (fun e => by injection e with e; omega)
  replace R := R.grown hg9 (fun e => by injection e with e; omega)
  replace Q := Q.grown hg9 (fun e => by injection e with e; omega)
  replace HO := Lib.hid (HO.out.past hg9 (by omega))
  replace HB := Lib.hid (grown_below HB.out hp0 hg9)
  replace HC := Lib.hid hc9
  clear hg9 hc9
  rcases y9
  ·skip
   have carO : Hid (∀ u : World, w9.grownBy u (some (w.heap.size + 2)) → u.cell? ⟨b, 0, none⟩ = some (.string nm) ∧ u.cell? ⟨b, 1, none⟩ = some (.int .i64 (st : Int)) ∧ u.cell? ⟨b, 2, none⟩ = some (.slice A2 m c2) ∧ u.cell? ⟨d, 0, none⟩ = some (.string kb) ∧ u.cell? ⟨d, 1, none⟩ = some (.string ks)) := Lib.hid (fun u hu => by
    have L0 := K.grown hu (fun e => by injection e with e; omega)
    have L1 := J.grown hu (fun e => by injection e with e; omega)
    exact ⟨by simpa using L0.cell 0, by simpa using L0.cell 1, by simpa using L0.cell 2, by simpa using L1.cell 0, by simpa using L1.cell 1⟩)
   have C0 : w9.grownBy w9.drew (some (w.heap.size + 2)) := grown_any (Below.refl _ _).drew _
   go_upto_region 7 with fail
   have cS7 : Hid (∀ u : World, Blk u b 25 [.string nm, .int .i64 (st : Int), .slice A2 m c2] → Blk u d 27 [.string kb, .string ks] → u.cell? ⟨b, 0, none⟩ = some (.string nm) ∧ u.cell? ⟨b, 1, none⟩ = some (.int .i64 (st : Int)) ∧ u.cell? ⟨b, 2, none⟩ = some (.slice A2 m c2) ∧ u.cell? ⟨d, 0, none⟩ = some (.string kb) ∧ u.cell? ⟨d, 1, none⟩ = some (.string ks)) := Lib.hid (fun u L0 L1 => ⟨by simpa using L0.cell 0, by simpa using L0.cell 1, by simpa using L0.cell 2, by simpa using L1.cell 0, by simpa using L1.cell 1⟩)
   refine wp_region_held_drew (S := fun u => u.cell? ⟨b, 0, none⟩ = some (.string nm) ∧ u.cell? ⟨b, 1, none⟩ = some (.int .i64 (st : Int)) ∧ u.cell? ⟨b, 2, none⟩ = some (.slice A2 m c2) ∧ u.cell? ⟨d, 0, none⟩ = some (.string kb) ∧ u.cell? ⟨d, 1, none⟩ = some (.string ks)) (by kernel_rfl) (carO.out _ C0) (fun hHeld => ?_)
   refine takeH 0 35 (v := ?_) rfl (by kernel_rfl) (by kernel_rfl) (by kernel_rfl) (fun _ _ _ h => h) (Or.inl ⟨by rfl, ?_⟩) (by assumption) ?_
   rotate_left
   ·(intro w hSw; (try dsimp only at hSw); go_simp) <;> with_reducible rfl
   (try simp only [Act.put, List.setIfInBounds_toArray, List.set_cons_zero, List.set_cons_succ])
   refine takeH 1 36 (v := ?_) rfl (by kernel_rfl) (by kernel_rfl) (by kernel_rfl) (fun _ _ _ h => h) (Or.inl ⟨by rfl, ?_⟩) (by assumption) ?_
   rotate_left
   ·(intro w hSw; (try dsimp only at hSw); go_simp) <;> with_reducible rfl
   (try simp only [Act.put, List.setIfInBounds_toArray, List.set_cons_zero, List.set_cons_succ])
   refine takeH 2 37 (v := ?_) rfl (by kernel_rfl) (by kernel_rfl) (by kernel_rfl) (fun _ _ _ h => h) (Or.inl ⟨by rfl, ?_⟩) (by assumption) ?_
   rotate_left
   ·(intro w hSw; (try dsimp only at hSw); go_simp) <;> with_reducible rfl
   (try simp only [Act.put, List.setIfInBounds_toArray, List.set_cons_zero, List.set_cons_succ])
   refine takeH 3 38 (v := ?_) rfl (by kernel_rfl) (by kernel_rfl) (by kernel_rfl) (fun _ _ _ h => h) (Or.inl ⟨by rfl, ?_⟩) (by assumption) ?_
   rotate_left
   ·(intro w hSw; (try dsimp only at hSw); go_simp) <;> with_reducible rfl
   (try simp only [Act.put, List.setIfInBounds_toArray, List.set_cons_zero, List.set_cons_succ])
   refine wpAnyH_ready (rs := [4]) (by kernel_rfl) (by simp) ?_
   refine AllReadyH.cons (o := _) rfl (fun K0 hK0 => ?_) AllReadyH.nil
   go_simp
   refine (cur_touch (M := 3) HS.out (grown_below HB.out hp0 C0) hp0 (HC.out.up (Below.refl _ _).drew) (by omega) (by decide) (by decide)).mono ?_; rintro e w10 ⟨t, rfl, hct, ht1, hts, hc10, hg10⟩
   replace hg10 := grownBy_trans C0 hg10
   have s10 := hg10.size
   have hgT := goodT_of hct ht1 (by omega)
   replace K := K.grown hg10 (fun e => by injection e with e; omega)
   replace J := J.grown hg10 (fun e => by injection e with e; omega)
   replace R := R.grown hg10 (fun e => by injection e with e; omega)
   replace Q := Q.grown hg10 (fun e => by injection e with e; omega)
   replace HO := Lib.hid (HO.out.past hg10 (by omega))
   replace HB := Lib.hid (grown_below HB.out hp0 hg10)
   replace HC := Lib.hid hc10
   clear hg10 hc10
   try go_wp2_with fail
   refine hK0.out _ _ (cS7.out _ K J) (fun hHeld => ?_)
   clear hK0 K0
   (try simp only [Act.put, List.setIfInBounds_toArray, List.set_cons_zero, List.set_cons_succ])
   refine wpAnyH_ready (rs := [5]) (by kernel_rfl) (by simp) ?_
   refine AllReadyH.cons (o := _) rfl (fun K0 hK0 => ?_) AllReadyH.nil
   go_simp
   refine (spec_l9EndP (nm := nm) (st := st) HLl.out HO.out.recs HGK.out hgT hcap).mono ?_; rintro e w11 ⟨rfl, hb11⟩
   have s11 := hb11.size
   replace K := K.up hb11
   replace J := J.up hb11
   replace R := R.up hb11
   replace Q := Q.up hb11
   replace HO := Lib.hid (HO.out.up hb11)
   replace HC := Lib.hid (HC.out.up hb11)
   replace HB := Lib.hid (below_go HB.out hb11)
   clear hb11
   have hrow := hd_row (b := kb) (s := ks) (l := L) (u := t) h3 (show st ≤ 8 by omega) t.size
   obtain ⟨hr, hhr⟩ : ∃ u, u = hdAt st L kb ks t t.size := ⟨_, rfl⟩
   rw [← hhr] at hrow ⊢
   clear hhr
   have hrz := hrow.2
   try go_wp2_with fail
   refine hK0.out _ _ (cS7.out _ K J) (fun hHeld => ?_)
   clear hK0 K0
   (try simp only [Act.put, List.setIfInBounds_toArray, List.set_cons_zero, List.set_cons_succ])
   refine wpAnyH_ready (rs := [6]) (by kernel_rfl) (by simp) ?_
   refine AllReadyH.cons (o := _) rfl (fun K0 hK0 => ?_) AllReadyH.nil
   go_simp
   refine (spec_l1Times (a := f) (b := hr) (by omega) (by omega) (fits_good hrow.1 (by rw [HF.out.2, hrow.2]))).mono ?_; rintro e w11' ⟨rfl, rfl⟩
   have htz2 : (timesS f hr).size ≤ 16 := by rw [timesS, strOfNums_size, timesL_len]; omega
   obtain ⟨tg2, htg2⟩ : ∃ u, u = timesS f hr := ⟨_, rfl⟩
   rw [← htg2] at htz2 ⊢
   clear htg2
   try go_wp2_with fail
   refine hK0.out _ _ (cS7.out _ K J) (fun hHeld => ?_)
   clear hK0 K0
   (try simp only [Act.put, List.setIfInBounds_toArray, List.set_cons_zero, List.set_cons_succ])
   refine wpAnyH_ready (rs := [7]) (by kernel_rfl) (by simp) ?_
   refine AllReadyH.cons (o := _) rfl (fun K0 hK0 => ?_) AllReadyH.nil
   go_simp
   refine hK0.out _ _ (cS7.out _ K J) (fun hHeld => ?_)
   clear hK0 K0
   (try simp only [Act.put, List.setIfInBounds_toArray, List.set_cons_zero, List.set_cons_succ])
   clear carO C0 cS7
   refine wpAnyH_done (by kernel_rfl) ?_ _
   (try simp only [Act.put, List.setIfInBounds_toArray, List.set_cons_zero, List.set_cons_succ])
   go_wp2_with fail
   have hd8 := J.lt
   refine (cur_one HS.out HB.out hp0 HC.out (by omega) (by decide) (by decide)).mono ?_; rintro e w12 ⟨y12, rfl, hc12, hg12⟩
   have s12 := hg12.size
   replace K := K.grown hg12 (fun e => by injection e with e; omega)
   replace J := J.grown hg12 (fun e => by injection e with e; omega)
   replace R := R.grown hg12 (fun e => by injection e with e; omega)
   replace Q := Q.grown hg12 (fun e => by injection e with e; omega)
   replace HO := Lib.hid (HO.out.past hg12 (by omega))
   replace HB := Lib.hid (grown_below HB.out hp0 hg12)
   replace HC := Lib.hid hc12
   clear hg12 hc12
   have HK12 := Lib.hid trivial
   rcases y12
   ·skip
    have carO : Hid (∀ u : World, w12.grownBy u (some (w.heap.size + 2)) → u.cell? ⟨b, 0, none⟩ = some (.string nm) ∧ u.cell? ⟨b, 1, none⟩ = some (.int .i64 (st : Int)) ∧ u.cell? ⟨b, 2, none⟩ = some (.slice A2 m c2) ∧ u.cell? ⟨d, 0, none⟩ = some (.string kb) ∧ u.cell? ⟨d, 1, none⟩ = some (.string ks)) := Lib.hid (fun u hu => by
     have L0 := K.grown hu (fun e => by injection e with e; omega)
     have L1 := J.grown hu (fun e => by injection e with e; omega)
     exact ⟨by simpa using L0.cell 0, by simpa using L0.cell 1, by simpa using L0.cell 2, by simpa using L1.cell 0, by simpa using L1.cell 1⟩)
    have C0 : w12.grownBy w12.drew (some (w.heap.size + 2)) := grown_any (Below.refl _ _).drew _
    go_upto_region 10 with fail
    refine wp_region_held_drew (S := fun u => u.cell? ⟨b, 0, none⟩ = some (.string nm) ∧ u.cell? ⟨b, 1, none⟩ = some (.int .i64 (st : Int)) ∧ u.cell? ⟨b, 2, none⟩ = some (.slice A2 m c2) ∧ u.cell? ⟨d, 0, none⟩ = some (.string kb) ∧ u.cell? ⟨d, 1, none⟩ = some (.string ks)) (by kernel_rfl) (carO.out _ C0) (fun hHeld => ?_)
    refine takeH 0 46 (v := ?_) rfl (by kernel_rfl) (by kernel_rfl) (by kernel_rfl) (fun _ _ _ h => h) (Or.inl ⟨by rfl, ?_⟩) (by assumption) ?_
    rotate_left
    ·(intro w hSw; (try dsimp only at hSw); go_simp) <;> with_reducible rfl
    (try simp only [Act.put, List.setIfInBounds_toArray, List.set_cons_zero, List.set_cons_succ])
    refine takeH 1 47 (v := ?_) rfl (by kernel_rfl) (by kernel_rfl) (by kernel_rfl) (fun _ _ _ h => h) (Or.inl ⟨by rfl, ?_⟩) (by assumption) ?_
    rotate_left
    ·(intro w hSw; (try dsimp only at hSw); go_simp) <;> with_reducible rfl
    (try simp only [Act.put, List.setIfInBounds_toArray, List.set_cons_zero, List.set_cons_succ])
    refine takeH 2 48 (v := ?_) rfl (by kernel_rfl) (by kernel_rfl) (by kernel_rfl) (fun _ _ _ h => h) (Or.inl ⟨by rfl, ?_⟩) (by assumption) ?_
    rotate_left
    ·(intro w hSw; (try dsimp only at hSw); go_simp) <;> with_reducible rfl
    (try simp only [Act.put, List.setIfInBounds_toArray, List.set_cons_zero, List.set_cons_succ])
    refine takeH 3 49 (v := ?_) rfl (by kernel_rfl) (by kernel_rfl) (by kernel_rfl) (fun _ _ _ h => h) (Or.inl ⟨by rfl, ?_⟩) (by assumption) ?_
    rotate_left
    ·(intro w hSw; (try dsimp only at hSw); go_simp) <;> with_reducible rfl
    (try simp only [Act.put, List.setIfInBounds_toArray, List.set_cons_zero, List.set_cons_succ])
    clear carO C0
    have aD : Below w12.heap.size w12 w12.drew := (Below.refl _ _).drew
    replace K := K.up aD
    replace J := J.up aD
    replace R := R.up aD
    replace Q := Q.up aD
    replace HO := Lib.hid (HO.out.up aD)
    replace HC := Lib.hid (HC.out.up aD)
    replace HB := Lib.hid (below_go HB.out aD)
    clear aD
    obtain ⟨wd, hwd⟩ : ∃ u, u = w12.drew := ⟨_, rfl⟩
    rw [← hwd] at K J R Q HO HB HC hHeld ⊢
    clear hwd
    have rc0 := R.cell 0; have rc1 := R.cell 1; have rc2 := R.cell 2
    have rf0 := R.frozen 0; have rf1 := R.frozen 1; have rf2 := R.frozen 2
    have yc0 := Q.cell 0; have yc1 := Q.cell 1
    have yf0 := Q.frozen 0; have yf1 := Q.frozen 1
    simp only [List.getElem?_cons_zero, List.getElem?_cons_succ] at rc0 rc1 rc2 yc0 yc1
    have cS : Hid (∀ u : World, Blk u b 25 [.string nm, .int .i64 (st : Int), .slice A2 m c2] → Blk u d 27 [.string kb, .string ks] → u.cell? ⟨b, 0, none⟩ = some (.string nm) ∧ u.cell? ⟨b, 1, none⟩ = some (.int .i64 (st : Int)) ∧ u.cell? ⟨b, 2, none⟩ = some (.slice A2 m c2) ∧ u.cell? ⟨d, 0, none⟩ = some (.string kb) ∧ u.cell? ⟨d, 1, none⟩ = some (.string ks)) := Lib.hid (fun u L0 L1 => ⟨by simpa using L0.cell 0, by simpa using L0.cell 1, by simpa using L0.cell 2, by simpa using L1.cell 0, by simpa using L1.cell 1⟩)
    have q1 := sets3_grown wd w.heap.size (.string nm) (.int .i64 (st : Int)) (.slice A2 m c2)
    have R1 := ((R.set_ 0 (.string nm)).set_ 1 (.int .i64 (st : Int))).set_ 2 (.slice A2 m c2)
    have Y1 := Q.grown q1 (fun e => by injection e with e; omega)
    have K1 := K.grown q1 (fun e => by injection e with e; omega)
    have J1 := J.grown q1 (fun e => by injection e with e; omega)
    have hbs := HB.out.size
    have HB1 := Lib.hid (HB.out.grown q1 hbs (fun k e => by injection e with e; omega))
    have HO1 := Lib.hid (HO.out.past q1 (by omega))
    obtain ⟨wA, hwA⟩ : ∃ u, u = ((wd.setCell ⟨w.heap.size, 0, none⟩ (.string nm)).setCell ⟨w.heap.size, 1, none⟩ (.int .i64 (st : Int))).setCell ⟨w.heap.size, 2, none⟩ (.slice A2 m c2) := ⟨_, rfl⟩
    rw [← hwA] at R1 Y1 K1 J1 HB1 HO1
    refine wpAnyH_ready (rs := [4]) (by kernel_rfl) (by simp) ?_
    refine AllReadyH.cons (o := _) rfl (fun K0 hK0 => ?_) AllReadyH.nil
    go_simp
    try rw [← hwA]
    refine hK0.out _ _ (cS.out _ K1 J1) (fun hHeld1 => ?_)
    clear hK0 K0 rc0 rc1 rc2 rf0 rf1 rf2 yc0 yc1 yf0 yf1 R Q K J hHeld hwA q1
    (try simp only [Act.put, List.setIfInBounds_toArray, List.set_cons_zero, List.set_cons_succ])
    have yc0 := Y1.cell 0; have yc1 := Y1.cell 1
    have yf0 := Y1.frozen 0; have yf1 := Y1.frozen 1
    simp only [List.getElem?_cons_zero, List.getElem?_cons_succ] at yc0 yc1
    have q2 := sets2_grown wA (w.heap.size + 1) (.string kb) (.string ks)
    have R2 := R1.grown q2 (fun e => by injection e with e; omega)
    have Y2 := (Y1.set_ 0 (.string kb)).set_ 1 (.string ks)
    have K2 := K1.grown q2 (fun e => by injection e with e; omega)
    have J2 := J1.grown q2 (fun e => by injection e with e; omega)
    have HB2 := Lib.hid (HB1.out.grown q2 HB1.out.size (fun k e => by injection e with e; omega))
    have HO2 := Lib.hid (HO1.out.past q2 (by omega))
    obtain ⟨wB, hwB⟩ : ∃ u, u = (wA.setCell ⟨w.heap.size + 1, 0, none⟩ (.string kb)).setCell ⟨w.heap.size + 1, 1, none⟩ (.string ks) := ⟨_, rfl⟩
    rw [← hwB] at R2 Y2 K2 J2 HB2 HO2
    refine wpAnyH_ready (rs := [5]) (by kernel_rfl) (by simp) ?_
    refine AllReadyH.cons (o := _) rfl (fun K0 hK0 => ?_) AllReadyH.nil
    go_simp
    try rw [← hwB]
    refine hK0.out _ _ (cS.out _ K2 J2) (fun hHeld2 => ?_)
    clear hK0 K0 yc0 yc1 yf0 yf1 hHeld1 hwB q2
    (try simp only [Act.put, List.setIfInBounds_toArray, List.set_cons_zero, List.set_cons_succ])
    refine wpAnyH_ready (rs := [6]) (by kernel_rfl) (by simp) ?_
    refine AllReadyH.cons (o := _) rfl (fun K0 hK0 => ?_) AllReadyH.nil
    go_simp
    refine hK0.out _ _ (cS.out _ K2 J2) (fun hHeld3 => ?_)
    clear hK0 K0 hHeld3
    (try simp only [Act.put, List.setIfInBounds_toArray, List.set_cons_zero, List.set_cons_succ])
    refine wpAnyH_ready (rs := [7]) (by kernel_rfl) (by simp) ?_
    refine AllReadyH.cons (o := _) rfl (fun K0 hK0 => ?_) AllReadyH.nil
    go_simp
    refine hK0.out _ _ (cS.out _ K2 J2) (fun hHeld3 => ?_)
    clear hK0 K0 hHeld3
    (try simp only [Act.put, List.setIfInBounds_toArray, List.set_cons_zero, List.set_cons_succ])
    refine wpAnyH_done (by kernel_rfl) ?_ _
    (try simp only [Act.put, List.setIfInBounds_toArray, List.set_cons_zero, List.set_cons_succ])
    have u0 := R2.cell 0; have u1 := R2.cell 1; have u2 := R2.cell 2
    have v0 := Y2.cell 0; have v1 := Y2.cell 1
    simp only [List.set_cons_zero, List.set_cons_succ, List.getElem?_cons_zero, List.getElem?_cons_succ] at u0 u1 u2 v0 v1
    clear R1 R2 Y1 Y2 K1 J1 K2 J2 HC HB1 HO1
    clear HK12
    rename_i aK
    refine aK _ _ ?_
    refine wp_ret ?_
    refine bodyPost_ret (v := .tuple #[.agg #[.string nm, .int .i64 (st : Int), .slice A2 m c2], .agg #[.string kb, .string ks], .string f, .string tg2]) (by simp [results, Tryz.results35, go_sem, u0, u1, u2, v0, v1]) rfl ?_
    exact ⟨nm, st, A2, m, c2, L, kb, ks, f, tg2, rfl, HGM.out, h3, h6, (by rw [HLl.out]; exact hm12), zkb, zks, hfz, (by omega), HO2.out.base_le (by omega), HB2.out⟩
   ·go_wp2_with fail
    refine (cur_anyRow HS.out HB.out hp0 HC.out (by omega)).mono ?_; rintro e w13 ⟨rr, rfl, hrr, hc13, hg13⟩
    have s13 := hg13.size
    replace K := K.grown hg13 (fun e => by injection e with e; omega)
    replace J := J.grown hg13 (fun e => by injection e with e; omega)
    replace R := R.grown hg13 (fun e => by injection e with e; omega)
    replace Q := Q.grown hg13 (fun e => by injection e with e; omega)
    replace HO := Lib.hid (HO.out.past hg13 (by omega))
    replace HB := Lib.hid (grown_below HB.out hp0 hg13)
    replace HC := Lib.hid hc13
    clear hg13 hc13
    have carO : Hid (∀ u : World, w13.grownBy u (some (w.heap.size + 2)) → u.cell? ⟨b, 0, none⟩ = some (.string nm) ∧ u.cell? ⟨b, 1, none⟩ = some (.int .i64 (st : Int)) ∧ u.cell? ⟨b, 2, none⟩ = some (.slice A2 m c2) ∧ u.cell? ⟨d, 0, none⟩ = some (.string kb) ∧ u.cell? ⟨d, 1, none⟩ = some (.string ks)) := Lib.hid (fun u hu => by
     have L0 := K.grown hu (fun e => by injection e with e; omega)
     have L1 := J.grown hu (fun e => by injection e with e; omega)
     exact ⟨by simpa using L0.cell 0, by simpa using L0.cell 1, by simpa using L0.cell 2, by simpa using L1.cell 0, by simpa using L1.cell 1⟩)
    have C0 : w13.grownBy w13.drew (some (w.heap.size + 2)) := grown_any (Below.refl _ _).drew _
    go_upto_region 10 with fail
    refine wp_region_held_drew (S := fun u => u.cell? ⟨b, 0, none⟩ = some (.string nm) ∧ u.cell? ⟨b, 1, none⟩ = some (.int .i64 (st : Int)) ∧ u.cell? ⟨b, 2, none⟩ = some (.slice A2 m c2) ∧ u.cell? ⟨d, 0, none⟩ = some (.string kb) ∧ u.cell? ⟨d, 1, none⟩ = some (.string ks)) (by kernel_rfl) (carO.out _ C0) (fun hHeld => ?_)
    refine takeH 0 46 (v := ?_) rfl (by kernel_rfl) (by kernel_rfl) (by kernel_rfl) (fun _ _ _ h => h) (Or.inl ⟨by rfl, ?_⟩) (by assumption) ?_
    rotate_left
    ·(intro w hSw; (try dsimp only at hSw); go_simp) <;> with_reducible rfl
    (try simp only [Act.put, List.setIfInBounds_toArray, List.set_cons_zero, List.set_cons_succ])
    refine takeH 1 47 (v := ?_) rfl (by kernel_rfl) (by kernel_rfl) (by kernel_rfl) (fun _ _ _ h => h) (Or.inl ⟨by rfl, ?_⟩) (by assumption) ?_
    rotate_left
    ·(intro w hSw; (try dsimp only at hSw); go_simp) <;> with_reducible rfl
    (try simp only [Act.put, List.setIfInBounds_toArray, List.set_cons_zero, List.set_cons_succ])
    refine takeH 2 48 (v := ?_) rfl (by kernel_rfl) (by kernel_rfl) (by kernel_rfl) (fun _ _ _ h => h) (Or.inl ⟨by rfl, ?_⟩) (by assumption) ?_
    rotate_left
    ·(intro w hSw; (try dsimp only at hSw); go_simp) <;> with_reducible rfl
    (try simp only [Act.put, List.setIfInBounds_toArray, List.set_cons_zero, List.set_cons_succ])
    refine takeH 3 49 (v := ?_) rfl (by kernel_rfl) (by kernel_rfl) (by kernel_rfl) (fun _ _ _ h => h) (Or.inl ⟨by rfl, ?_⟩) (by assumption) ?_
    rotate_left
    ·(intro w hSw; (try dsimp only at hSw); go_simp) <;> with_reducible rfl
    (try simp only [Act.put, List.setIfInBounds_toArray, List.set_cons_zero, List.set_cons_succ])
    clear carO C0
    have aD : Below w13.heap.size w13 w13.drew := (Below.refl _ _).drew
    replace K := K.up aD
    replace J := J.up aD
    replace R := R.up aD
    replace Q := Q.up aD
    replace HO := Lib.hid (HO.out.up aD)
    replace HC := Lib.hid (HC.out.up aD)
    replace HB := Lib.hid (below_go HB.out aD)
    clear aD
    obtain ⟨wd, hwd⟩ : ∃ u, u = w13.drew := ⟨_, rfl⟩
    rw [← hwd] at K J R Q HO HB HC hHeld ⊢
    clear hwd
    have rc0 := R.cell 0; have rc1 := R.cell 1; have rc2 := R.cell 2
    have rf0 := R.frozen 0; have rf1 := R.frozen 1; have rf2 := R.frozen 2
    have yc0 := Q.cell 0; have yc1 := Q.cell 1
    have yf0 := Q.frozen 0; have yf1 := Q.frozen 1
    simp only [List.getElem?_cons_zero, List.getElem?_cons_succ] at rc0 rc1 rc2 yc0 yc1
    have cS : Hid (∀ u : World, Blk u b 25 [.string nm, .int .i64 (st : Int), .slice A2 m c2] → Blk u d 27 [.string kb, .string ks] → u.cell? ⟨b, 0, none⟩ = some (.string nm) ∧ u.cell? ⟨b, 1, none⟩ = some (.int .i64 (st : Int)) ∧ u.cell? ⟨b, 2, none⟩ = some (.slice A2 m c2) ∧ u.cell? ⟨d, 0, none⟩ = some (.string kb) ∧ u.cell? ⟨d, 1, none⟩ = some (.string ks)) := Lib.hid (fun u L0 L1 => ⟨by simpa using L0.cell 0, by simpa using L0.cell 1, by simpa using L0.cell 2, by simpa using L1.cell 0, by simpa using L1.cell 1⟩)
    have q1 := sets3_grown wd w.heap.size (.string nm) (.int .i64 (st : Int)) (.slice A2 m c2)
    have R1 := ((R.set_ 0 (.string nm)).set_ 1 (.int .i64 (st : Int))).set_ 2 (.slice A2 m c2)
    have Y1 := Q.grown q1 (fun e => by injection e with e; omega)
    have K1 := K.grown q1 (fun e => by injection e with e; omega)
    have J1 := J.grown q1 (fun e => by injection e with e; omega)
    have hbs := HB.out.size
    have HB1 := Lib.hid (HB.out.grown q1 hbs (fun k e => by injection e with e; omega))
    have HO1 := Lib.hid (HO.out.past q1 (by omega))
    obtain ⟨wA, hwA⟩ : ∃ u, u = ((wd.setCell ⟨w.heap.size, 0, none⟩ (.string nm)).setCell ⟨w.heap.size, 1, none⟩ (.int .i64 (st : Int))).setCell ⟨w.heap.size, 2, none⟩ (.slice A2 m c2) := ⟨_, rfl⟩
    rw [← hwA] at R1 Y1 K1 J1 HB1 HO1
    refine wpAnyH_ready (rs := [4]) (by kernel_rfl) (by simp) ?_
    refine AllReadyH.cons (o := _) rfl (fun K0 hK0 => ?_) AllReadyH.nil
    go_simp
    try rw [← hwA]
    refine hK0.out _ _ (cS.out _ K1 J1) (fun hHeld1 => ?_)
    clear hK0 K0 rc0 rc1 rc2 rf0 rf1 rf2 yc0 yc1 yf0 yf1 R Q K J hHeld hwA q1
    (try simp only [Act.put, List.setIfInBounds_toArray, List.set_cons_zero, List.set_cons_succ])
    have yc0 := Y1.cell 0; have yc1 := Y1.cell 1
    have yf0 := Y1.frozen 0; have yf1 := Y1.frozen 1
    simp only [List.getElem?_cons_zero, List.getElem?_cons_succ] at yc0 yc1
    have q2 := sets2_grown wA (w.heap.size + 1) (.string kb) (.string ks)
    have R2 := R1.grown q2 (fun e => by injection e with e; omega)
    have Y2 := (Y1.set_ 0 (.string kb)).set_ 1 (.string ks)
    have K2 := K1.grown q2 (fun e => by injection e with e; omega)
    have J2 := J1.grown q2 (fun e => by injection e with e; omega)
    have HB2 := Lib.hid (HB1.out.grown q2 HB1.out.size (fun k e => by injection e with e; omega))
    have HO2 := Lib.hid (HO1.out.past q2 (by omega))
    obtain ⟨wB, hwB⟩ : ∃ u, u = (wA.setCell ⟨w.heap.size + 1, 0, none⟩ (.string kb)).setCell ⟨w.heap.size + 1, 1, none⟩ (.string ks) := ⟨_, rfl⟩
    rw [← hwB] at R2 Y2 K2 J2 HB2 HO2
    refine wpAnyH_ready (rs := [5]) (by kernel_rfl) (by simp) ?_
    refine AllReadyH.cons (o := _) rfl (fun K0 hK0 => ?_) AllReadyH.nil
    go_simp
    try rw [← hwB]
    refine hK0.out _ _ (cS.out _ K2 J2) (fun hHeld2 => ?_)
    clear hK0 K0 yc0 yc1 yf0 yf1 hHeld1 hwB q2
    (try simp only [Act.put, List.setIfInBounds_toArray, List.set_cons_zero, List.set_cons_succ])
    refine wpAnyH_ready (rs := [6]) (by kernel_rfl) (by simp) ?_
    refine AllReadyH.cons (o := _) rfl (fun K0 hK0 => ?_) AllReadyH.nil
    go_simp
    refine hK0.out _ _ (cS.out _ K2 J2) (fun hHeld3 => ?_)
    clear hK0 K0 hHeld3
    (try simp only [Act.put, List.setIfInBounds_toArray, List.set_cons_zero, List.set_cons_succ])
    refine wpAnyH_ready (rs := [7]) (by kernel_rfl) (by simp) ?_
    refine AllReadyH.cons (o := _) rfl (fun K0 hK0 => ?_) AllReadyH.nil
    go_simp
    refine hK0.out _ _ (cS.out _ K2 J2) (fun hHeld3 => ?_)
    clear hK0 K0 hHeld3
    (try simp only [Act.put, List.setIfInBounds_toArray, List.set_cons_zero, List.set_cons_succ])
    refine wpAnyH_done (by kernel_rfl) ?_ _
    (try simp only [Act.put, List.setIfInBounds_toArray, List.set_cons_zero, List.set_cons_succ])
    have u0 := R2.cell 0; have u1 := R2.cell 1; have u2 := R2.cell 2
    have v0 := Y2.cell 0; have v1 := Y2.cell 1
    simp only [List.set_cons_zero, List.set_cons_succ, List.getElem?_cons_zero, List.getElem?_cons_succ] at u0 u1 u2 v0 v1
    clear R1 R2 Y1 Y2 K1 J1 K2 J2 HC HB1 HO1
    clear HK12
    rename_i aK
    refine aK _ _ ?_
    refine wp_ret ?_
    refine bodyPost_ret (v := .tuple #[.agg #[.string nm, .int .i64 (st : Int), .slice A2 m c2], .agg #[.string kb, .string ks], .string f, .string rr]) (by simp [results, Tryz.results35, go_sem, u0, u1, u2, v0, v1]) rfl ?_
    exact ⟨nm, st, A2, m, c2, L, kb, ks, f, rr, rfl, HGM.out, h3, h6, (by rw [HLl.out]; exact hm12), zkb, zks, hfz, (by omega), HO2.out.base_le (by omega), HB2.out⟩
  ·skip
   go_wp2_with fail
   have hd8 := J.lt
   refine (cur_one HS.out HB.out hp0 HC.out (by omega) (by decide) (by decide)).mono ?_; rintro e w12 ⟨y12, rfl, hc12, hg12⟩
   have s12 := hg12.size
   replace K := K.grown hg12 (fun e => by injection e with e; omega)
   replace J := J.grown hg12 (fun e => by injection e with e; omega)
   replace R := R.grown hg12 (fun e => by injection e with e; omega)
   replace Q := Q.grown hg12 (fun e => by injection e with e; omega)
   replace HO := Lib.hid (HO.out.past hg12 (by omega))
   replace HB := Lib.hid (grown_below HB.out hp0 hg12)
   replace HC := Lib.hid hc12
   clear hg12 hc12
   have HK12 := Lib.hid trivial
   rcases y12
   ·skip
    have carO : Hid (∀ u : World, w12.grownBy u (some (w.heap.size + 2)) → u.cell? ⟨b, 0, none⟩ = some (.string nm) ∧ u.cell? ⟨b, 1, none⟩ = some (.int .i64 (st : Int)) ∧ u.cell? ⟨b, 2, none⟩ = some (.slice A2 m c2) ∧ u.cell? ⟨d, 0, none⟩ = some (.string kb) ∧ u.cell? ⟨d, 1, none⟩ = some (.string ks)) := Lib.hid (fun u hu => by
     have L0 := K.grown hu (fun e => by injection e with e; omega)
     have L1 := J.grown hu (fun e => by injection e with e; omega)
     exact ⟨by simpa using L0.cell 0, by simpa using L0.cell 1, by simpa using L0.cell 2, by simpa using L1.cell 0, by simpa using L1.cell 1⟩)
    have C0 : w12.grownBy w12.drew (some (w.heap.size + 2)) := grown_any (Below.refl _ _).drew _
    go_upto_region 10 with fail
    refine wp_region_held_drew (S := fun u => u.cell? ⟨b, 0, none⟩ = some (.string nm) ∧ u.cell? ⟨b, 1, none⟩ = some (.int .i64 (st : Int)) ∧ u.cell? ⟨b, 2, none⟩ = some (.slice A2 m c2) ∧ u.cell? ⟨d, 0, none⟩ = some (.string kb) ∧ u.cell? ⟨d, 1, none⟩ = some (.string ks)) (by kernel_rfl) (carO.out _ C0) (fun hHeld => ?_)
    refine takeH 0 46 (v := ?_) rfl (by kernel_rfl) (by kernel_rfl) (by kernel_rfl) (fun _ _ _ h => h) (Or.inl ⟨by rfl, ?_⟩) (by assumption) ?_
    rotate_left
    ·(intro w hSw; (try dsimp only at hSw); go_simp) <;> with_reducible rfl
    (try simp only [Act.put, List.setIfInBounds_toArray, List.set_cons_zero, List.set_cons_succ])
    refine takeH 1 47 (v := ?_) rfl (by kernel_rfl) (by kernel_rfl) (by kernel_rfl) (fun _ _ _ h => h) (Or.inl ⟨by rfl, ?_⟩) (by assumption) ?_
    rotate_left
    ·(intro w hSw; (try dsimp only at hSw); go_simp) <;> with_reducible rfl
    (try simp only [Act.put, List.setIfInBounds_toArray, List.set_cons_zero, List.set_cons_succ])
    refine takeH 2 48 (v := ?_) rfl (by kernel_rfl) (by kernel_rfl) (by kernel_rfl) (fun _ _ _ h => h) (Or.inl ⟨by rfl, ?_⟩) (by assumption) ?_
    rotate_left
    ·(intro w hSw; (try dsimp only at hSw); go_simp) <;> with_reducible rfl
    (try simp only [Act.put, List.setIfInBounds_toArray, List.set_cons_zero, List.set_cons_succ])
    refine takeH 3 49 (v := ?_) rfl (by kernel_rfl) (by kernel_rfl) (by kernel_rfl) (fun _ _ _ h => h) (Or.inl ⟨by rfl, ?_⟩) (by assumption) ?_
    rotate_left
    ·(intro w hSw; (try dsimp only at hSw); go_simp) <;> with_reducible rfl
    (try simp only [Act.put, List.setIfInBounds_toArray, List.set_cons_zero, List.set_cons_succ])
    clear carO C0
    have aD : Below w12.heap.size w12 w12.drew := (Below.refl _ _).drew
    replace K := K.up aD
    replace J := J.up aD
    replace R := R.up aD
    replace Q := Q.up aD
    replace HO := Lib.hid (HO.out.up aD)
    replace HC := Lib.hid (HC.out.up aD)
    replace HB := Lib.hid (below_go HB.out aD)
    clear aD
    obtain ⟨wd, hwd⟩ : ∃ u, u = w12.drew := ⟨_, rfl⟩
    rw [← hwd] at K J R Q HO HB HC hHeld ⊢
    clear hwd
    have rc0 := R.cell 0; have rc1 := R.cell 1; have rc2 := R.cell 2
    have rf0 := R.frozen 0; have rf1 := R.frozen 1; have rf2 := R.frozen 2
    have yc0 := Q.cell 0; have yc1 := Q.cell 1
    have yf0 := Q.frozen 0; have yf1 := Q.frozen 1
    simp only [List.getElem?_cons_zero, List.getElem?_cons_succ] at rc0 rc1 rc2 yc0 yc1
    have cS : Hid (∀ u : World, Blk u b 25 [.string nm, .int .i64 (st : Int), .slice A2 m c2] → Blk u d 27 [.string kb, .string ks] → u.cell? ⟨b, 0, none⟩ = some (.string nm) ∧ u.cell? ⟨b, 1, none⟩ = some (.int .i64 (st : Int)) ∧ u.cell? ⟨b, 2, none⟩ = some (.slice A2 m c2) ∧ u.cell? ⟨d, 0, none⟩ = some (.string kb) ∧ u.cell? ⟨d, 1, none⟩ = some (.string ks)) := Lib.hid (fun u L0 L1 => ⟨by simpa using L0.cell 0, by simpa using L0.cell 1, by simpa using L0.cell 2, by simpa using L1.cell 0, by simpa using L1.cell 1⟩)
    have q1 := sets3_grown wd w.heap.size (.string nm) (.int .i64 (st : Int)) (.slice A2 m c2)
    have R1 := ((R.set_ 0 (.string nm)).set_ 1 (.int .i64 (st : Int))).set_ 2 (.slice A2 m c2)
    have Y1 := Q.grown q1 (fun e => by injection e with e; omega)
    have K1 := K.grown q1 (fun e => by injection e with e; omega)
    have J1 := J.grown q1 (fun e => by injection e with e; omega)
    have hbs := HB.out.size
    have HB1 := Lib.hid (HB.out.grown q1 hbs (fun k e => by injection e with e; omega))
    have HO1 := Lib.hid (HO.out.past q1 (by omega))
    obtain ⟨wA, hwA⟩ : ∃ u, u = ((wd.setCell ⟨w.heap.size, 0, none⟩ (.string nm)).setCell ⟨w.heap.size, 1, none⟩ (.int .i64 (st : Int))).setCell ⟨w.heap.size, 2, none⟩ (.slice A2 m c2) := ⟨_, rfl⟩
    rw [← hwA] at R1 Y1 K1 J1 HB1 HO1
    refine wpAnyH_ready (rs := [4]) (by kernel_rfl) (by simp) ?_
    refine AllReadyH.cons (o := _) rfl (fun K0 hK0 => ?_) AllReadyH.nil
    go_simp
    try rw [← hwA]
    refine hK0.out _ _ (cS.out _ K1 J1) (fun hHeld1 => ?_)
    clear hK0 K0 rc0 rc1 rc2 rf0 rf1 rf2 yc0 yc1 yf0 yf1 R Q K J hHeld hwA q1
    (try simp only [Act.put, List.setIfInBounds_toArray, List.set_cons_zero, List.set_cons_succ])
    have yc0 := Y1.cell 0; have yc1 := Y1.cell 1
    have yf0 := Y1.frozen 0; have yf1 := Y1.frozen 1
    simp only [List.getElem?_cons_zero, List.getElem?_cons_succ] at yc0 yc1
    have q2 := sets2_grown wA (w.heap.size + 1) (.string kb) (.string ks)
    have R2 := R1.grown q2 (fun e => by injection e with e; omega)
    have Y2 := (Y1.set_ 0 (.string kb)).set_ 1 (.string ks)
    have K2 := K1.grown q2 (fun e => by injection e with e; omega)
    have J2 := J1.grown q2 (fun e => by injection e with e; omega)
    have HB2 := Lib.hid (HB1.out.grown q2 HB1.out.size (fun k e => by injection e with e; omega))
    have HO2 := Lib.hid (HO1.out.past q2 (by omega))
    obtain ⟨wB, hwB⟩ : ∃ u, u = (wA.setCell ⟨w.heap.size + 1, 0, none⟩ (.string kb)).setCell ⟨w.heap.size + 1, 1, none⟩ (.string ks) := ⟨_, rfl⟩
    rw [← hwB] at R2 Y2 K2 J2 HB2 HO2
    refine wpAnyH_ready (rs := [5]) (by kernel_rfl) (by simp) ?_
    refine AllReadyH.cons (o := _) rfl (fun K0 hK0 => ?_) AllReadyH.nil
    go_simp
    try rw [← hwB]
    refine hK0.out _ _ (cS.out _ K2 J2) (fun hHeld2 => ?_)
    clear hK0 K0 yc0 yc1 yf0 yf1 hHeld1 hwB q2
    (try simp only [Act.put, List.setIfInBounds_toArray, List.set_cons_zero, List.set_cons_succ])
    refine wpAnyH_ready (rs := [6]) (by kernel_rfl) (by simp) ?_
    refine AllReadyH.cons (o := _) rfl (fun K0 hK0 => ?_) AllReadyH.nil
    go_simp
    refine hK0.out _ _ (cS.out _ K2 J2) (fun hHeld3 => ?_)
    clear hK0 K0 hHeld3
    (try simp only [Act.put, List.setIfInBounds_toArray, List.set_cons_zero, List.set_cons_succ])
    refine wpAnyH_ready (rs := [7]) (by kernel_rfl) (by simp) ?_
    refine AllReadyH.cons (o := _) rfl (fun K0 hK0 => ?_) AllReadyH.nil
    go_simp
    refine hK0.out _ _ (cS.out _ K2 J2) (fun hHeld3 => ?_)
    clear hK0 K0 hHeld3
    (try simp only [Act.put, List.setIfInBounds_toArray, List.set_cons_zero, List.set_cons_succ])
    refine wpAnyH_done (by kernel_rfl) ?_ _
    (try simp only [Act.put, List.setIfInBounds_toArray, List.set_cons_zero, List.set_cons_succ])
    have u0 := R2.cell 0; have u1 := R2.cell 1; have u2 := R2.cell 2
    have v0 := Y2.cell 0; have v1 := Y2.cell 1
    simp only [List.set_cons_zero, List.set_cons_succ, List.getElem?_cons_zero, List.getElem?_cons_succ] at u0 u1 u2 v0 v1
    clear R1 R2 Y1 Y2 K1 J1 K2 J2 HC HB1 HO1
    clear HK12
    rename_i aK
    refine aK _ _ ?_
    refine wp_ret ?_
    refine bodyPost_ret (v := .tuple #[.agg #[.string nm, .int .i64 (st : Int), .slice A2 m c2], .agg #[.string kb, .string ks], .string f, .string tg]) (by simp [results, Tryz.results35, go_sem, u0, u1, u2, v0, v1]) rfl ?_
    exact ⟨nm, st, A2, m, c2, L, kb, ks, f, tg, rfl, HGM.out, h3, h6, (by rw [HLl.out]; exact hm12), zkb, zks, hfz, (by omega), HO2.out.base_le (by omega), HB2.out⟩
   ·go_wp2_with fail
    refine (cur_anyRow HS.out HB.out hp0 HC.out (by omega)).mono ?_; rintro e w13 ⟨rr, rfl, hrr, hc13, hg13⟩
    have s13 := hg13.size
    replace K := K.grown hg13 (fun e => by injection e with e; omega)
    replace J := J.grown hg13 (fun e => by injection e with e; omega)
    replace R := R.grown hg13 (fun e => by injection e with e; omega)
    replace Q := Q.grown hg13 (fun e => by injection e with e; omega)
    replace HO := Lib.hid (HO.out.past hg13 (by omega))
    replace HB := Lib.hid (grown_below HB.out hp0 hg13)
    replace HC := Lib.hid hc13
    clear hg13 hc13
    have carO : Hid (∀ u : World, w13.grownBy u (some (w.heap.size + 2)) → u.cell? ⟨b, 0, none⟩ = some (.string nm) ∧ u.cell? ⟨b, 1, none⟩ = some (.int .i64 (st : Int)) ∧ u.cell? ⟨b, 2, none⟩ = some (.slice A2 m c2) ∧ u.cell? ⟨d, 0, none⟩ = some (.string kb) ∧ u.cell? ⟨d, 1, none⟩ = some (.string ks)) := Lib.hid (fun u hu => by
     have L0 := K.grown hu (fun e => by injection e with e; omega)
     have L1 := J.grown hu (fun e => by injection e with e; omega)
     exact ⟨by simpa using L0.cell 0, by simpa using L0.cell 1, by simpa using L0.cell 2, by simpa using L1.cell 0, by simpa using L1.cell 1⟩)
    have C0 : w13.grownBy w13.drew (some (w.heap.size + 2)) := grown_any (Below.refl _ _).drew _
    go_upto_region 10 with fail
    refine wp_region_held_drew (S := fun u => u.cell? ⟨b, 0, none⟩ = some (.string nm) ∧ u.cell? ⟨b, 1, none⟩ = some (.int .i64 (st : Int)) ∧ u.cell? ⟨b, 2, none⟩ = some (.slice A2 m c2) ∧ u.cell? ⟨d, 0, none⟩ = some (.string kb) ∧ u.cell? ⟨d, 1, none⟩ = some (.string ks)) (by kernel_rfl) (carO.out _ C0) (fun hHeld => ?_)
    refine takeH 0 46 (v := ?_) rfl (by kernel_rfl) (by kernel_rfl) (by kernel_rfl) (fun _ _ _ h => h) (Or.inl ⟨by rfl, ?_⟩) (by assumption) ?_
    rotate_left
    ·(intro w hSw; (try dsimp only at hSw); go_simp) <;> with_reducible rfl
    (try simp only [Act.put, List.setIfInBounds_toArray, List.set_cons_zero, List.set_cons_succ])
    refine takeH 1 47 (v := ?_) rfl (by kernel_rfl) (by kernel_rfl) (by kernel_rfl) (fun _ _ _ h => h) (Or.inl ⟨by rfl, ?_⟩) (by assumption) ?_
    rotate_left
    ·(intro w hSw; (try dsimp only at hSw); go_simp) <;> with_reducible rfl
    (try simp only [Act.put, List.setIfInBounds_toArray, List.set_cons_zero, List.set_cons_succ])
    refine takeH 2 48 (v := ?_) rfl (by kernel_rfl) (by kernel_rfl) (by kernel_rfl) (fun _ _ _ h => h) (Or.inl ⟨by rfl, ?_⟩) (by assumption) ?_
    rotate_left
    ·(intro w hSw; (try dsimp only at hSw); go_simp) <;> with_reducible rfl
    (try simp only [Act.put, List.setIfInBounds_toArray, List.set_cons_zero, List.set_cons_succ])
    refine takeH 3 49 (v := ?_) rfl (by kernel_rfl) (by kernel_rfl) (by kernel_rfl) (fun _ _ _ h => h) (Or.inl ⟨by rfl, ?_⟩) (by assumption) ?_
    rotate_left
    ·(intro w hSw; (try dsimp only at hSw); go_simp) <;> with_reducible rfl
    (try simp only [Act.put, List.setIfInBounds_toArray, List.set_cons_zero, List.set_cons_succ])
    clear carO C0
    have aD : Below w13.heap.size w13 w13.drew := (Below.refl _ _).drew
    replace K := K.up aD
    replace J := J.up aD
    replace R := R.up aD
    replace Q := Q.up aD
    replace HO := Lib.hid (HO.out.up aD)
    replace HC := Lib.hid (HC.out.up aD)
    replace HB := Lib.hid (below_go HB.out aD)
    clear aD
    obtain ⟨wd, hwd⟩ : ∃ u, u = w13.drew := ⟨_, rfl⟩
    rw [← hwd] at K J R Q HO HB HC hHeld ⊢
    clear hwd
    have rc0 := R.cell 0; have rc1 := R.cell 1; have rc2 := R.cell 2
    have rf0 := R.frozen 0; have rf1 := R.frozen 1; have rf2 := R.frozen 2
    have yc0 := Q.cell 0; have yc1 := Q.cell 1
    have yf0 := Q.frozen 0; have yf1 := Q.frozen 1
    simp only [List.getElem?_cons_zero, List.getElem?_cons_succ] at rc0 rc1 rc2 yc0 yc1
    have cS : Hid (∀ u : World, Blk u b 25 [.string nm, .int .i64 (st : Int), .slice A2 m c2] → Blk u d 27 [.string kb, .string ks] → u.cell? ⟨b, 0, none⟩ = some (.string nm) ∧ u.cell? ⟨b, 1, none⟩ = some (.int .i64 (st : Int)) ∧ u.cell? ⟨b, 2, none⟩ = some (.slice A2 m c2) ∧ u.cell? ⟨d, 0, none⟩ = some (.string kb) ∧ u.cell? ⟨d, 1, none⟩ = some (.string ks)) := Lib.hid (fun u L0 L1 => ⟨by simpa using L0.cell 0, by simpa using L0.cell 1, by simpa using L0.cell 2, by simpa using L1.cell 0, by simpa using L1.cell 1⟩)
    have q1 := sets3_grown wd w.heap.size (.string nm) (.int .i64 (st : Int)) (.slice A2 m c2)
    have R1 := ((R.set_ 0 (.string nm)).set_ 1 (.int .i64 (st : Int))).set_ 2 (.slice A2 m c2)
    have Y1 := Q.grown q1 (fun e => by injection e with e; omega)
    have K1 := K.grown q1 (fun e => by injection e with e; omega)
    have J1 := J.grown q1 (fun e => by injection e with e; omega)
    have hbs := HB.out.size
    have HB1 := Lib.hid (HB.out.grown q1 hbs (fun k e => by injection e with e; omega))
    have HO1 := Lib.hid (HO.out.past q1 (by omega))
    obtain ⟨wA, hwA⟩ : ∃ u, u = ((wd.setCell ⟨w.heap.size, 0, none⟩ (.string nm)).setCell ⟨w.heap.size, 1, none⟩ (.int .i64 (st : Int))).setCell ⟨w.heap.size, 2, none⟩ (.slice A2 m c2) := ⟨_, rfl⟩
    rw [← hwA] at R1 Y1 K1 J1 HB1 HO1
    refine wpAnyH_ready (rs := [4]) (by kernel_rfl) (by simp) ?_
    refine AllReadyH.cons (o := _) rfl (fun K0 hK0 => ?_) AllReadyH.nil
    go_simp
    try rw [← hwA]
    refine hK0.out _ _ (cS.out _ K1 J1) (fun hHeld1 => ?_)
    clear hK0 K0 rc0 rc1 rc2 rf0 rf1 rf2 yc0 yc1 yf0 yf1 R Q K J hHeld hwA q1
    (try simp only [Act.put, List.setIfInBounds_toArray, List.set_cons_zero, List.set_cons_succ])
    have yc0 := Y1.cell 0; have yc1 := Y1.cell 1
    have yf0 := Y1.frozen 0; have yf1 := Y1.frozen 1
    simp only [List.getElem?_cons_zero, List.getElem?_cons_succ] at yc0 yc1
    have q2 := sets2_grown wA (w.heap.size + 1) (.string kb) (.string ks)
    have R2 := R1.grown q2 (fun e => by injection e with e; omega)
    have Y2 := (Y1.set_ 0 (.string kb)).set_ 1 (.string ks)
    have K2 := K1.grown q2 (fun e => by injection e with e; omega)
    have J2 := J1.grown q2 (fun e => by injection e with e; omega)
    have HB2 := Lib.hid (HB1.out.grown q2 HB1.out.size (fun k e => by injection e with e; omega))
    have HO2 := Lib.hid (HO1.out.past q2 (by omega))
    obtain ⟨wB, hwB⟩ : ∃ u, u = (wA.setCell ⟨w.heap.size + 1, 0, none⟩ (.string kb)).setCell ⟨w.heap.size + 1, 1, none⟩ (.string ks) := ⟨_, rfl⟩
    rw [← hwB] at R2 Y2 K2 J2 HB2 HO2
    refine wpAnyH_ready (rs := [5]) (by kernel_rfl) (by simp) ?_
    refine AllReadyH.cons (o := _) rfl (fun K0 hK0 => ?_) AllReadyH.nil
    go_simp
    try rw [← hwB]
    refine hK0.out _ _ (cS.out _ K2 J2) (fun hHeld2 => ?_)
    clear hK0 K0 yc0 yc1 yf0 yf1 hHeld1 hwB q2
    (try simp only [Act.put, List.setIfInBounds_toArray, List.set_cons_zero, List.set_cons_succ])
    refine wpAnyH_ready (rs := [6]) (by kernel_rfl) (by simp) ?_
    refine AllReadyH.cons (o := _) rfl (fun K0 hK0 => ?_) AllReadyH.nil
    go_simp
    refine hK0.out _ _ (cS.out _ K2 J2) (fun hHeld3 => ?_)
    clear hK0 K0 hHeld3
    (try simp only [Act.put, List.setIfInBounds_toArray, List.set_cons_zero, List.set_cons_succ])
    refine wpAnyH_ready (rs := [7]) (by kernel_rfl) (by simp) ?_
    refine AllReadyH.cons (o := _) rfl (fun K0 hK0 => ?_) AllReadyH.nil
    go_simp
    refine hK0.out _ _ (cS.out _ K2 J2) (fun hHeld3 => ?_)
    clear hK0 K0 hHeld3
    (try simp only [Act.put, List.setIfInBounds_toArray, List.set_cons_zero, List.set_cons_succ])
    refine wpAnyH_done (by kernel_rfl) ?_ _
    (try simp only [Act.put, List.setIfInBounds_toArray, List.set_cons_zero, List.set_cons_succ])
    have u0 := R2.cell 0; have u1 := R2.cell 1; have u2 := R2.cell 2
    have v0 := Y2.cell 0; have v1 := Y2.cell 1
    simp only [List.set_cons_zero, List.set_cons_succ, List.getElem?_cons_zero, List.getElem?_cons_succ] at u0 u1 u2 v0 v1
    clear R1 R2 Y1 Y2 K1 J1 K2 J2 HC HB1 HO1
    clear HK12
    rename_i aK
    refine aK _ _ ?_
    refine wp_ret ?_
    refine bodyPost_ret (v := .tuple #[.agg #[.string nm, .int .i64 (st : Int), .slice A2 m c2], .agg #[.string kb, .string ks], .string f, .string rr]) (by simp [results, Tryz.results35, go_sem, u0, u1, u2, v0, v1]) rfl ?_
    exact ⟨nm, st, A2, m, c2, L, kb, ks, f, rr, rfl, HGM.out, h3, h6, (by rw [HLl.out]; exact hm12), zkb, zks, hfz, (by omega), HO2.out.base_le (by omega), HB2.out⟩
end Go.Proofs.YtidolgonmimicaaGreat
namespace Go.Proofs.YtidolgonmimicaaGreat
open Go.ChangeShapes Go.WideShapes Go.ChangeAt Go.RowKit Go.Deep
abbrev Cl := Fin 3
def goW (H : Cl → ByteArray) (x : ByteArray) : List Cl → ByteArray
 | [] => x
 | c :: w => goW H (timesS x (H c)) w
theorem goW_app (H : Cl → ByteArray) : ∀ (w v : List Cl) (x : ByteArray), goW H x (w ++ v) = goW H (goW H x w) v
 | [], _, _ => rfl
 | c :: w, v, x => goW_app H w v (timesS x (H c))
theorem goW_snoc (H : Cl → ByteArray) (x : ByteArray) (w : List Cl) (c : Cl) : goW H x (w ++ [c]) = timesS (goW H x w) (H c) := goW_app H w [c] x
theorem goW_row {n : Nat} {H : Cl → ByteArray} (hH : ∀ c, RowN n (H c)) : ∀ (w : List Cl) (x : ByteArray), RowN n x → RowN n (goW H x w)
 | [], _, h => h
 | c :: w, _, h => goW_row hH w _ (h.times (hH c))
def Dist (H : Cl → ByteArray) (a : ByteArray) (i : Nat) (x : ByteArray) : Prop := (∃ w, w.length = i ∧ goW H a w = x) ∧ ∀ w, w.length < i → goW H a w ≠ x
theorem dist_some {H : Cl → ByteArray} {a x : ByteArray} : ∀ (k : Nat) (w : List Cl), w.length ≤ k → goW H a w = x → ∃ i, i ≤ w.length ∧ Dist H a i x
 | 0, w, hk, h => ⟨w.length, Nat.le_refl _, ⟨w, rfl, h⟩, fun v hv => by omega⟩
 | k + 1, w, hk, h => by
  by_cases hs : ∃ v, v.length < w.length ∧ goW H a v = x
  ·obtain ⟨v, hv, e⟩ := hs
   obtain ⟨i, hi, d⟩ := dist_some k v (by omega) e
   exact ⟨i, by omega, d⟩
  ·exact ⟨w.length, Nat.le_refl _, ⟨w, rfl, h⟩, fun v hv e => hs ⟨v, hv, e⟩⟩
def IsSet (L : List ByteArray) (p : ByteArray → Prop) : Prop := Srt L ∧ L.Nodup ∧ ∀ x, x ∈ L ↔ p x
theorem IsSet.uniq {L M : List ByteArray} {p : ByteArray → Prop} (h : IsSet L p) (g : IsSet M p) : L = M :=
 srt_unique h.1 g.1 ((List.perm_ext_iff_of_nodup h.2.1 g.2.1).2 fun x => by rw [h.2.2, g.2.2])
theorem IsSet.congr {L : List ByteArray} {p q : ByteArray → Prop} (h : IsSet L p) (e : ∀ x, p x ↔ q x) : IsSet L q := ⟨h.1, h.2.1, fun x => by rw [h.2.2, e]⟩
def Layers (H : Cl → ByteArray) (a : ByteArray) (ls : List (List ByteArray)) : Prop := ∀ (i : Nat) (L : List ByteArray), ls[i]? = some L → IsSet L (Dist H a i)
theorem layers_start (H : Cl → ByteArray) (a : ByteArray) : Layers H a [[a]] := fun i L h => by
 rcases i with _ | i
 ·injection h with h
  subst h
  refine ⟨List.pairwise_singleton _ _, List.nodup_cons.2 ⟨by simp, List.nodup_nil⟩, fun x => ?_⟩
  rw [List.mem_singleton]
  exact ⟨fun e => ⟨⟨[], rfl, e.symm⟩, fun w hw => by omega⟩, fun ⟨⟨w, hw, e⟩, _⟩ => by
   obtain rfl := List.length_eq_zero_iff.1 hw
   exact e.symm⟩
 ·simp at h
def NextP (H : Cl → ByteArray) (ls : List (List ByteArray)) (last : List ByteArray) (x : ByteArray) : Prop := (∃ r ∈ last, ∃ c, timesS r (H c) = x) ∧ ∀ L ∈ ls, x ∉ L
theorem next_iff {H : Cl → ByteArray} {a : ByteArray} {ls : List (List ByteArray)} {last : List ByteArray} (h : Layers H a ls) {i : Nat} (hi : ls.length = i + 1) (hl : ls[i]? = some last) (x : ByteArray) : NextP H ls last x ↔ Dist H a (i + 1) x := by
 have hlast := h i last hl
 constructor
 ·rintro ⟨⟨r, hr, c, rfl⟩, hno⟩
  obtain ⟨⟨w, hw, ew⟩, _⟩ := (hlast.2.2 r).1 hr
  refine ⟨⟨w ++ [c], by simp [hw], by rw [goW_snoc, ew]⟩, fun v hv e => ?_⟩
  obtain ⟨j, hj, d⟩ := dist_some v.length v (Nat.le_refl _) e
  obtain ⟨L, hL⟩ : ∃ L, ls[j]? = some L := ⟨ls[j]'(by omega), List.getElem?_eq_getElem (by omega)⟩
  exact hno L (List.mem_of_getElem? hL) (((h j L hL).2.2 _).2 d)
 ·rintro ⟨⟨w, hw, ew⟩, hmin⟩
  obtain ⟨v, c, rfl⟩ : ∃ v c, w = v ++ [c] := by
   rcases List.eq_nil_or_concat w with rfl | ⟨v, c, e⟩
   ·simp at hw
   ·exact ⟨v, c, by simpa using e⟩
  have hv : v.length = i := by simpa using hw
  rw [goW_snoc] at ew
  refine ⟨⟨goW H a v, (hlast.2.2 _).2 ⟨⟨v, hv, rfl⟩, fun u hu e => hmin (u ++ [c]) (by simp; omega) (by rw [goW_snoc, e, ew])⟩, c, ew⟩, fun L hL hx => ?_⟩
  obtain ⟨j, hj⟩ := List.getElem?_of_mem hL
  have hjl := (List.getElem?_eq_some_iff.1 hj).1
  obtain ⟨⟨u, hu, eu⟩, _⟩ := ((h j L hj).2.2 _).1 hx
  exact hmin u (by omega) eu
theorem layers_snoc {H : Cl → ByteArray} {a : ByteArray} {ls : List (List ByteArray)} {last L' : List ByteArray} (h : Layers H a ls) {i : Nat} (hi : ls.length = i + 1) (hl : ls[i]? = some last) (hL : IsSet L' (NextP H ls last)) : Layers H a (ls ++ [L']) := fun j L hj => by
 rcases Nat.lt_or_ge j ls.length with g | g
 ·rw [List.getElem?_append_left g] at hj
  exact h j L hj
 ·rw [List.getElem?_append_right g] at hj
  have hz : j - ls.length = 0 := by
   have := (List.getElem?_eq_some_iff.1 hj).1
   simp at this; omega
  rw [hz] at hj
  injection hj with hj
  subst hj
  obtain rfl : j = i + 1 := by omega
  exact hL.congr fun x => next_iff h hi hl x
def leastW (H : Cl → ByteArray) (b : ByteArray) : Nat → ByteArray → Option (List Cl)
 | 0, x => if x = b then some [] else none
 | k + 1, x => match leastW H b k (timesS x (H 0)) with
  | some w => some (0 :: w)
  | none => match leastW H b k (timesS x (H 1)) with
   | some w => some (1 :: w)
   | none => (leastW H b k (timesS x (H 2))).map (2 :: ·)
theorem leastW_leads {H : Cl → ByteArray} {b : ByteArray} : ∀ (k : Nat) (x : ByteArray) (w : List Cl), leastW H b k x = some w → w.length = k ∧ goW H x w = b
 | 0, x, w, h => by
  simp only [leastW] at h
  split at h
  ·rename_i e
   injection h with h
   subst h
   exact ⟨rfl, e⟩
  ·cases h
 | k + 1, x, w, h => by
  simp only [leastW] at h
  split at h
  ·rename_i v hv
   injection h with h
   subst h
   obtain ⟨e1, e2⟩ := leastW_leads k _ v hv
   exact ⟨by simp [e1], e2⟩
  ·split at h
   ·rename_i v hv
    injection h with h
    subst h
    obtain ⟨e1, e2⟩ := leastW_leads k _ v hv
    exact ⟨by simp [e1], e2⟩
   ·rw [Option.map_eq_some_iff] at h
    obtain ⟨v, hv, rfl⟩ := h
    obtain ⟨e1, e2⟩ := leastW_leads k _ v hv
    exact ⟨by simp [e1], e2⟩
theorem cl_cases (c : Cl) : c = 0 ∨ c = 1 ∨ c = 2 := by
 rcases c with ⟨v, hv⟩
 rcases v with _ | _ | _ | v
 ·exact Or.inl rfl
 ·exact Or.inr (Or.inl rfl)
 ·exact Or.inr (Or.inr rfl)
 ·omega
theorem leastW_some {H : Cl → ByteArray} {b : ByteArray} : ∀ (k : Nat) (x : ByteArray) (w : List Cl), w.length = k → goW H x w = b → ∃ v, leastW H b k x = some v ∧ (v = w ∨ List.Lex (· < ·) v w)
 | 0, x, w, hw, h => by
  obtain rfl := List.length_eq_zero_iff.1 hw
  exact ⟨[], by rw [leastW, if_pos (show x = b from h)], Or.inl rfl⟩
 | k + 1, x, [], hw, _ => by simp at hw
 | k + 1, x, c :: w, hw, h => by
  have hk : w.length = k := by simpa using hw
  obtain ⟨v, hv, hvw⟩ := leastW_some k (timesS x (H c)) w hk h
  simp only [leastW]
  rcases h0 : leastW H b k (timesS x (H 0)) with _ | v0
  ·rcases h1 : leastW H b k (timesS x (H 1)) with _ | v1
   ·rcases cl_cases c with rfl | rfl | rfl
    ·rw [h0] at hv; cases hv
    ·rw [h1] at hv; cases hv
    ·rw [hv]
     refine ⟨2 :: v, rfl, ?_⟩
     rcases hvw with rfl | g
     ·exact Or.inl rfl
     ·exact Or.inr (List.Lex.cons g)
   ·refine ⟨1 :: v1, rfl, ?_⟩
    rcases cl_cases c with rfl | rfl | rfl
    ·rw [h0] at hv; cases hv
    ·rw [h1] at hv
     injection hv with hv
     subst hv
     rcases hvw with rfl | g
     ·exact Or.inl rfl
     ·exact Or.inr (List.Lex.cons g)
    ·exact Or.inr (List.Lex.rel (by decide))
  ·refine ⟨0 :: v0, rfl, ?_⟩
   rcases cl_cases c with rfl | rfl | rfl
   ·rw [h0] at hv
    injection hv with hv
    subst hv
    rcases hvw with rfl | g
    ·exact Or.inl rfl
    ·exact Or.inr (List.Lex.cons g)
   ·exact Or.inr (List.Lex.rel (by decide))
   ·exact Or.inr (List.Lex.rel (by decide))
theorem dist_way {H : Cl → ByteArray} {a b : ByteArray} {i k : Nat} {x : ByteArray} (hb : Dist H a (i + k) b) (hx : Dist H a i x) {w : List Cl} (hw : w.length = k) (h : goW H x w = b) {c : Cl} {v : List Cl} (e : w = c :: v) : Dist H a (i + 1) (timesS x (H c)) := by
 subst e
 obtain ⟨⟨u, hu, eu⟩, _⟩ := hx
 refine ⟨⟨u ++ [c], by simp [hu], by rw [goW_snoc, eu]⟩, fun q hq eq => ?_⟩
 refine hb.2 (q ++ v) (by simp at hw ⊢; omega) ?_
 rw [goW_app, eq]
 exact h
end Go.Proofs.YtidolgonmimicaaGreat
namespace Go.Proofs.YtidolgonmimicaaGreat
open Go.ChangeShapes Go.WideShapes Go.ChangeAt Go.RowKit Go.Deep
abbrev Cut3 := ByteArray × Int × Int
def lB : ByteArray := ⟨#[98]⟩
def lP : ByteArray := ⟨#[112]⟩
def lS : ByteArray := ⟨#[115]⟩
def kids (p : ByteArray) : List ByteArray := [p ++ lB, p ++ lP, p ++ lS]
structure SS where
 left : Nat
 T : List ByteArray
 C : List Cut3
 ok : Bool
section
variable (cut : ByteArray → Option Cut3) (n : Nat)
def exF : Nat → SS → ByteArray → SS
 | d, s, p => match s with
  | ⟨0, T, C, _⟩ => ⟨0, T, C, false⟩
  | ⟨b + 1, T, C, ok⟩ => match cut p with
   | some c => ⟨b, T, C ++ [c], ok⟩
   | none => match d with
    | 0 => ⟨b, T ++ [p], C, ok⟩
    | d + 1 => (kids p).foldl (fun s q => exF d s q) ⟨b, T, C, ok⟩
def runF : Nat → List ByteArray → List ByteArray → List Cut3 → SS
 | 0, st, T, C => ⟨0, T, C, st.isEmpty⟩
 | b + 1, [], T, C => ⟨b + 1, T, C, true⟩
 | b + 1, p :: st, T, C => match cut p with
  | some c => runF b st T (C ++ [c])
  | none => if p.size = n then runF b st (T ++ [p]) C else runF b (kids p ++ st) T C
def treeF : Nat → ByteArray → List ByteArray × List Cut3
 | d, p => match cut p with
  | some c => ([], [c])
  | none => match d with
   | 0 => ([p], [])
   | d + 1 => (((treeF d (p ++ lB)).1 ++ ((treeF d (p ++ lP)).1 ++ (treeF d (p ++ lS)).1)), ((treeF d (p ++ lB)).2 ++ ((treeF d (p ++ lP)).2 ++ (treeF d (p ++ lS)).2)))
end
end Go.Proofs.YtidolgonmimicaaGreat
namespace Go.Proofs.YtidolgonmimicaaGreat
open Go.ChangeShapes Go.WideShapes Go.ChangeAt Go.RowKit Go.Deep
def allT : Nat → List ByteArray
 | 0 => [⟨#[]⟩]
 | n + 1 => (allT n).flatMap kids
def kidAt (p : ByteArray) (k : Nat) : ByteArray := p ++ (⟨#[98, 112, 115]⟩ : ByteArray).extract k (k + 1)
def atL (n : Nat) : List ByteArray := if inB (n : Int) 1 6 = true then allT n else []
end Go.Proofs.YtidolgonmimicaaGreat
namespace Go.Proofs.YtidolgonmimicaaGreat
open Go.ChangeShapes Go.WideShapes Go.ChangeAt Go.RowKit Go.Deep
def Pre (p t : ByteArray) : Prop := p.data.toList <+: t.data.toList
theorem Pre.refl (p : ByteArray) : Pre p p := List.prefix_refl _
theorem Pre.trans {p q t : ByteArray} (h : Pre p q) (g : Pre q t) : Pre p t := List.IsPrefix.trans h g
theorem Pre.size {p q : ByteArray} (h : Pre p q) : p.size ≤ q.size := by
 have := h.length_le
 simpa using this
theorem pre_app (p c : ByteArray) : Pre p (p ++ c) := by
 rw [Pre, ByteArray.data_append, Array.toList_append]
 exact List.prefix_append _ _
theorem Pre.eq {p q : ByteArray} (h : Pre p q) (e : q.size ≤ p.size) : p = q := by
 have h1 := h.eq_of_length_le (by simpa using e)
 cases p; cases q
 congr
 exact Array.toList_inj.1 h1
theorem Pre.of {p q t : ByteArray} (h : Pre p t) (g : Pre q t) (e : p.size ≤ q.size) : Pre p q := List.prefix_of_prefix_length_le h g (by simpa using e)
section
variable {cut : ByteArray → Option Cut3} {n : Nat}
def sumC (n : Nat) (C : List Cut3) : Nat := (C.map fun c => 3 ^ (n - c.1.size)).sum
def Apart (a b : ByteArray) : Prop := ¬ Pre a b ∧ ¬ Pre b a
theorem Apart.symm {a b : ByteArray} (h : Apart a b) : Apart b a := ⟨h.2, h.1⟩
end
end Go.Proofs.YtidolgonmimicaaGreat
namespace Go.Proofs.YtidolgonmimicaaGreat
open Go.ChangeShapes Go.WideShapes Go.ChangeAt Go.RowKit Go.Deep
section
variable {cut : ByteArray → Option Cut3} {n : Nat}
end
end Go.Proofs.YtidolgonmimicaaGreat
namespace Go.Proofs.YtidolgonmimicaaGreat
open Go.ChangeShapes Go.WideShapes Go.ChangeAt Go.RowKit Go.Deep
noncomputable def clsAt (st : Nat) (l : List ByteArray) (b s p : ByteArray) (k i : Nat) : Bool := inL (falL (leadL st l)) (timesS (turnS (hdAt st l b s p i)) (hdAt st l b s p k))
noncomputable def cutF (st : Nat) (l : List ByteArray) (b s : ByteArray) (n : Nat) (p : ByteArray) : Option Cut3 :=
 if p.size = 0 then (if nodupB (leadL st l) = true then none else some (p, 1, 0))
 else if p.size = n then (if hdAt st l b s p p.size = roundsS st then none else some (p, 3, 0))
 else Option.map (fun i : Nat => (p, 2, (i : Int))) ((List.range p.size).find? (clsAt st l b s p p.size))
def FreeH (st : Nat) (l : List ByteArray) (b s t : ByteArray) (m : Nat) : Prop := ∀ i k, i < k → k < m → clsAt st l b s t k i = false
noncomputable def freeH (st : Nat) (l : List ByteArray) (b s t : ByteArray) (m : Nat) : Bool := @decide (FreeH st l b s t m) (Classical.propDecidable _)
noncomputable def trueH (st : Nat) (l : List ByteArray) (b s t : ByteArray) : Bool := nodupB (leadL st l) && freeH st l b s t t.size
def roundT (st : Nat) (l : List ByteArray) (b s t : ByteArray) : Bool := decide (hdAt st l b s t t.size = roundsS st)
theorem pre_letter {p t : ByteArray} (h : Pre p t) {k : Nat} (hk : k < p.size) : letter t k = letter p k := by
 obtain ⟨r, hr⟩ := h
 have ht : t = p ++ ⟨r.toArray⟩ := by
  cases t; cases p
  simp only [ByteArray.ext_iff, ByteArray.data_append]
  rw [← Array.toList_inj]
  simpa using hr.symm
 subst ht
 rw [letter, letter]
 have hs := @ByteArray.extract_append p ⟨r.toArray⟩ k (k + 1)
 rw [hs]
 have h2 : (⟨r.toArray⟩ : ByteArray).extract (k - p.size) (k + 1 - p.size) = ByteArray.empty := by
  rw [show k + 1 - p.size = 0 by omega]
  apply ByteArray.ext
  simp
 rw [h2, ByteArray.append_empty]
theorem pre_hd {st : Nat} {l : List ByteArray} {b s p t : ByteArray} (h : Pre p t) : ∀ k, k ≤ p.size → hdAt st l b s t k = hdAt st l b s p k
 | 0, _ => rfl
 | k + 1, hk => by rw [hdAt, hdAt, pre_hd h k (by omega), pre_letter h (by omega)]
section
variable {st n : Nat} {l : List ByteArray} {b s p : ByteArray}
end
end Go.Proofs.YtidolgonmimicaaGreat
namespace Go.Proofs.YtidolgonmimicaaGreat
open Go.ChangeShapes Go.WideShapes Go.ChangeAt Go.RowKit Go.Deep
def clT (c : Cl) : ByteArray := if c = 0 then lB else if c = 1 then lP else lS
theorem clT_size (c : Cl) : (clT c).size = 1 := by
 rcases cl_cases c with rfl | rfl | rfl <;> rfl
def wT : List Cl → ByteArray
 | [] => ⟨#[]⟩
 | c :: w => clT c ++ wT w
theorem wT_size : ∀ w : List Cl, (wT w).size = w.length
 | [] => rfl
 | c :: w => by rw [wT, ByteArray.size_append, clT_size, wT_size w, List.length_cons]; omega
theorem wT_app : ∀ w v : List Cl, wT (w ++ v) = wT w ++ wT v
 | [], v => by
  show wT v = (⟨#[]⟩ : ByteArray) ++ wT v
  exact ByteArray.empty_append.symm
 | c :: w, v => by
  show clT c ++ wT (w ++ v) = (clT c ++ wT w) ++ wT v
  rw [wT_app w v, ByteArray.append_assoc]
theorem wT_one (c : Cl) : wT [c] = clT c := by
 show clT c ++ (⟨#[]⟩ : ByteArray) = clT c
 exact ByteArray.append_empty
theorem wT_snoc (w : List Cl) (c : Cl) : wT (w ++ [c]) = wT w ++ clT c := by rw [wT_app, wT_one]
def clV (c : Cl) : UInt8 := if c = 0 then 98 else if c = 1 then 112 else 115
theorem clT_data (c : Cl) : (clT c).data.toList = [clV c] := by
 rcases cl_cases c with rfl | rfl | rfl <;> rfl
theorem wT_data : ∀ w : List Cl, (wT w).data.toList = w.map clV
 | [] => rfl
 | c :: w => by rw [wT, ByteArray.data_append, Array.toList_append, clT_data, wT_data w]; rfl
noncomputable def clH (st : Nat) (l : List ByteArray) (kb ks : ByteArray) (c : Cl) : ByteArray := callHd st l kb ks (clT c)
theorem clH_row {st : Nat} (h3 : 3 ≤ st) (h8 : st ≤ 8) (l : List ByteArray) (kb ks : ByteArray) (c : Cl) : RowN st (clH st l kb ks c) :=
 ⟨headX_good h3 h8 l _, headX_size (by omega) l _⟩
theorem letter_app (p c : ByteArray) (hc : c.size = 1) : letter (p ++ c) p.size = c := by
 rw [letter]
 have hs := @ByteArray.extract_append p c p.size (p.size + 1)
 rw [hs, Nat.sub_self, show p.size + 1 - p.size = 1 by omega, ← hc, ByteArray.extract_zero_size]
 have : p.extract p.size (p.size + c.size) = ByteArray.empty := by
  apply ByteArray.ext
  simp
 rw [this, ByteArray.empty_append]
theorem goW_hd {st : Nat} (h3 : 3 ≤ st) (h8 : st ≤ 8) (l : List ByteArray) (kb ks : ByteArray) {a : ByteArray} (ha : RowN st a) : ∀ (n : Nat) (w : List Cl), w.length = n → timesS a (hdAt st l kb ks (wT w) n) = goW (clH st l kb ks) a w
 | 0, w, h => by
  obtain rfl := List.length_eq_zero_iff.1 h
  have := times_rounds ha.1
  rwa [ha.2] at this
 | n + 1, w, h => by
  obtain ⟨v, c, rfl⟩ : ∃ v c, w = v ++ [c] := by
   rcases List.eq_nil_or_concat w with rfl | ⟨v, c, e⟩
   ·simp at h
   ·exact ⟨v, c, by simpa using e⟩
  have hv : v.length = n := by simpa using h
  have hp : Pre (wT v) (wT (v ++ [c])) := by rw [wT_snoc]; exact pre_app _ _
  have hl : letter (wT (v ++ [c])) n = clT c := by
   have := letter_app (wT v) (clT c) (clT_size c)
   rw [wT_size, hv] at this
   rw [wT_snoc]; exact this
  have hg := hdAt_good h3 h8 l kb ks (wT v) n
  have hc := clH_row h3 h8 l kb ks c
  rw [goW_snoc, ← goW_hd h3 h8 l kb ks ha n v hv, hdAt, hl, pre_hd hp n (by rw [wT_size]; omega)]
  exact times_assoc ha.1 hg.1 hc.1 (by rw [ha.2, hg.2]) (by rw [hg.2]; exact hc.2.symm)
def freshB (ls : List (List ByteArray)) (x : ByteArray) : Bool := ls.all fun L => !inL L x
theorem fresh_iff {ls : List (List ByteArray)} {x : ByteArray} : freshB ls x = true ↔ ∀ L ∈ ls, x ∉ L := by
 rw [freshB, List.all_eq_true]
 constructor
 ·intro h L hL hx
  have := h L hL
  rw [inL_iff.2 hx] at this
  cases this
 ·intro h L hL
  rcases hi : inL L x
  ·rfl
  ·exact absurd (inL_iff.1 hi) (h L hL)
noncomputable def prodS (H : Cl → ByteArray) (last : List ByteArray) : List ByteArray := last.flatMap fun r => [timesS r (H 1), timesS r (H 0), timesS r (H 2)]
theorem prodS_mem {H : Cl → ByteArray} {last : List ByteArray} {x : ByteArray} : x ∈ prodS H last ↔ ∃ r ∈ last, ∃ c, timesS r (H c) = x := by
 rw [prodS, List.mem_flatMap]
 constructor
 ·rintro ⟨r, hr, h⟩
  simp only [List.mem_cons, List.not_mem_nil, or_false] at h
  rcases h with rfl | rfl | rfl
  ·exact ⟨r, hr, 1, rfl⟩
  ·exact ⟨r, hr, 0, rfl⟩
  ·exact ⟨r, hr, 2, rfl⟩
 ·rintro ⟨r, hr, c, rfl⟩
  refine ⟨r, hr, ?_⟩
  rcases cl_cases c with rfl | rfl | rfl <;> simp
theorem prodS_len (H : Cl → ByteArray) : ∀ last : List ByteArray, (prodS H last).length = 3 * last.length
 | [] => rfl
 | r :: last => by
  have ih := prodS_len H last
  rw [prodS] at ih ⊢
  rw [List.flatMap_cons, List.length_append, ih]
  simp
  omega
noncomputable def nextF (H : Cl → ByteArray) (ls : List (List ByteArray)) (last : List ByteArray) : List ByteArray := uniqF (((prodS H last).mergeSort leS).filter (freshB ls))
theorem uniq_set {T P : List ByteArray} {ls : List (List ByteArray)} (hs : Srt T) (hp : T.Perm P) : Srt (uniqF (T.filter (freshB ls))) ∧ (uniqF (T.filter (freshB ls))).Nodup ∧ ∀ x, x ∈ uniqF (T.filter (freshB ls)) ↔ (x ∈ P ∧ ∀ L ∈ ls, x ∉ L) := by
 obtain ⟨h1, h2, h3, _⟩ := uniqF_ok _ (T.filter (freshB ls)) rfl (List.Pairwise.filter _ hs)
 refine ⟨h1, h2, fun x => ?_⟩
 rw [h3, List.mem_filter, hp.mem_iff, fresh_iff]
theorem nextF_set (H : Cl → ByteArray) (ls : List (List ByteArray)) (last : List ByteArray) : IsSet (nextF H ls last) (NextP H ls last) := by
 obtain ⟨h1, h2, h3⟩ := uniq_set (ls := ls) (P := prodS H last) (List.pairwise_mergeSort leS_trans leS_total (prodS H last)) (List.mergeSort_perm _ leS)
 exact ⟨h1, h2, fun x => by rw [nextF, h3, prodS_mem]; rfl⟩
theorem nextF_of {H : Cl → ByteArray} {ls : List (List ByteArray)} {last T : List ByteArray} (hs : Srt T) (hp : T.Perm (prodS H last)) : nextF H ls last = uniqF (T.filter (freshB ls)) := by
 rw [nextF, srt_unique (List.pairwise_mergeSort leS_trans leS_total _) hs ((List.mergeSort_perm _ leS).trans hp.symm)]
theorem uniqF_le (l : List ByteArray) : (uniqF l).length ≤ l.length := by
 have := uniqF_len l l.length (Nat.le_refl _)
 rwa [List.take_length] at this
theorem nextF_len (H : Cl → ByteArray) (ls : List (List ByteArray)) (last : List ByteArray) : (nextF H ls last).length ≤ 3 * last.length := by
 have h1 := uniqF_le (((prodS H last).mergeSort leS).filter (freshB ls))
 have h2 := List.length_filter_le (freshB ls) ((prodS H last).mergeSort leS)
 rw [List.length_mergeSort, prodS_len] at h2
 rw [nextF]; omega
theorem nextF_row {n : Nat} {H : Cl → ByteArray} (hH : ∀ c, RowN n (H c)) {ls : List (List ByteArray)} {last : List ByteArray} (h : ∀ x ∈ last, RowN n x) : ∀ x ∈ nextF H ls last, RowN n x := fun x hx => by
 obtain ⟨⟨r, hr, c, rfl⟩, _⟩ := ((nextF_set H ls last).2.2 x).1 hx
 exact (h r hr).times (hH c)
def manyL (ls : List (List ByteArray)) : Nat := (ls.map List.length).sum
theorem manyL_snoc (ls : List (List ByteArray)) (L : List ByteArray) : manyL (ls ++ [L]) = manyL ls + L.length := by simp [manyL]
theorem manyL_at {ls : List (List ByteArray)} {L : List ByteArray} (h : L ∈ ls) : L.length ≤ manyL ls := by
 induction ls with
 | nil => cases h
 | cons a ls ih =>
  have e : manyL (a :: ls) = a.length + manyL ls := by simp [manyL]
  rcases List.mem_cons.1 h with rfl | h
  ·omega
  ·have := ih h; omega
def lastL (ls : List (List ByteArray)) : List ByteArray := ls.getD (ls.length - 1) []
theorem lastL_at {ls : List (List ByteArray)} (h : 0 < ls.length) : ls[ls.length - 1]? = some (lastL ls) := by
 rw [lastL, List.getD, List.getElem?_eq_getElem (by omega)]; rfl
theorem lastL_snoc (ls : List (List ByteArray)) (L : List ByteArray) : lastL (ls ++ [L]) = L := by simp [lastL]
noncomputable def layF (H : Cl → ByteArray) (tg : ByteArray) : Nat → List (List ByteArray) → Option (List (List ByteArray))
 | 0, _ => none
 | k + 1, ls => if manyL ls ≤ 800 then (if inL (nextF H ls (lastL ls)) tg = true then some (ls ++ [nextF H ls (lastL ls)]) else layF H tg k (ls ++ [nextF H ls (lastL ls)])) else none
theorem layF_many {H : Cl → ByteArray} {tg : ByteArray} {k : Nat} {ls : List (List ByteArray)} (h : ¬ manyL ls ≤ 800) : layF H tg k ls = none := by
 cases k with
 | zero => rfl
 | succ k => rw [layF, if_neg h]
theorem layF_has {H : Cl → ByteArray} {tg : ByteArray} {k : Nat} {ls : List (List ByteArray)} (h : manyL ls ≤ 800) (g : inL (nextF H ls (lastL ls)) tg = true) : layF H tg (k + 1) ls = some (ls ++ [nextF H ls (lastL ls)]) := by rw [layF, if_pos h, if_pos g]
theorem layF_go {H : Cl → ByteArray} {tg : ByteArray} {k : Nat} {ls : List (List ByteArray)} (h : manyL ls ≤ 800) (g : inL (nextF H ls (lastL ls)) tg = false) : layF H tg (k + 1) ls = layF H tg k (ls ++ [nextF H ls (lastL ls)]) := by rw [layF, if_pos h, if_neg (by rw [g]; simp)]
theorem layF_ok {H : Cl → ByteArray} {a tg : ByteArray} : ∀ (k : Nat) (ls M : List (List ByteArray)), Layers H a ls → 0 < ls.length → layF H tg k ls = some M → Layers H a M ∧ (∃ d, M.length = d + 1 ∧ ls.length ≤ d ∧ d + 1 ≤ ls.length + k ∧ Dist H a d tg) ∧ (∀ i, i < ls.length → M[i]? = ls[i]?) ∧ manyL M ≤ 3200
 | 0, ls, M, _, _, h => by cases h
 | k + 1, ls, M, hL, h0, h => by
  rw [layF] at h
  split at h
  ·rename_i hm
   obtain ⟨i, hi⟩ : ∃ i, ls.length = i + 1 := ⟨ls.length - 1, by omega⟩
   have hla := lastL_at h0
   rw [show ls.length - 1 = i by omega] at hla
   have hN := nextF_set H ls (lastL ls)
   have hL2 := layers_snoc hL hi hla hN
   have hlen := nextF_len H ls (lastL ls)
   have hll := manyL_at (List.mem_of_getElem? hla)
   split at h
   ·rename_i hin
    injection h with h
    subst h
    refine ⟨hL2, ⟨i + 1, by simp [hi], by omega, by omega, ?_⟩, fun j hj => List.getElem?_append_left hj, by rw [manyL_snoc]; omega⟩
    exact (next_iff hL hi hla tg).1 ((hN.2.2 tg).1 (inL_iff.1 hin))
   ·obtain ⟨q1, ⟨d, q2, q3, q4, q5⟩, q6, q7⟩ := layF_ok k _ M hL2 (by simp) h
    rw [List.length_append, List.length_singleton] at q3 q4
    refine ⟨q1, ⟨d, q2, by omega, by omega, q5⟩, fun j hj => ?_, q7⟩
    rw [q6 j (by rw [List.length_append]; omega), List.getElem?_append_left hj]
  ·cases h
theorem dist_pre {H : Cl → ByteArray} {a b : ByteArray} {d : Nat} {w v : List Cl} (h : Dist H a d b) (hw : (w ++ v).length = d) (e : goW H a (w ++ v) = b) : Dist H a w.length (goW H a w) := by
 refine ⟨⟨w, rfl, rfl⟩, fun u hu eu => ?_⟩
 refine h.2 (u ++ v) (by rw [← hw]; simp; omega) ?_
 rw [goW_app, eu, ← goW_app, e]
theorem layers_full {H : Cl → ByteArray} {a b : ByteArray} {M : List (List ByteArray)} {d : Nat} (hL : Layers H a M) (hM : M.length = d + 1) (hb : Dist H a d b) {i : Nat} {L : List ByteArray} (hi : M[i]? = some L) : 0 < L.length := by
 have hil := (List.getElem?_eq_some_iff.1 hi).1
 obtain ⟨w, hw, e⟩ := hb.1
 have h1 : w.take i ++ w.drop i = w := List.take_append_drop _ _
 have h2 := dist_pre (w := w.take i) (v := w.drop i) hb (by rw [h1]; exact hw) (by rw [h1]; exact e)
 rw [List.length_take, show min i w.length = i by omega] at h2
 have h3 := ((hL i L hi).2.2 _).2 h2
 exact List.length_pos_of_mem h3
noncomputable def layR (H : Cl → ByteArray) (a tg : ByteArray) : Option (List (List ByteArray)) := layF H tg 8 [[a]]
theorem layR_ok {H : Cl → ByteArray} {a tg : ByteArray} {M : List (List ByteArray)} (h : layR H a tg = some M) : Layers H a M ∧ (∃ d, M.length = d + 1 ∧ 1 ≤ d ∧ d ≤ 8 ∧ Dist H a d tg) ∧ M[0]? = some [a] ∧ manyL M ≤ 3200 := by
 obtain ⟨h1, ⟨d, h2, h3, h4, h5⟩, h6, h7⟩ := layF_ok 8 [[a]] M (layers_start H a) (by simp) h
 simp only [List.length_singleton] at h3 h4
 exact ⟨h1, ⟨d, h2, h3, by omega, h5⟩, h6 0 (by simp), h7⟩
noncomputable def repW (H : Cl → ByteArray) (a tg : ByteArray) : Option (List Cl) := (layR H a tg).bind fun M => leastW H tg (M.length - 1) a
theorem repW_some {H : Cl → ByteArray} {a tg : ByteArray} {M : List (List ByteArray)} (h : layR H a tg = some M) : ∃ w, repW H a tg = some w ∧ leastW H tg (M.length - 1) a = some w ∧ w.length + 1 = M.length ∧ goW H a w = tg ∧ Dist H a w.length tg := by
 obtain ⟨_, ⟨d, h2, h3, h4, h5⟩, _⟩ := layR_ok h
 obtain ⟨u, hu, eu⟩ := h5.1
 obtain ⟨w, hw, _⟩ := leastW_some (H := H) (b := tg) d a u hu eu
 have hd : M.length - 1 = d := by omega
 obtain ⟨e1, e2⟩ := leastW_leads d a w hw
 refine ⟨w, ?_, by rw [hd]; exact hw, by omega, e2, by rw [e1]; exact h5⟩
 rw [repW, h, Option.bind_some, hd, hw]
theorem repW_none {H : Cl → ByteArray} {a tg : ByteArray} (h : layR H a tg = none) : repW H a tg = none := by rw [repW, h]; rfl
end Go.Proofs.YtidolgonmimicaaGreat
namespace Go.Proofs.YtidolgonmimicaaGreat
open Go.ChangeShapes Go.WideShapes Go.ChangeAt Go.RowKit Go.Deep
theorem Tryz.elStrs : ElemOk Tryz.prog 64 23 (.slice none 0 0) 1 24 := ⟨Tryz.underlying64, by kernel_rfl, rfl, by decide⟩
def TabS (w : World) (A : Option Addr) (n : Nat) (M : List (List ByteArray)) : Prop := ∃ vs : List Hd, vs.length = n ∧ M.length = n ∧ Recs slcE 1 w A vs ∧ ∀ (k : Nat) (v : Hd) (r : List ByteArray), vs[k]? = some v → M[k]? = some r → v.2.1 = r.length ∧ Strs w v.1 r
section
variable {w w' : World} {A : Option Addr} {n : Nat} {M : List (List ByteArray)}
theorem TabS.up (h : TabS w A n M) (hb : Below w.heap.size w w') : TabS w' A n M := by
 obtain ⟨vs, h1, h2, h3, h4⟩ := h
 exact ⟨vs, h1, h2, h3.up hb, fun k v r hv hr => ⟨(h4 k v r hv hr).1, (h4 k v r hv hr).2.up hb⟩⟩
theorem TabS.len (h : TabS w A n M) : M.length = n := by
 obtain ⟨vs, h1, h2, _⟩ := h
 exact h2
theorem TabS.row {k : Nat} (h : TabS w A n M) (hk : k < n) : ∃ b off B m d r, A = some ⟨b, off, none⟩ ∧ b < w.heap.size ∧ w.cell? ⟨b, off + k, none⟩ = some (.slice B m d) ∧ M[k]? = some r ∧ r.length = m ∧ Strs w B r := by
 obtain ⟨vs, h1, h2, h3, h4⟩ := h
 obtain ⟨b, off, v, hA, hb, hv, hc⟩ := h3.at_slc (k := k) (by omega)
 obtain ⟨r, hr⟩ := some_of_lt (l := M) (k := k) (by omega)
 obtain ⟨q1, q2⟩ := h4 k v r hv hr
 exact ⟨b, off, v.1, v.2.1, v.2.2, r, hA, hb, hc, hr, q1.symm, q2⟩
theorem TabS.nil (w : World) (A : Option Addr) : TabS w A 0 [] := ⟨[], rfl, rfl, ⟨slcE_len, Rd.none_ _ _ _⟩, fun k v r hv _ => by simp at hv⟩
theorem take_recs {α : Type} {e : α → List Value} {s : Nat} {l : List α} (h : Recs e s w A l) (m : Nat) : Recs e s w A (l.take m) := by
 refine ⟨h.1, by rw [flatMap_len h.1], fun hn => ?_⟩
 have h0 : 0 < l.length := by rw [List.length_take] at hn; omega
 obtain ⟨b, off, hA, hb, hc⟩ := h.2.2 h0
 refine ⟨b, off, hA, hb, fun j u hu => hc j u ?_⟩
 have e1 : l.flatMap e = (l.take m).flatMap e ++ (l.drop m).flatMap e := by rw [← List.flatMap_append, List.take_append_drop]
 rw [e1, List.getElem?_append_left (List.getElem?_eq_some_iff.1 hu).1]
 exact hu
theorem Recs.gr {α : Type} {e : α → List Value} {s : Nat} {l : List α} {row : Option Nat} (h : Recs e s w A l) (hg : w.grownBy w' row) (hne : ∀ a, A = some a → row ≠ some a.block) : Recs e s w' A l := by
 refine ⟨h.1, h.2.1, fun hn => ?_⟩
 obtain ⟨b, off, e, hlt, hc⟩ := h.2.2 hn
 have hb : row ≠ some b := hne _ e
 exact ⟨b, off, e, Nat.lt_of_lt_of_le hlt hg.size, fun j u hu => (hg.cell_far ⟨b, off + j, none⟩ hlt (fun q => hb q.symm)).trans (hc j u hu)⟩
theorem TabS.take (h : TabS w A n M) {i : Nat} (hi : i ≤ n) : TabS w A i (M.take i) := by
 obtain ⟨vs, h1, h2, h3, h4⟩ := h
 refine ⟨vs.take i, by rw [List.length_take]; omega, by rw [List.length_take]; omega, take_recs h3 i, fun k v r hv hr => ?_⟩
 have hk : k < i := by
  have := (List.getElem?_eq_some_iff.1 hv).1
  rw [List.length_take] at this; omega
 rw [List.getElem?_take_of_lt hk] at hv hr
 exact h4 k v r hv hr
end
structure TabT (w : World) (base : Nat) (A : Option Addr) (n c : Nat) (vs : List Hd) (M : List (List ByteArray)) : Prop where
 top : Owned slcE 1 23 w base A n c vs
 len : vs.length = M.length
 row : ∀ (k : Nat) (v : Hd) (r : List ByteArray), vs[k]? = some v → M[k]? = some r → Owned strE 1 9 w base v.1 v.2.1 v.2.2 r
section
variable {w w' : World} {base : Nat} {A : Option Addr} {n c : Nat} {vs : List Hd} {M : List (List ByteArray)}
theorem TabT.up (h : TabT w base A n c vs M) (hb : Below w.heap.size w w') : TabT w' base A n c vs M := ⟨h.top.up hb, h.len, fun k v r hv hr => (h.row k v r hv hr).up hb⟩
theorem TabT.base_le {base' : Nat} (h : TabT w base A n c vs M) (hb : base' ≤ base) : TabT w base' A n c vs M := ⟨h.top.base_le hb, h.len, fun k v r hv hr => (h.row k v r hv hr).base_le hb⟩
theorem TabT.nlen (h : TabT w base A n c vs M) : M.length = n := by rw [← h.len, h.top.len]
theorem TabT.nil (w : World) (base : Nat) : TabT w base none 0 0 [] [] := ⟨Owned.nil slcE_len _ _ _, rfl, fun k v r hv _ => by simp at hv⟩
theorem TabT.tab (h : TabT w base A n c vs M) : TabS w A n M := ⟨vs, h.top.len, h.nlen, h.top.recs, fun k v r hv hr => ⟨(h.row k v r hv hr).len.symm, (h.row k v r hv hr).recs⟩⟩
theorem TabT.past {g : Nat} (h : TabT w base A n c vs M) (hg : w.grownBy w' (some g)) (hlt : g < base) : TabT w' base A n c vs M := ⟨h.top.past hg hlt, h.len, fun k v r hv hr => (h.row k v r hv hr).past hg hlt⟩
theorem TabT.app {A' : Option Addr} {c' : Nat} {v : Hd} {r : List ByteArray} (h : TabT w base A n c vs M) (ht : Owned slcE 1 23 w' base A' (n + 1) c' (vs ++ [v])) (hg : w.grownBy w' (Value.slice A n c).ownBlock) (hr : Owned strE 1 9 w base v.1 v.2.1 v.2.2 r) (hE : (23 : TypeId) ≠ 9) : TabT w' base A' (n + 1) c' (vs ++ [v]) (M ++ [r]) := by
 refine ⟨ht, by simp [h.len], fun k u x hu hx => ?_⟩
 have keep : ∀ {y : Hd} {q : List ByteArray}, Owned strE 1 9 w base y.1 y.2.1 y.2.2 q → Owned strE 1 9 w' base y.1 y.2.1 y.2.2 q := fun hy => hy.kept hg (fun k hk e => h.top.ne hy hE k e hk)
 rcases Nat.lt_or_ge k vs.length with q | q
 ·rw [List.getElem?_append_left q] at hu
  rw [List.getElem?_append_left (by rw [← h.len]; exact q)] at hx
  exact keep (h.row k u x hu hx)
 ·rw [List.getElem?_append_right q] at hu
  rw [List.getElem?_append_right (by rw [← h.len]; exact q)] at hx
  have hk0 : k - vs.length = 0 := by
   have := (List.getElem?_eq_some_iff.1 hu).1
   simp at this; omega
  rw [← h.len, hk0] at hx
  rw [hk0] at hu
  simp at hu hx
  subst hu hx
  exact keep hr
end
end Go.Proofs.YtidolgonmimicaaGreat
namespace Go.Proofs.YtidolgonmimicaaGreat
open Go.ChangeShapes Go.WideShapes Go.ChangeAt Go.RowKit Go.Deep
noncomputable def hd3 (H : Cl → ByteArray) (r : ByteArray) : List ByteArray := [timesS r (H 1), timesS r (H 0), timesS r (H 2)]
theorem prodS_succ {H : Cl → ByteArray} {L : List ByteArray} {k : Nat} {r : ByteArray} (h : L[k]? = some r) : prodS H (L.take (k + 1)) = prodS H (L.take k) ++ hd3 H r := by
 rw [List.take_add_one, h, prodS, prodS, List.flatMap_append]
 simp [hd3]
theorem lit3 {j : Nat} (hj : j < 3) : ∃ c : Cl, ([⟨#[112]⟩, ⟨#[98]⟩, ⟨#[115]⟩] : List ByteArray)[j]? = some (clT c) ∧ ∀ (H : Cl → ByteArray) (r : ByteArray), (hd3 H r).take (j + 1) = (hd3 H r).take j ++ [timesS r (H c)] := by
 rcases j with _ | _ | _ | j
 ·exact ⟨1, rfl, fun H r => rfl⟩
 ·exact ⟨0, rfl, fun H r => rfl⟩
 ·exact ⟨2, rfl, fun H r => rfl⟩
 ·omega
noncomputable def keepF (ls : List (List ByteArray)) (T : List ByteArray) (j : Nat) : List ByteArray := uniqF ((T.take j).filter (freshB ls))
theorem keepF_no {ls : List (List ByteArray)} {T : List ByteArray} {j : Nat} {y : ByteArray} (h : T[j]? = some y) (hf : freshB ls y = false) : keepF ls T (j + 1) = keepF ls T j := by
 rw [keepF, keepF, List.take_add_one, h, List.filter_append]
 simp [hf]
theorem keepF_yes {ls : List (List ByteArray)} {T : List ByteArray} {j : Nat} {y : ByteArray} (h : T[j]? = some y) (hf : freshB ls y = true) : keepF ls T (j + 1) = uniqStep (keepF ls T j) y := by
 rw [keepF, keepF, List.take_add_one, h, List.filter_append]
 have : List.filter (freshB ls) (some y).toList = [y] := by simp [hf]
 rw [this, uniqF_snoc]
theorem keepF_same {ls : List (List ByteArray)} {T : List ByteArray} {j : Nat} {y : ByteArray} (h : T[j]? = some y) (hl : (keepF ls T j).getLast? = some y) : keepF ls T (j + 1) = keepF ls T j := by
 rcases hf : freshB ls y
 ·exact keepF_no h hf
 ·rw [keepF_yes h hf, uniqStep, if_pos hl]
theorem keepF_new {ls : List (List ByteArray)} {T : List ByteArray} {j : Nat} {y : ByteArray} (h : T[j]? = some y) (hf : freshB ls y = true) (hl : (keepF ls T j).getLast? ≠ some y) : keepF ls T (j + 1) = keepF ls T j ++ [y] := by
 rw [keepF_yes h hf, uniqStep, if_neg hl]
theorem keepF_len (ls : List (List ByteArray)) (T : List ByteArray) (j : Nat) : (keepF ls T j).length ≤ j := by
 have h1 := uniqF_le ((T.take j).filter (freshB ls))
 have h2 := List.length_filter_le (freshB ls) (T.take j)
 rw [List.length_take] at h2
 rw [keepF]; omega
def seenB (ls : List (List ByteArray)) (x : ByteArray) (j : Nat) : Bool := (ls.take j).any fun L => inL L x
theorem seenB_succ {ls : List (List ByteArray)} {x : ByteArray} {j : Nat} {L : List ByteArray} (h : ls[j]? = some L) : seenB ls x (j + 1) = (seenB ls x j || inL L x) := by
 rw [seenB, seenB, List.take_add_one, h, List.any_append]; simp
theorem seenB_all (ls : List (List ByteArray)) (x : ByteArray) : seenB ls x ls.length = !freshB ls x := by
 rw [seenB, List.take_length, freshB]
 induction ls with
 | nil => rfl
 | cons a ls ih => simp only [List.any_cons, List.all_cons, ih]; cases inL a x <;> simp
set_option maxHeartbeats 4000000 in
set_option maxRecDepth 100000 in
theorem spec_l15Next {A : Option Addr} {n c st : Nat} {nm : ByteArray} {l : List ByteArray} {kb ks : ByteArray} {B : Option Addr} {N d : Nat} {M : List (List ByteArray)} {w : World} (hn : l.length = n) (h : Strs w A l) (hk : goodK nm (st : Int) l kb ks = true) (hcap : n ≤ c) (hT : TabS w B N M) (h1 : 1 ≤ N) (hN : N ≤ 100) (hz : (lastL M).length ≤ 5000) (hrow : ∀ x ∈ lastL M, RowN st x) (hall : ∀ r ∈ M, r.length ≤ 16777216) :
  Calls Tryz.prog 147 #[.agg #[.string nm, .int .i64 st, .slice A n c], .agg #[.string kb, .string ks], .slice B N d] w fun e w' => ∃ A' m c', e = .returned (.slice A' m c') ∧ Owned strE 1 9 w' w.heap.size A' m c' (nextF (clH st l kb ks) M (lastL M)) ∧ m ≤ 3 * (lastL M).length ∧ Below w.heap.size w w' := by
 have b0 : Below w.heap.size w ((w.alloc (.cells ⟨[.string nm, .int .i64 st, .slice A n c]⟩ 25)).alloc (.cells ⟨[.string kb, .string ks]⟩ 27)) := by (repeat' (first | (with_reducible exact Below.refl _ _) | (with_reducible assumption) | (with_reducible refine below_drewN ?_ _) | (with_reducible refine Below.drew ?_) | (with_reducible refine below_alloc ?_ _) | (with_reducible refine Below.alloc ?_ ?_ _) | (with_reducible refine Below.setCell ?_ ?_ _) | (with_reducible refine below_go ?_ (by with_reducible assumption)) | (with_reducible refine below_then (by with_reducible assumption) ?_ ?_) | go_size))
 have K0 := (Blk.at_ w 25 [.string nm, .int .i64 st, .slice A n c] (b := w.heap.size) rfl).alloc (.cells ⟨[.string kb, .string ks]⟩ 27)
 have K1 := Blk.at_ (w.alloc (.cells ⟨[.string nm, .int .i64 st, .slice A n c]⟩ 25)) 27 [.string kb, .string ks] (b := w.heap.size + 1) (by simp)
 have h8 := (goodK_all hk).1
 have HH := Lib.hid (h.up b0)
 have HTB := Lib.hid (hT.up b0)
 have HK := Lib.hid hk
 have HR := Lib.hid hrow
 have HC := Lib.hid (clH_row h8.1 h8.2 l kb ks)
 have HALL := Lib.hid hall
 have HCH : Hid (∀ c : Cl, callHd st l kb ks (clT c) = clH st l kb ks c) := Lib.hid (fun _ => rfl)
 have hla := Lib.hid (lastL_at (ls := M) (by rw [HTB.out.len]; omega))
 rw [HTB.out.len] at hla
 obtain ⟨H, hH⟩ : ∃ u, u = clH st l kb ks := ⟨_, rfl⟩
 obtain ⟨L, hL⟩ : ∃ u, u = lastL M := ⟨_, rfl⟩
 have HNX : Hid (∀ T : List ByteArray, Srt T → T.Perm (prodS H L) → nextF H M L = uniqF (T.filter (freshB M))) := Lib.hid (fun T hs hp => nextF_of hs hp)
 rw [← hH] at HC HCH ⊢
 rw [← hL] at HR hla hz ⊢
 have HMN := Lib.hid hn
 have HTL := Lib.hid HTB.out.len
 clear h hT hrow hall hH hk hL hn
 go_in
 go_upto_region 2 with fail
 obtain ⟨w0, hw0⟩ : ∃ u, u = ((w.alloc (.cells #[.string nm, .int .i64 st, .slice A n c] 25)).alloc (.cells #[.string kb, .string ks] 27)) := ⟨_, rfl⟩
 rw [← hw0] at b0 K0 K1 HH HTB ⊢
 clear hw0
 have HB0 := Lib.hid b0
 obtain ⟨b, off, BL, mL, dL, r0, rfl, hbw, hcell, hr0, hr0l, hrs⟩ := HTB.out.row (k := N - 1) (by omega)
 have er : r0 = L := by rw [hla.out] at hr0; injection hr0 with hr0; exact hr0.symm
 rw [er] at hr0l hrs
 clear er hr0
 have HRS := Lib.hid hrs
 have HLl := Lib.hid hr0l
 have hmz : mL ≤ 5000 := by omega
 have hw1 : IntKind.i64.wrap ((N : Int) - 1) = ((N - 1 : Nat) : Int) := by rw [wrap_id (by omega)]; omega
 have hi1 : ((N - 1 : Nat) : Int) < (N : Int) := by omega
 have HNN := Lib.hid h1
 have car : Hid (∀ u : World, Below w0.heap.size w0 u → (u.cell? ⟨w.heap.size, 0, none⟩ = some (.string nm) ∧ u.cell? ⟨w.heap.size, 1, none⟩ = some (.int .i64 st) ∧ u.cell? ⟨w.heap.size, 2, none⟩ = some (.slice A n c)) ∧ u.cell? ⟨w.heap.size + 1, 0, none⟩ = some (.string kb) ∧ u.cell? ⟨w.heap.size + 1, 1, none⟩ = some (.string ks)) := Lib.hid (fun u hu => by
  have L0 := K0.up hu; have L1 := K1.up hu
  exact ⟨⟨by simpa using L0.cell 0, by simpa using L0.cell 1, by simpa using L0.cell 2⟩, by simpa using L1.cell 0, by simpa using L1.cell 1⟩)
 clear K0 K1 hrs hla hr0l hz h1 b0
 go_wp2
 clear hcell hw1 hi1
 go_loopw [7, 25] (fun v i wr => ∃ (k : Nat) (A' : Option Addr) (c' : Nat), k ≤ mL ∧ i = .int .i64 k ∧ v = .slice A' (3 * k) c' ∧ Hid (Owned strE 1 9 wr w0.heap.size A' (3 * k) c' (prodS H (L.take k))) ∧ Hid (Below w0.heap.size w0 wr)) (fun _ i _ => mL - (intOf i).toNat)
 case atStart => exact ⟨0, none, 0, Nat.zero_le _, rfl, rfl, Lib.hid (Owned.nil strE_len _ _ _), Lib.hid (Below.refl _ _)⟩
 case round =>
  obtain ⟨k, A3, c3, hk, rfl, rfl, HO, HB⟩ := hrel
  rename World => wo
  by_cases hlt : k < mL
  ·obtain ⟨b2, o2, r, hBL, _, hr, hcr⟩ := (HRS.out.up HB.out).at_str (k := k) (by rw [HLl.out]; exact hlt)
   subst hBL
   have hrN := Lib.hid (HR.out r (List.mem_of_getElem? hr))
   have HPS := Lib.hid (prodS_succ (H := H) hr)
   have hI : (k : Int) < (mL : Int) := by omega
   have hrz : r.size ≤ 16777216 := by have := hrN.out.2; omega
   have HLT := Lib.hid (lit_strs2 wo 9 [⟨#[112]⟩, ⟨#[98]⟩, ⟨#[115]⟩])
   have aL : Below wo.heap.size wo (wo.alloc (.cells #[.string ⟨#[112]⟩, .string ⟨#[98]⟩, .string ⟨#[115]⟩] 9)) := by (repeat' (first | (with_reducible exact Below.refl _ _) | (with_reducible assumption) | (with_reducible refine below_drewN ?_ _) | (with_reducible refine Below.drew ?_) | (with_reducible refine below_alloc ?_ _) | (with_reducible refine Below.alloc ?_ ?_ _) | (with_reducible refine Below.setCell ?_ ?_ _) | (with_reducible refine below_go ?_ (by with_reducible assumption)) | (with_reducible refine below_then (by with_reducible assumption) ?_ ?_) | go_size))
   have HOL := Lib.hid (HO.out.up aL)
   have HBL := Lib.hid (below_go HB.out aL)
   clear hr
   go_upto_region 6 with fail
   clear hcr aL
   change Hid (Strs (wo.alloc (.cells #[.string ⟨#[112]⟩, .string ⟨#[98]⟩, .string ⟨#[115]⟩] 9)) (some ⟨wo.heap.size, 0, none⟩) [⟨#[112]⟩, ⟨#[98]⟩, ⟨#[115]⟩]) at HLT
   obtain ⟨wl, hwl⟩ : ∃ u, u = wo.alloc (.cells #[.string ⟨#[112]⟩, .string ⟨#[98]⟩, .string ⟨#[115]⟩] 9) := ⟨_, rfl⟩
   rw [← hwl] at HLT HOL HBL ⊢
   obtain ⟨qb, hqb⟩ : ∃ u, u = wo.heap.size := ⟨_, rfl⟩
   rw [← hqb] at HLT ⊢
   have HQ0 : Hid (∀ z, (Value.slice A3 (3 * k) c3).ownBlock = some z → z ≠ qb) := Lib.hid (fun z hz => by have := (HO.out.blk hz).2; omega)
   have hqz : qb < wl.heap.size := by rw [hwl]; simp; omega
   clear hwl hqb HO HB
   go_wp2
   go_loopw [7, 31] (fun v i wr => ∃ (j : Nat) (A' : Option Addr) (c' : Nat), j ≤ 3 ∧ i = .int .i64 j ∧ v = .slice A' (3 * k + j) c' ∧ Hid (Owned strE 1 9 wr w0.heap.size A' (3 * k + j) c' (prodS H (L.take k) ++ (hd3 H r).take j)) ∧ Hid (Below w0.heap.size w0 wr) ∧ Hid (Strs wr (some ⟨qb, 0, none⟩) [⟨#[112]⟩, ⟨#[98]⟩, ⟨#[115]⟩]) ∧ Hid (∀ z, (Value.slice A' (3 * k + j) c').ownBlock = some z → z ≠ qb) ∧ qb < wr.heap.size) (fun _ i _ => 3 - (intOf i).toNat)
   case atStart => exact ⟨0, A3, c3, by omega, rfl, rfl, Lib.hid (by rw [List.take_zero, List.append_nil]; exact HOL.out), HBL, HLT, HQ0, hqz⟩
   case round =>
    obtain ⟨j, A4, c4, hj, rfl, rfl, HOQ, HBQ, HLT, HQ0, hqz⟩ := hrel
    rename World => wq
    by_cases hjt : j < 3
    ·obtain ⟨b3, o3, x, hA3, _, hx, hcx⟩ := HLT.out.at_str (k := j) (by exact hjt)
     injection hA3 with hA3
     injection hA3 with e1 e2 _
     subst e1 e2
     rw [Nat.zero_add] at hcx
     obtain ⟨cl, hcl, hht⟩ := lit3 hjt
     rw [hcl] at hx
     injection hx with hx
     subst hx
     have HHT := Lib.hid (hht H r)
     have hJ : (j : Int) < 3 := by omega
     obtain ⟨⟨q0, q1, q2⟩, q3, q4⟩ := car.out _ HBQ.out
     have HHQ := Lib.hid (HH.out.up HBQ.out)
     have hcN := Lib.hid (HC.out cl)
     have hft := Lib.hid (rowN_fits hrN.out hcN.out)
     have hcz : (H cl).size ≤ 16777216 := by have := hcN.out.2; omega
     clear hcl hht
     go_wp2_with fail
     clear q0 q1 q2 q3 q4 hcx
     refine (spec_l8Head (nm := nm) (s := clT cl) HMN.out HHQ.out HK.out hcap).mono ?_; rw [HCH.out]; rintro e w5 ⟨rfl, hb5⟩
     have HB5 := Lib.hid (below_go HBQ.out hb5)
     have HL5 := Lib.hid (HLT.out.up hb5)
     have HO5 := Lib.hid (HOQ.out.up hb5)
     have hsz5 := HB5.out.size
     have hqz5 : qb < w5.heap.size := by have := hb5.size; omega
     clear hb5 HHQ
     obtain ⟨hc, hhc⟩ : ∃ u, u = H cl := ⟨_, rfl⟩
     rw [← hhc] at hcz hft HHT ⊢
     clear hhc
     go_wp2_with fail
     refine (spec_l1Times hrz hcz hft.out).mono ?_; rintro e w' ⟨rfl, rfl⟩
     obtain ⟨z, hz⟩ : ∃ u, u = timesS r hc := ⟨_, rfl⟩
     rw [← hz] at HHT ⊢
     clear hz
     go_wp2_with (first | (at_builtin; go_must ((refine wpList_append_recs Tryz.elStr strE_one rfl (.tmp 35) (.tmp 42) rfl rfl (HO5.out.alloc _) rfl (own_lit1_at' strE_len _ 9 z rfl (Nat.le_refl _)).recs rfl ?_ (by decide) ?_ ?_; (focus (first | omega | (simp only [World.size_alloc]; done) | (simp only [World.size_alloc]; omega) | (simp; done) | (simp; omega))); (focus (first | omega | (simp only [World.size_alloc]; done) | (simp only [World.size_alloc]; omega) | (simp; done) | (simp; omega))); intro A6 c6 w6 ho6 hg6 hl6; have gb6 := grown_base hg6 (by simp; omega) (fun z hz => (HO5.out.range z hz).1); have HB6 : Hid (Below w0.heap.size w0 w6) := Lib.hid ((HB5.out.alloc hsz5 _).trans gb6); have HL6 := Lib.hid ((HL5.out.alloc _).gr hg6 (fun a ea e => by injection ea with ea; subst ea; exact HQ0.out _ e rfl)); have HQ6 : Hid (∀ z, (Value.slice A6 (3 * k + j + 1) c6).ownBlock = some z → z ≠ qb) := Lib.hid (fun z hz => (hl6 z hz).elim (fun q => HQ0.out z q) (fun q => by simp at q; omega)); have hqz6 : qb < w6.heap.size := (by have := hg6.size; simp at this; omega); have HO6 := Lib.hid ho6; clear gb6 ho6 hg6 hl6))))
     go_roundw
     case rel => exact ⟨j + 1, A6, c6, by omega, by go_num, rfl, Lib.hid (by rw [HHT.out, ← List.append_assoc]; exact HO6.out), HB6, HL6, HQ6, hqz6⟩
     case measure => simp [intOf]; omega
    ·obtain rfl : j = 3 := by omega
     have hJ : ¬ ((3 : Nat) : Int) < 3 := by omega
     go_wp2
     go_roundw
     case rel => exact ⟨k + 1, A4, c4, by omega, by go_num, rfl, Lib.hid (by rw [HPS.out]; exact HOQ.out), HBQ⟩
     case measure => simp [intOf]; omega
  ·obtain rfl : k = mL := by omega
   have hI : ¬ (k : Int) < (k : Int) := by omega
   have HPA : Hid (L.take k = L) := Lib.hid (List.take_of_length_le (by rw [HLl.out]; exact Nat.le_refl _))
   have HO2 : Hid (Owned strE 1 9 wo w0.heap.size A3 (3 * k) c3 (prodS H L)) := Lib.hid (by have := HO.out; rwa [HPA.out] at this)
   have HPZ : Hid (∀ s ∈ prodS H L, RowN st s) := Lib.hid (fun s hs => by
    obtain ⟨r, hr, q, rfl⟩ := prodS_mem.1 hs
    exact (HR.out r hr).times (HC.out q))
   clear HO HPA
   go_wp2_with fail
   refine (spec_l6Sort (3 * k) A3 c3 (prodS H L) wo HO2.out.len HO2.out.recs (by omega) (fun s hs => by have := (HPZ.out s hs).2; omega)).mono ?_; rintro e w7 ⟨A7, c7, T, rfl, ho7, hp7, hs7, hb7⟩
   have HTS := Lib.hid (HNX.out T hs7 hp7)
   have B7 := Lib.hid (below_go HB.out hb7)
   have R7 := Lib.hid ho7.recs
   have HTL2 := Lib.hid ho7.len
   have HTZ : Hid (∀ s ∈ T, s.size ≤ 16777216) := Lib.hid (fun s hs => by have := (HPZ.out s (hp7.mem_iff.1 hs)).2; omega)
   have HUL := Lib.hid (keepF_len M T)
   have HTB7 := Lib.hid (HTB.out.up B7.out)
   clear ho7 hp7 hs7 hb7 HO2 HPZ HB
   obtain ⟨tz, htz⟩ : ∃ u, u = 3 * k := ⟨_, rfl⟩
   have htz2 : tz ≤ 15000 := by omega
   rw [← htz] at HTL2 ⊢
   have HTZE := Lib.hid htz
   clear htz
   go_wp2
   go_loopw [12, 49] (fun v i wr => ∃ (j q : Nat) (A' : Option Addr) (c' : Nat), j ≤ tz ∧ i = .int .i64 j ∧ v = .slice A' q c' ∧ q ≤ j ∧ Hid (Owned strE 1 9 wr w7.heap.size A' q c' (keepF M T j)) ∧ Hid (Below w7.heap.size w7 wr)) (fun _ i _ => tz - (intOf i).toNat)
   case atStart => exact ⟨0, 0, none, 0, Nat.zero_le _, rfl, rfl, Nat.le_refl _, Lib.hid (Owned.nil strE_len _ _ _), Lib.hid (Below.refl _ _)⟩
   case round =>
    obtain ⟨j, q, A8, c8, hj, rfl, rfl, hqj, HO, HB8⟩ := hrel
    rename World => wt
    have hszr := HB8.out.size
    have HOL := Lib.hid HO.out.len
    by_cases hjt : j < tz
    ·have hJ : (j : Int) < (tz : Int) := by omega
     obtain ⟨b4, o4, y, hA7, _, hy, hcy⟩ := (R7.out.up HB8.out).at_str (k := j) (by rw [HTL2.out]; exact hjt)
     subst hA7
     have HY := Lib.hid hy
     have hyz := HTZ.out y (List.mem_of_getElem? hy)
     clear hy
     obtain ⟨b0s, hb0s⟩ : ∃ u, u = decide ((keepF M T j).getLast? = some y) := ⟨_, rfl⟩
     have HLAST := Lib.hid hb0s
     clear hb0s
     have HAPP : Hid (b0s = false → freshB M y = true → keepF M T (j + 1) = keepF M T j ++ [y]) := Lib.hid (fun h1 h2 => keepF_new HY.out h2 (by have := HLAST.out; rw [h1] at this; exact of_decide_eq_false this.symm))
     have HSAM : Hid (b0s = true → keepF M T (j + 1) = keepF M T j) := Lib.hid (fun h1 => keepF_same HY.out (by have := HLAST.out; rw [h1] at this; exact of_decide_eq_true this.symm))
     have HNO : Hid (freshB M y = false → keepF M T (j + 1) = keepF M T j) := Lib.hid (fun h1 => keepF_no HY.out h1)
     have HSN : Hid (seenB M y N = !freshB M y) := Lib.hid (by have := seenB_all M y; rwa [HTL.out] at this)
     have HNN2 : Hid (∀ r ∈ M, r.length ≤ 16777216) := HALL
     go_upto_region 15 with fail
     clear hcy
     go_cut [15] (fun s15 wx => s15 = .bool b0s ∧ wx = wt)
     case first =>
      by_cases hq0 : q = 0
      ·have e0 : b0s = false := by
        have h1 : keepF M T j = [] := List.eq_nil_of_length_eq_zero (by rw [HOL.out]; exact hq0)
        have := HLAST.out
        rw [h1] at this
        rw [this]; rfl
       subst e0 hq0
       go_wp2
       go_meet
       exact ⟨rfl, rfl⟩
      ·obtain ⟨g, rfl, g0, g1, gc, _⟩ := HO.out.at_ (by omega)
       obtain ⟨v, hv⟩ := some_of_lt (l := keepF M T j) (k := q - 1) (by rw [HOL.out]; omega)
       have cv := gc (q - 1) v 0 _ hv rfl
       simp only [Nat.mul_one, Nat.add_zero] at cv
       have hlast : (keepF M T j).getLast? = some v := by
        rw [List.getLast?_eq_getElem?, HOL.out]; exact hv
       have e0 : b0s = decide (v = y) := by
        have := HLAST.out
        rw [hlast] at this
        rw [this, decide_eq_decide]
        exact ⟨fun e => Option.some.inj e, fun e => by rw [e]⟩
       have hJq : (0 : Int) < (q : Int) := by omega
       have hJ2 : IntKind.i64.wrap ((q : Int) - 1) = ((q - 1 : Nat) : Int) := by rw [wrap_id (by omega)]; omega
       have hJ4 : ((q - 1 : Nat) : Int) < (q : Int) := by omega
       have HE0 := Lib.hid e0
       clear gc hv hlast e0
       by_cases hvy : v = y
       ·have hbe : (v.toList == y.toList) = true := by rw [hvy]; simp
        have HE1 := Lib.hid (show b0s = true by rw [HE0.out, decide_eq_true hvy])
        clear hvy
        go_wp2
        go_meet
        exact ⟨by rw [HE1.out], rfl⟩
       ·have hbe := bytes_ne hvy
        have HE1 := Lib.hid (show b0s = false by rw [HE0.out, decide_eq_false hvy])
        clear hvy
        go_wp2
        go_meet
        exact ⟨by rw [HE1.out], rfl⟩
     case rest =>
      obtain ⟨rfl, rfl⟩ := hcut
      rename World => wt
      go_wp2
      go_loopw [15, 68] (fun s15 iv wr => ∃ i : Nat, i ≤ N ∧ iv = .int .i64 i ∧ s15 = .bool (b0s || seenB M y i) ∧ wt = wr) (fun _ iv _ => N - (intOf iv).toNat)
      case atStart => exact ⟨0, Nat.zero_le _, rfl, by simp [seenB], rfl⟩
      case round =>
       obtain ⟨i, hi, rfl, rfl, rfl⟩ := hrel
       obtain ⟨sb, hsb⟩ : ∃ u, u = (b0s || seenB M y i) := ⟨_, rfl⟩
       have HSB := Lib.hid hsb
       rw [← hsb]
       clear hsb
       by_cases hit : i < N
       ·have hiI : (i : Int) < (N : Int) := by omega
        obtain ⟨b5, o5, B5, m5, d5, r5, hA5, _, hc5, hr5, hl5, hs5⟩ := (HTB7.out.up HB8.out).row (k := i) hit
        injection hA5 with hA5
        injection hA5 with e1 e2 _
        subst e1 e2
        have hz5 : m5 ≤ 16777216 := by have := HALL.out r5 (List.mem_of_getElem? hr5); omega
        have HSS := Lib.hid (seenB_succ (x := y) hr5)
        clear hr5
        rcases sb
        ·go_wp2_with fail
         refine (spec_l1HasS hl5 hs5 hz5).mono ?_; rintro e w9 ⟨rfl, rfl⟩
         obtain ⟨hh, hhe⟩ : ∃ u, u = inL r5 y := ⟨_, rfl⟩
         rw [← hhe] at HSS ⊢
         clear hhe
         have HE : Hid ((b0s || seenB M y (i + 1)) = hh) := Lib.hid (by rw [HSS.out, ← Bool.or_assoc, ← HSB.out]; rfl)
         go_wp2
         go_roundw
         case rel => exact ⟨i + 1, by omega, by go_num, by rw [HE.out], trivial⟩
         case measure => simp [intOf]; omega
        ·have HE : Hid ((b0s || seenB M y (i + 1)) = true) := Lib.hid (by rw [HSS.out, ← Bool.or_assoc, ← HSB.out]; rfl)
         go_wp2
         go_roundw
         case rel => exact ⟨i + 1, by omega, by go_num, by rw [HE.out], trivial⟩
         case measure => simp [intOf]; omega
       ·obtain rfl : i = N := by omega
        have hiI : ¬ (i : Int) < (i : Int) := by omega
        rw [HSN.out] at HSB
        rcases sb
        ·have hh : b0s = false ∧ freshB M y = true := by
          have := HSB.out
          rcases b0s <;> rcases hf : freshB M y <;> rw [hf] at this <;> simp at this
          exact ⟨rfl, rfl⟩
         have e1 := Lib.hid (HAPP.out hh.1 hh.2)
         clear hh
         go_wp2_with (first | (at_builtin; go_must ((refine wpList_append_recs Tryz.elStr strE_one rfl (.tmp 81) (.tmp 83) rfl rfl (HO.out.alloc _) rfl (own_lit1_at' strE_len _ 9 y rfl (Nat.le_refl _)).recs rfl ?_ (by decide) ?_ ?_; (focus (first | omega | (simp only [World.size_alloc]; done) | (simp only [World.size_alloc]; omega) | (simp; done) | (simp; omega))); (focus (first | omega | (simp only [World.size_alloc]; done) | (simp only [World.size_alloc]; omega) | (simp; done) | (simp; omega))); intro A6 c6 w6 ho6 hg6 hl6; have HB6 : Hid (Below w7.heap.size w7 w6) := Lib.hid ((HB8.out.alloc hszr _).trans (grown_base hg6 (by simp; omega) (fun z hz => (HO.out.range z hz).1))); have HO6 := Lib.hid ho6; clear ho6 hg6 hl6))))
         go_roundw
         case rel => exact ⟨j + 1, q + 1, A6, c6, by omega, by go_num, rfl, by omega, Lib.hid (by rw [e1.out]; exact HO6.out), HB6⟩
         case measure => simp [intOf]; omega
        ·have e1 : Hid (keepF M T (j + 1) = keepF M T j) := Lib.hid (by
          have := HSB.out
          rcases hb : b0s
          ·rw [hb] at this
           have hf : freshB M y = false := by
            rcases hf : freshB M y
            ·rfl
            ·rw [hf] at this; simp at this
           exact HNO.out hf
          ·exact HSAM.out hb)
         go_wp2
         go_roundw
         case rel => exact ⟨j + 1, q, A8, c8, by omega, by go_num, rfl, by omega, Lib.hid (by rw [e1.out]; exact HO.out), HB8⟩
         case measure => simp [intOf]; omega
    ·obtain rfl : j = tz := by omega
     have hJ : ¬ (j : Int) < (j : Int) := by omega
     have e1 : Hid (keepF M T j = nextF H M L) := Lib.hid (by rw [HTS.out, keepF, List.take_of_length_le (by rw [HTL2.out]; exact Nat.le_refl _)])
     go_wp2
     go_ret
     exact ⟨_, _, _, rfl, by rw [← e1.out]; exact HO.out.base_le (Nat.le_trans HB0.out.size B7.out.size), by have := HTZE.out; have := HLl.out; omega, below_go HB0.out (below_go B7.out HB8.out)⟩
end Go.Proofs.YtidolgonmimicaaGreat
namespace Go.Proofs.YtidolgonmimicaaGreat
open Go.ChangeShapes Go.WideShapes Go.ChangeAt Go.RowKit Go.Deep
def l15B (nm : ByteArray) (st : Nat) (l : List ByteArray) : Bool := goodM nm (st : Int) l && decide (4 ≤ st)
def twoB (a b : ByteArray) : Bool := goodRow a && (goodRow b && decide (a.size = b.size))
def rpB (nm : ByteArray) (st : Nat) (l : List ByteArray) (kb ks a b : ByteArray) : Bool := l15B nm st l && (goodK nm (st : Int) l kb ks && (twoB a b && (decide (a.size = st) && !decide (a = b))))
theorem rpB_t {nm : ByteArray} {st : Nat} {l : List ByteArray} {kb ks a b : ByteArray} (h : rpB nm st l kb ks a b = true) : goodK nm (st : Int) l kb ks = true ∧ 4 ≤ st ∧ RowN st a ∧ RowN st b ∧ a ≠ b := by
 simp only [rpB, l15B, twoB, Bool.and_eq_true, decide_eq_true_iff, Bool.not_eq_true', decide_eq_false_iff_not] at h
 obtain ⟨⟨_, h4⟩, hk, ⟨h1, h2, h3⟩, h5, h6⟩ := h
 exact ⟨hk, h4, ⟨h1, h5⟩, ⟨h2, by rw [← h3]; exact h5⟩, h6⟩
theorem st_i64 {st : Nat} (h : st ≤ 1000) : I64 (st : Int) := by constructor <;> omega
theorem spec_l1TwoG {a b : ByteArray} {w : World} (ha : a.size ≤ 16777216) (hb : b.size ≤ 16777216) :
  Calls Tryz.prog 128 #[.string a, .string b] w fun e w' => e = .returned (.bool (twoB a b)) ∧ Below w.heap.size w w' := by
 have HQ : Hid (twoB a b = (goodRow a && (goodRow b && decide (a.size = b.size)))) := Lib.hid rfl
 go_in
 go_wp2_with fail
 refine (spec_l1Row ha).mono ?_; rintro e w1 ⟨rfl, hb1⟩
 rcases h1 : goodRow a
 ·have E := Lib.hid (show twoB a b = false by rw [HQ.out, h1]; rfl)
  clear h1
  go_wp2
  go_ret
  rw [E.out]
  exact ⟨rfl, hb1⟩
 ·have H1 := Lib.hid h1
  clear h1
  go_wp2_with fail
  refine (spec_l1Row hb).mono ?_; rintro e w2 ⟨rfl, hb2⟩
  rcases h2 : goodRow b
  ·have E := Lib.hid (show twoB a b = false by rw [HQ.out, H1.out, h2]; rfl)
   clear h2
   go_wp2
   go_ret
   rw [E.out]
   exact ⟨rfl, below_go hb1 hb2⟩
  ·have E := Lib.hid (show twoB a b = decide (a.size = b.size) by rw [HQ.out, H1.out, h2]; rfl)
   clear h2
   by_cases he : a.size = b.size
   ·have E2 := Lib.hid (show twoB a b = true by rw [E.out, decide_eq_true he])
    have e1 : ((a.size : Int) == (b.size : Int)) = true := beq_iff_eq.2 (by omega)
    clear he
    go_wp2
    go_ret
    rw [E2.out]
    exact ⟨rfl, below_go hb1 hb2⟩
   ·have E2 := Lib.hid (show twoB a b = false by rw [E.out, decide_eq_false he])
    have e1 : ((a.size : Int) == (b.size : Int)) = false := beq_eq_false_iff_ne.2 (by omega)
    clear he
    go_wp2
    go_ret
    rw [E2.out]
    exact ⟨rfl, below_go hb1 hb2⟩
theorem spec_l15Good {A : Option Addr} {n c st : Nat} {nm : ByteArray} {l : List ByteArray} {w : World} (hn : l.length = n) (h : Strs w A l) (hz : n ≤ 1048576) (hs : ∀ s ∈ l, s.size ≤ 16777216) (hnm : nm.size ≤ 16777216) (h9 : st ≤ 1000) :
  Calls Tryz.prog 199 #[.agg #[.string nm, .int .i64 st, .slice A n c]] w fun e w' => e = .returned (.bool (l15B nm st l)) ∧ Below w.heap.size w w' := by
 have HQ : Hid (l15B nm st l = (goodM nm (st : Int) l && decide (4 ≤ st))) := Lib.hid rfl
 have b0 : Below w.heap.size w (w.alloc (.cells ⟨[.string nm, .int .i64 st, .slice A n c]⟩ 25)) := by (repeat' (first | (with_reducible exact Below.refl _ _) | (with_reducible assumption) | (with_reducible refine below_drewN ?_ _) | (with_reducible refine Below.drew ?_) | (with_reducible refine below_alloc ?_ _) | (with_reducible refine Below.alloc ?_ ?_ _) | (with_reducible refine Below.setCell ?_ ?_ _) | (with_reducible refine below_go ?_ (by with_reducible assumption)) | (with_reducible refine below_then (by with_reducible assumption) ?_ ?_) | go_size))
 have K0 := Blk.at_ w 25 [.string nm, .int .i64 st, .slice A n c] (b := w.heap.size) rfl
 have k0 := K0.cell 0; have k1 := K0.cell 1; have k2 := K0.cell 2
 simp only [List.getElem?_cons_zero, List.getElem?_cons_succ] at k0 k1 k2
 have hst := st_i64 h9
 go_in
 go_wp2_with fail
 clear k0 k1 k2
 refine (spec_l4Good (nm := nm) hn (h.up b0) hz hs hnm hst).mono ?_; rintro e w1 ⟨rfl, hb1⟩
 rcases hg : goodM nm (st : Int) l
 ·have E := Lib.hid (show l15B nm st l = false by rw [HQ.out, hg]; rfl)
  clear hg
  go_wp2
  go_ret
  rw [E.out]
  exact ⟨rfl, below_go b0 hb1⟩
 ·have E := Lib.hid (show l15B nm st l = decide (4 ≤ st) by rw [HQ.out, hg]; rfl)
  have k1 := (K0.up hb1).cell 1
  simp only [List.getElem?_cons_zero, List.getElem?_cons_succ] at k1
  clear hg
  by_cases h4 : 4 ≤ st
  ·have E2 := Lib.hid (show l15B nm st l = true by rw [E.out, decide_eq_true h4])
   have hI : decide ((4 : Int) ≤ (st : Int)) = true := decide_eq_true (by omega)
   clear h4
   go_wp2
   go_ret
   rw [E2.out]
   exact ⟨rfl, below_go b0 hb1⟩
  ·have E2 := Lib.hid (show l15B nm st l = false by rw [E.out, decide_eq_false h4])
   have hI : decide ((4 : Int) ≤ (st : Int)) = false := decide_eq_false (by omega)
   clear h4
   go_wp2
   go_ret
   rw [E2.out]
   exact ⟨rfl, below_go b0 hb1⟩
set_option maxHeartbeats 2000000 in
set_option maxRecDepth 100000 in
theorem spec_l15Asked {A : Option Addr} {n c st : Nat} {nm : ByteArray} {l : List ByteArray} {kb ks a b : ByteArray} {w : World} (hn : l.length = n) (h : Strs w A l) (hz : n ≤ 1048576) (hs : ∀ s ∈ l, s.size ≤ 16777216) (hnm : nm.size ≤ 16777216) (h9 : st ≤ 1000) (hkb : kb.size ≤ 16777216) (hks : ks.size ≤ 16777216) (ha : a.size ≤ 16777216) (hb : b.size ≤ 16777216) :
  Calls Tryz.prog 125 #[.agg #[.string nm, .int .i64 st, .slice A n c], .agg #[.string kb, .string ks], .string a, .string b] w fun e w' => e = .returned (.bool (rpB nm st l kb ks a b)) ∧ Below w.heap.size w w' := by
 have HQ : Hid (rpB nm st l kb ks a b = (l15B nm st l && (goodK nm (st : Int) l kb ks && (twoB a b && (decide (a.size = st) && !decide (a = b)))))) := Lib.hid rfl
 have b0 : Below w.heap.size w ((w.alloc (.cells ⟨[.string nm, .int .i64 st, .slice A n c]⟩ 25)).alloc (.cells ⟨[.string kb, .string ks]⟩ 27)) := by (repeat' (first | (with_reducible exact Below.refl _ _) | (with_reducible assumption) | (with_reducible refine below_drewN ?_ _) | (with_reducible refine Below.drew ?_) | (with_reducible refine below_alloc ?_ _) | (with_reducible refine Below.alloc ?_ ?_ _) | (with_reducible refine Below.setCell ?_ ?_ _) | (with_reducible refine below_go ?_ (by with_reducible assumption)) | (with_reducible refine below_then (by with_reducible assumption) ?_ ?_) | go_size))
 have K0 := (Blk.at_ w 25 [.string nm, .int .i64 st, .slice A n c] (b := w.heap.size) rfl).alloc (.cells ⟨[.string kb, .string ks]⟩ 27)
 have K1 := Blk.at_ (w.alloc (.cells ⟨[.string nm, .int .i64 st, .slice A n c]⟩ 25)) 27 [.string kb, .string ks] (b := w.heap.size + 1) (by simp)
 have H0 := h.up b0
 clear h
 go_in
 go_upto_region 1 with fail
 obtain ⟨w0, hw0⟩ : ∃ u, u = ((w.alloc (.cells #[.string nm, .int .i64 st, .slice A n c] 25)).alloc (.cells #[.string kb, .string ks] 27)) := ⟨_, rfl⟩
 rw [← hw0] at b0 K0 K1 H0 ⊢
 clear hw0
 have k0 := K0.cell 0; have k1 := K0.cell 1; have k2 := K0.cell 2
 simp only [List.getElem?_cons_zero, List.getElem?_cons_succ] at k0 k1 k2
 go_wp2_with fail
 clear k0 k1 k2
 refine (spec_l15Good (nm := nm) hn H0 hz hs hnm h9).mono ?_; rintro e w1 ⟨rfl, hb1⟩
 have B1 := below_go b0 hb1
 replace K0 := K0.up hb1
 replace K1 := K1.up hb1
 have H1 := H0.up hb1
 clear H0 hb1 b0
 rcases hg : l15B nm st l
 ·have E := Lib.hid (show rpB nm st l kb ks a b = false by rw [HQ.out, hg]; rfl)
  clear hg
  go_wp2
  go_ret
  rw [E.out]
  exact ⟨rfl, B1⟩
 ·have E1 := Lib.hid (show rpB nm st l kb ks a b = (goodK nm (st : Int) l kb ks && (twoB a b && (decide (a.size = st) && !decide (a = b)))) by rw [HQ.out, hg]; rfl)
  have k0 := K0.cell 0; have k1 := K0.cell 1; have k2 := K0.cell 2; have j0 := K1.cell 0; have j1 := K1.cell 1
  simp only [List.getElem?_cons_zero, List.getElem?_cons_succ] at k0 k1 k2 j0 j1
  have hst := st_i64 h9
  clear hg
  go_wp2_with fail
  clear k0 k1 k2 j0 j1
  refine (spec_l8Good (nm := nm) hn H1 hz hs hnm hst hkb hks).mono ?_; rintro e w2 ⟨rfl, hb2⟩
  have B2 := below_go B1 hb2
  replace K0 := K0.up hb2
  clear hst hb2 B1
  rcases hg : goodK nm (st : Int) l kb ks
  ·have E := Lib.hid (show rpB nm st l kb ks a b = false by rw [E1.out, hg]; rfl)
   clear hg
   go_wp2
   go_ret
   rw [E.out]
   exact ⟨rfl, B2⟩
  ·have E2 := Lib.hid (show rpB nm st l kb ks a b = (twoB a b && (decide (a.size = st) && !decide (a = b))) by rw [E1.out, hg]; rfl)
   clear hg
   go_wp2_with fail
   refine (spec_l1TwoG ha hb).mono ?_; rintro e w3 ⟨rfl, hb3⟩
   have B3 := below_go B2 hb3
   replace K0 := K0.up hb3
   clear hb3 B2
   rcases hg : twoB a b
   ·have E := Lib.hid (show rpB nm st l kb ks a b = false by rw [E2.out, hg]; rfl)
    clear hg
    go_wp2
    go_ret
    rw [E.out]
    exact ⟨rfl, B3⟩
   ·have E3 := Lib.hid (show rpB nm st l kb ks a b = (decide (a.size = st) && !decide (a = b)) by rw [E2.out, hg]; rfl)
    have k1 := K0.cell 1
    simp only [List.getElem?_cons_zero, List.getElem?_cons_succ] at k1
    clear hg
    by_cases he : a.size = st
    ·have e1 : ((a.size : Int) == (st : Int)) = true := beq_iff_eq.2 (by omega)
     have E4 := Lib.hid (show rpB nm st l kb ks a b = !decide (a = b) by rw [E3.out, decide_eq_true he]; rfl)
     clear he
     by_cases hab : a = b
     ·have E5 := Lib.hid (show rpB nm st l kb ks a b = false by rw [E4.out, decide_eq_true hab]; rfl)
      have hbe : (a.toList == b.toList) = true := by rw [hab]; simp
      clear hab
      go_wp2
      go_ret
      rw [E5.out]
      exact ⟨rfl, B3⟩
     ·have E5 := Lib.hid (show rpB nm st l kb ks a b = true by rw [E4.out, decide_eq_false hab]; rfl)
      have hbe := bytes_ne hab
      clear hab
      go_wp2
      go_ret
      rw [E5.out]
      exact ⟨rfl, B3⟩
    ·have e1 : ((a.size : Int) == (st : Int)) = false := beq_eq_false_iff_ne.2 (by omega)
     have E4 := Lib.hid (show rpB nm st l kb ks a b = false by rw [E3.out, decide_eq_false he]; rfl)
     clear he
     go_wp2
     go_ret
     rw [E4.out]
     exact ⟨rfl, B3⟩
theorem manyL_take {M : List (List ByteArray)} {k : Nat} {r : List ByteArray} (h : M[k]? = some r) : manyL (M.take (k + 1)) = manyL (M.take k) + r.length := by
 rw [take_succ_some h, manyL_snoc]
theorem manyL_app (A B : List (List ByteArray)) : manyL (A ++ B) = manyL A + manyL B := by simp [manyL]
theorem manyL_le (M : List (List ByteArray)) (k : Nat) : manyL (M.take k) ≤ manyL M := by
 have e := manyL_app (M.take k) (M.drop k)
 rw [List.take_append_drop] at e
 omega
set_option maxRecDepth 100000 in
theorem spec_l15Many {B : Option Addr} {N d : Nat} {M : List (List ByteArray)} {w : World} (hT : TabS w B N M) (hN : N ≤ 1000000) (hz : manyL M ≤ 1000000) :
  Calls Tryz.prog 200 #[.slice B N d] w fun e w' => e = .returned (.int .i64 (manyL M : Int)) ∧ w = w' := by
 have HT := Lib.hid hT
 have HML := Lib.hid (manyL_le M)
 have HL := Lib.hid hT.len
 clear hT
 go_in
 go_wp2
 go_loopw [3, 8] (fun v i wr => ∃ k : Nat, k ≤ N ∧ i = .int .i64 k ∧ v = .int .i64 (manyL (M.take k) : Int) ∧ w = wr) (fun _ i _ => N - (intOf i).toNat)
 case atStart => exact ⟨0, Nat.zero_le _, rfl, rfl, rfl⟩
 case round =>
  obtain ⟨k, hk, rfl, rfl, rfl⟩ := hrel
  obtain ⟨x, hx⟩ : ∃ u, u = manyL (M.take k) := ⟨_, rfl⟩
  have hxz : x ≤ 1000000 := by have := HML.out k; omega
  have HX := Lib.hid hx
  rw [← hx]
  clear hx
  by_cases hlt : k < N
  ·have hkI : (k : Int) < (N : Int) := by omega
   obtain ⟨b5, o5, B5, m5, d5, r5, rfl, _, hc5, hr5, hl5, _⟩ := HT.out.row hlt
   have HE := Lib.hid (manyL_take hr5)
   rw [← HX.out, hl5] at HE
   have hz5 : x + m5 ≤ 1000000 := by have := HML.out (k + 1); rw [HE.out] at this; omega
   have hw : IntKind.i64.wrap ((x : Int) + (m5 : Int)) = ((x + m5 : Nat) : Int) := by rw [wrap_id (by omega)]; omega
   clear hr5 hl5
   go_wp2
   go_roundw
   case rel => exact ⟨k + 1, by omega, by go_num, by rw [HE.out]; simp, trivial⟩
   case measure => simp [intOf]; omega
  ·obtain rfl : k = N := by omega
   have hkI : ¬ (k : Int) < (k : Int) := by omega
   have HE : Hid (x = manyL M) := Lib.hid (by rw [HX.out, List.take_of_length_le (by rw [HL.out]; exact Nat.le_refl _)])
   go_wp2
   go_ret
   rw [HE.out]
   exact ⟨rfl, rfl⟩
set_option maxHeartbeats 4000000 in
set_option maxRecDepth 100000 in
theorem spec_l15Layers {A : Option Addr} {n c st : Nat} {nm : ByteArray} {l : List ByteArray} {kb ks : ByteArray} {a tg : ByteArray} {w : World} (hn : l.length = n) (h : Strs w A l) (hk : goodK nm (st : Int) l kb ks = true) (hcap : n ≤ c) (ha : RowN st a) :
  Calls Tryz.prog 126 #[.agg #[.string nm, .int .i64 st, .slice A n c], .agg #[.string kb, .string ks], .string a, .string tg] w fun e w' => ∃ A' m c' vs, e = .returned (.tuple #[.slice A' m c', .bool (layR (clH st l kb ks) a tg).isSome]) ∧ TabT w' w.heap.size A' m c' vs ((layR (clH st l kb ks) a tg).getD []) ∧ Below w.heap.size w w' := by
 have b0 : Below w.heap.size w ((w.alloc (.cells ⟨[.string nm, .int .i64 st, .slice A n c]⟩ 25)).alloc (.cells ⟨[.string kb, .string ks]⟩ 27)) := by (repeat' (first | (with_reducible exact Below.refl _ _) | (with_reducible assumption) | (with_reducible refine below_drewN ?_ _) | (with_reducible refine Below.drew ?_) | (with_reducible refine below_alloc ?_ _) | (with_reducible refine Below.alloc ?_ ?_ _) | (with_reducible refine Below.setCell ?_ ?_ _) | (with_reducible refine below_go ?_ (by with_reducible assumption)) | (with_reducible refine below_then (by with_reducible assumption) ?_ ?_) | go_size))
 have K0 := (Blk.at_ w 25 [.string nm, .int .i64 st, .slice A n c] (b := w.heap.size) rfl).alloc (.cells ⟨[.string kb, .string ks]⟩ 27)
 have K1 := Blk.at_ (w.alloc (.cells ⟨[.string nm, .int .i64 st, .slice A n c]⟩ 25)) 27 [.string kb, .string ks] (b := w.heap.size + 1) (by simp)
 have h8 := (goodK_all hk).1
 have HH := Lib.hid (h.up b0)
 have HK := Lib.hid hk
 have HC := Lib.hid (clH_row h8.1 h8.2 l kb ks)
 obtain ⟨H, hH⟩ : ∃ u, u = clH st l kb ks := ⟨_, rfl⟩
 rw [← hH] at HC ⊢
 have HHE := Lib.hid hH
 have HA := Lib.hid ha
 have HLY : Hid (layR H a tg = layF H tg 8 [[a]]) := Lib.hid rfl
 have HLM : Hid (∀ k ls, ¬ manyL ls ≤ 800 → layF H tg k ls = none) := Lib.hid (fun k ls h => layF_many h)
 have HLH : Hid (∀ k ls, manyL ls ≤ 800 → inL (nextF H ls (lastL ls)) tg = true → layF H tg (k + 1) ls = some (ls ++ [nextF H ls (lastL ls)])) := Lib.hid (fun k ls h g => layF_has h g)
 have HLG : Hid (∀ k ls, manyL ls ≤ 800 → inL (nextF H ls (lastL ls)) tg = false → layF H tg (k + 1) ls = layF H tg k (ls ++ [nextF H ls (lastL ls)])) := Lib.hid (fun k ls h g => layF_go h g)
 have HL0 : Hid (∀ ls, layF H tg 0 ls = none) := Lib.hid (fun ls => rfl)
 clear h hk hH ha
 go_in
 go_upto_region 1 with fail
 obtain ⟨w0, hw0⟩ : ∃ u, u = ((w.alloc (.cells #[.string nm, .int .i64 st, .slice A n c] 25)).alloc (.cells #[.string kb, .string ks] 27)) := ⟨_, rfl⟩
 rw [← hw0] at b0 K0 K1 HH ⊢
 clear hw0
 have HB0 := Lib.hid b0
 have car : Hid (∀ u : World, Below w0.heap.size w0 u → (u.cell? ⟨w.heap.size, 0, none⟩ = some (.string nm) ∧ u.cell? ⟨w.heap.size, 1, none⟩ = some (.int .i64 st) ∧ u.cell? ⟨w.heap.size, 2, none⟩ = some (.slice A n c)) ∧ u.cell? ⟨w.heap.size + 1, 0, none⟩ = some (.string kb) ∧ u.cell? ⟨w.heap.size + 1, 1, none⟩ = some (.string ks)) := Lib.hid (fun u hu => by
  have L0 := K0.up hu; have L1 := K1.up hu
  exact ⟨⟨by simpa using L0.cell 0, by simpa using L0.cell 1, by simpa using L0.cell 2⟩, by simpa using L1.cell 0, by simpa using L1.cell 1⟩)
 have o1 := own_lit1_at' (base := w0.heap.size) strE_len w0 9 a (b := w0.heap.size) rfl (Nat.le_refl _)
 have a1 : Below w0.heap.size w0 (w0.alloc (.cells ⟨strE a⟩ 9)) := by (repeat' (first | (with_reducible exact Below.refl _ _) | (with_reducible assumption) | (with_reducible refine below_drewN ?_ _) | (with_reducible refine Below.drew ?_) | (with_reducible refine below_alloc ?_ _) | (with_reducible refine Below.alloc ?_ ?_ _) | (with_reducible refine Below.setCell ?_ ?_ _) | (with_reducible refine below_go ?_ (by with_reducible assumption)) | (with_reducible refine below_then (by with_reducible assumption) ?_ ?_) | go_size))
 have o2 := own_lit1_at' (base := w0.heap.size) slcE_len (w0.alloc (.cells ⟨strE a⟩ 9)) 23 ((some ⟨w0.heap.size, 0, none⟩, 1, 1) : Hd) (b := w0.heap.size + 1) (by simp) (by simp)
 have T0 : TabT ((w0.alloc (.cells ⟨strE a⟩ 9)).alloc (.cells ⟨slcE (some ⟨w0.heap.size, 0, none⟩, 1, 1)⟩ 23)) w0.heap.size (some ⟨w0.heap.size + 1, 0, none⟩) 1 1 [(some ⟨w0.heap.size, 0, none⟩, 1, 1)] [[a]] := ⟨o2, rfl, fun k v r hv hr => by
  rcases k with _ | k
  ·simp at hv hr
   subst hv hr
   exact o1.alloc _
  ·simp at hv⟩
 have b1 : Below w0.heap.size w0 ((w0.alloc (.cells ⟨strE a⟩ 9)).alloc (.cells ⟨slcE (some ⟨w0.heap.size, 0, none⟩, 1, 1)⟩ 23)) := by (repeat' (first | (with_reducible exact Below.refl _ _) | (with_reducible assumption) | (with_reducible refine below_drewN ?_ _) | (with_reducible refine Below.drew ?_) | (with_reducible refine below_alloc ?_ _) | (with_reducible refine Below.alloc ?_ ?_ _) | (with_reducible refine Below.setCell ?_ ?_ _) | (with_reducible refine below_go ?_ (by with_reducible assumption)) | (with_reducible refine below_then (by with_reducible assumption) ?_ ?_) | go_size))
 clear K0 K1 o1 o2 a1 b0
 go_wp2
 change TabT ((w0.alloc (.cells #[.string a] 9)).alloc (.cells #[.slice (some ⟨w0.heap.size, 0, none⟩) 1 1] 23)) w0.heap.size (some ⟨w0.heap.size + 1, 0, none⟩) 1 1 [(some ⟨w0.heap.size, 0, none⟩, 1, 1)] [[a]] at T0
 change Below w0.heap.size w0 ((w0.alloc (.cells #[.string a] 9)).alloc (.cells #[.slice (some ⟨w0.heap.size, 0, none⟩) 1 1] 23)) at b1
 have HT0 := Lib.hid T0
 have HB1 := Lib.hid b1
 clear T0 b1
 go_loopw [10] (fun v wr => ∃ (k N : Nat) (ls : List (List ByteArray)) (A' : Option Addr) (c' : Nat) (vs : List Hd), v = .slice A' N c' ∧ N + k = 9 ∧ 1 ≤ N ∧ Hid (TabT wr w0.heap.size A' N c' vs ls) ∧ Hid (layR H a tg = layF H tg k ls) ∧ Hid (∀ L ∈ ls, ∀ x ∈ L, RowN st x) ∧ manyL ls ≤ 3200 ∧ Hid (Below w0.heap.size w0 wr)) (fun v _ => 9 - slLen v)
 case atStart => exact ⟨8, 1, [[a]], _, _, _, rfl, rfl, Nat.le_refl _, HT0, HLY, Lib.hid (fun L hL x hx => by rw [List.mem_singleton] at hL; subst hL; rw [List.mem_singleton] at hx; subst hx; exact HA.out), by simp [manyL], HB1⟩
 case round =>
  obtain ⟨k, N, ls, A3, c3, vs, rfl, hNk, hN1, HT, HLR, HRW, hmz, HB⟩ := hrel
  rename World => wr
  have HNL := Lib.hid HT.out.nlen
  by_cases hlt : N ≤ 8
  ·obtain ⟨k, rfl⟩ : ∃ j, k = j + 1 := ⟨k - 1, by omega⟩
   have hNI : decide ((N : Int) ≤ 8) = true := decide_eq_true (by omega)
   go_wp2_with fail
   refine (spec_l15Many HT.out.tab (by omega) (by omega)).mono ?_; rintro e w' ⟨rfl, rfl⟩
   by_cases hm8 : manyL ls ≤ 800
   ·have hmI : decide (((manyL ls : Nat) : Int) ≤ 800) = true := decide_eq_true (by omega)
    obtain ⟨⟨q0, q1, q2⟩, q3, q4⟩ := car.out _ HB.out
    have HHW := Lib.hid (HH.out.up HB.out)
    have hls : 0 < ls.length := by rw [HNL.out]; omega
    have hlm := List.mem_of_getElem? (lastL_at hls)
    have HLW := Lib.hid (HRW.out _ hlm)
    have hll : (lastL ls).length ≤ 800 := by have := manyL_at hlm; omega
    have HAL : Hid (∀ r ∈ ls, r.length ≤ 16777216) := Lib.hid (fun r hr => by have := manyL_at hr; omega)
    clear hls hlm
    go_wp2_with fail
    clear q0 q1 q2 q3 q4 hmI hNI
    refine (spec_l15Next (nm := nm) hn HHW.out HK.out hcap HT.out.tab hN1 (by omega) (by omega) HLW.out HAL.out).mono ?_; rw [← HHE.out]; rintro e w5 ⟨A5, m5, c5, rfl, ho5, hm5, hb5⟩
    have HB5 := Lib.hid (below_go HB.out hb5)
    have HT5 := Lib.hid (HT.out.up hb5)
    have HO5 := Lib.hid (ho5.base_le HB.out.size)
    have hsz5 := HB5.out.size
    have HNR := Lib.hid (nextF_row (ls := ls) HC.out HLW.out)
    have HY := Lib.hid (HLH.out k ls hm8)
    have HG := Lib.hid (HLG.out k ls hm8)
    obtain ⟨nx, hnx⟩ : ∃ u, u = nextF H ls (lastL ls) := ⟨_, rfl⟩
    rw [← hnx] at HO5 HNR HY HG
    have hnl : nx.length = m5 := HO5.out.len
    clear ho5 hb5 hnx
    go_wp2_with (first | (at_builtin; go_must ((refine wpList_append_recs Tryz.elStrs slcE_one rfl (.tmp 27) (.tmp 29) rfl rfl (HT5.out.top.alloc _) rfl (own_lit1_at' slcE_len _ 23 ((A5, m5, c5) : Hd) rfl (Nat.le_refl _)).recs rfl ?_ (by decide) ?_ ?_; (focus (first | omega | (simp only [World.size_alloc]; done) | (simp only [World.size_alloc]; omega) | (simp; done) | (simp; omega))); (focus (first | omega | (simp only [World.size_alloc]; done) | (simp only [World.size_alloc]; omega) | (simp; done) | (simp; omega))); intro A6 c6 w6 ho6 hg6 hl6; have HB6 : Hid (Below w0.heap.size w0 w6) := Lib.hid ((HB5.out.alloc hsz5 _).trans (grown_base hg6 (by simp; omega) (fun z hz => (HT5.out.top.range z hz).1))); have HT6 := Lib.hid ((HT5.out.up ((Below.refl _ _).alloc (Nat.le_refl _) _)).app (v := (A5, m5, c5)) (r := nx) ho6 hg6 (HO5.out.alloc _) (by decide)); clear ho6 hg6 hl6))))
    have HR6 : Hid (Strs w6 A5 nx) := Lib.hid (HT6.out.row N (A5, m5, c5) nx (by rw [List.getElem?_append_right (by rw [HT5.out.top.len]; exact Nat.le_refl _), HT5.out.top.len]; simp) (by rw [List.getElem?_append_right (by rw [HNL.out]; exact Nat.le_refl _), HNL.out]; simp)).recs
    try go_wp2_with fail
    refine (spec_l1HasS hnl HR6.out (by omega)).mono ?_; rintro e w' ⟨rfl, rfl⟩
    rcases hin : inL nx tg
    ·have HE := Lib.hid (HG.out hin)
     clear hin
     go_wp2
     go_roundw
     case rel => exact ⟨k, N + 1, ls ++ [nx], A6, c6, _, rfl, by omega, by omega, HT6, Lib.hid (HLR.out.trans HE.out), Lib.hid (fun L hL => (List.mem_append.1 hL).elim (HRW.out L) (fun q => by rw [List.mem_singleton.1 q]; exact HNR.out)), by rw [manyL_snoc]; omega, HB6⟩
     case measure => simp [slLen]; omega
    ·have HE := Lib.hid (HLR.out.trans (HY.out hin))
     clear hin
     go_wp2
     go_ret2
     rw [HE.out]
     exact ⟨A6, N + 1, c6, _, rfl, HT6.out.base_le HB0.out.size, below_go HB0.out HB6.out⟩
   ·have HE := Lib.hid (HLR.out.trans (HLM.out (k + 1) ls hm8))
    have hmI : decide (((manyL ls : Nat) : Int) ≤ 800) = false := decide_eq_false (by omega)
    go_wp2
    go_ret2
    rw [HE.out]
    exact ⟨none, 0, 0, [], rfl, TabT.nil _ _, below_go HB0.out HB.out⟩
  ·obtain rfl : k = 0 := by omega
   have HE := Lib.hid (HLR.out.trans (HL0.out ls))
   have hNI : decide ((N : Int) ≤ 8) = false := decide_eq_false (by omega)
   go_wp2
   go_ret2
   rw [HE.out]
   exact ⟨none, 0, 0, [], rfl, TabT.nil _ _, below_go HB0.out HB.out⟩
end Go.Proofs.YtidolgonmimicaaGreat
namespace Go.Proofs.YtidolgonmimicaaGreat
open Go.ChangeShapes Go.WideShapes Go.ChangeAt Go.RowKit Go.Deep
theorem spec_Times {a b : ByteArray} {w : World} (ha : a.size ≤ 16777216) (hb : b.size ≤ 16777216) :
  Calls Tryz.prog 39 #[.string a, .string b] w fun e w' => e = .returned (.tuple #[.string (if twoB a b then timesS a b else ⟨#[]⟩), .bool (twoB a b)]) ∧ Below w.heap.size w w' := by
 obtain ⟨y, hy⟩ : ∃ u, u = twoB a b := ⟨_, rfl⟩
 have HY := Lib.hid hy
 rw [← hy]
 clear hy
 go_in
 go_wp2_with fail
 refine (spec_l1TwoG ha hb).mono ?_; rw [← HY.out]; rintro e w1 ⟨rfl, hb1⟩
 rcases y
 ·go_wp2
  go_ret2
  exact ⟨rfl, hb1⟩
 ·have hf : fits a b := by
   have h := HY.out.symm
   simp only [twoB, Bool.and_eq_true, decide_eq_true_iff] at h
   exact fits_good h.2.1 h.2.2
  go_wp2_with fail
  refine (spec_l1Times ha hb hf).mono ?_; rintro e w2 ⟨rfl, rfl⟩
  go_wp2
  go_ret2
  exact ⟨rfl, hb1⟩
end Go.Proofs.YtidolgonmimicaaGreat
namespace Go.Proofs.YtidolgonmimicaaGreat
open Go.ChangeShapes Go.WideShapes Go.ChangeAt Go.RowKit Go.Deep
def lstT : Option (List Cl) → ByteArray
 | some w => wT w
 | none => ⟨#[]⟩
theorem leastW_hit {H : Cl → ByteArray} {tg x : ByteArray} {k : Nat} {c : Cl} {v : List Cl} (hl : ∀ b : Cl, b < c → leastW H tg k (timesS x (H b)) = none) (h : leastW H tg k (timesS x (H c)) = some v) : leastW H tg (k + 1) x = some (c :: v) := by
 simp only [leastW]
 rcases cl_cases c with rfl | rfl | rfl
 ·rw [h]
 ·rw [hl 0 (by decide), h]
 ·rw [hl 0 (by decide), hl 1 (by decide), h]; rfl
theorem leastW_miss {H : Cl → ByteArray} {tg x : ByteArray} {k : Nat} (hl : ∀ b : Cl, leastW H tg k (timesS x (H b)) = none) : leastW H tg (k + 1) x = none := by
 simp only [leastW]
 rw [hl 0, hl 1, hl 2]; rfl
theorem litB {j : Nat} (hj : j < 3) : ∃ c : Cl, c.val = j ∧ ([⟨#[98]⟩, ⟨#[112]⟩, ⟨#[115]⟩] : List ByteArray)[j]? = some (clT c) := by
 rcases j with _ | _ | _ | j
 ·exact ⟨0, rfl, rfl⟩
 ·exact ⟨1, rfl, rfl⟩
 ·exact ⟨2, rfl, rfl⟩
 ·omega
noncomputable def rtO (nm : ByteArray) (st : Nat) (l : List ByteArray) (kb ks a b : ByteArray) : Option (List Cl) := if rpB nm st l kb ks a b = true then repW (clH st l kb ks) a b else none
theorem rtO_t {nm : ByteArray} {st : Nat} {l : List ByteArray} {kb ks a b : ByteArray} (h : rpB nm st l kb ks a b = true) : rtO nm st l kb ks a b = repW (clH st l kb ks) a b := if_pos h
theorem rtO_f {nm : ByteArray} {st : Nat} {l : List ByteArray} {kb ks a b : ByteArray} (h : rpB nm st l kb ks a b = false) : rtO nm st l kb ks a b = none := if_neg (by rw [h]; simp)
noncomputable def rlO (nm : ByteArray) (st : Nat) (l : List ByteArray) (kb ks a b : ByteArray) : Option (List (List ByteArray)) := if rpB nm st l kb ks a b = true then layR (clH st l kb ks) a b else none
theorem rlO_t {nm : ByteArray} {st : Nat} {l : List ByteArray} {kb ks a b : ByteArray} (h : rpB nm st l kb ks a b = true) : rlO nm st l kb ks a b = layR (clH st l kb ks) a b := if_pos h
theorem rlO_f {nm : ByteArray} {st : Nat} {l : List ByteArray} {kb ks a b : ByteArray} (h : rpB nm st l kb ks a b = false) : rlO nm st l kb ks a b = none := if_neg (by rw [h]; simp)
set_option maxHeartbeats 4000000 in
set_option maxRecDepth 100000 in
theorem spec_l15Least {A : Option Addr} {n c st : Nat} {nm : ByteArray} {l : List ByteArray} {kb ks tg : ByteArray} (hn : l.length = n) (hk : goodK nm (st : Int) l kb ks = true) (hcap : n ≤ c) : ∀ (k : Nat) (a : ByteArray) (w : World), k ≤ 8 → RowN st a → Strs w A l →
  Calls Tryz.prog 127 #[.agg #[.string nm, .int .i64 st, .slice A n c], .agg #[.string kb, .string ks], .string a, .string tg, .int .i64 (k : Int)] w fun e w' => e = .returned (.tuple #[.string (lstT (leastW (clH st l kb ks) tg k a)), .bool (leastW (clH st l kb ks) tg k a).isSome]) ∧ Below w.heap.size w w' := by
 intro k
 have h8 := (goodK_all hk).1
 have HC := Lib.hid (clH_row h8.1 h8.2 l kb ks)
 have HCH : Hid (∀ c : Cl, callHd st l kb ks (clT c) = clH st l kb ks c) := Lib.hid (fun _ => rfl)
 obtain ⟨H, hH⟩ : ∃ u, u = clH st l kb ks := ⟨_, rfl⟩
 rw [← hH] at HC HCH ⊢
 have HK := Lib.hid hk
 have HN := Lib.hid hn
 clear hH hk hn
 induction k with
 | zero =>
  intro a w _ ha h
  have b0 : Below w.heap.size w ((w.alloc (.cells ⟨[.string nm, .int .i64 st, .slice A n c]⟩ 25)).alloc (.cells ⟨[.string kb, .string ks]⟩ 27)) := by (repeat' (first | (with_reducible exact Below.refl _ _) | (with_reducible assumption) | (with_reducible refine below_drewN ?_ _) | (with_reducible refine Below.drew ?_) | (with_reducible refine below_alloc ?_ _) | (with_reducible refine Below.alloc ?_ ?_ _) | (with_reducible refine Below.setCell ?_ ?_ _) | (with_reducible refine below_go ?_ (by with_reducible assumption)) | (with_reducible refine below_then (by with_reducible assumption) ?_ ?_) | go_size))
  have HL : Hid (leastW H tg 0 a = if a = tg then some [] else none) := Lib.hid rfl
  by_cases e : a = tg
  ·have hbe : (a.toList == tg.toList) = true := by rw [e]; simp
   have HE := Lib.hid (show leastW H tg 0 a = some [] by rw [HL.out, if_pos e])
   clear e
   go_in
   go_wp2
   go_ret2
   rw [HE.out]
   exact ⟨rfl, b0⟩
  ·have hbe := bytes_ne e
   have HE := Lib.hid (show leastW H tg 0 a = none by rw [HL.out, if_neg e])
   clear e
   go_in
   go_wp2
   go_ret2
   rw [HE.out]
   exact ⟨rfl, b0⟩
 | succ k ih =>
  intro a w hk8 ha h
  have IH := Lib.hid ih
  have HA := Lib.hid ha
  have HHIT : Hid (∀ (c : Cl) (v : List Cl), (∀ b : Cl, b < c → leastW H tg k (timesS a (H b)) = none) → leastW H tg k (timesS a (H c)) = some v → leastW H tg (k + 1) a = some (c :: v)) := Lib.hid (fun _ _ h g => leastW_hit h g)
  have HMIS := Lib.hid (@leastW_miss H tg a k)
  have b0 : Below w.heap.size w ((w.alloc (.cells ⟨[.string nm, .int .i64 st, .slice A n c]⟩ 25)).alloc (.cells ⟨[.string kb, .string ks]⟩ 27)) := by (repeat' (first | (with_reducible exact Below.refl _ _) | (with_reducible assumption) | (with_reducible refine below_drewN ?_ _) | (with_reducible refine Below.drew ?_) | (with_reducible refine below_alloc ?_ _) | (with_reducible refine Below.alloc ?_ ?_ _) | (with_reducible refine Below.setCell ?_ ?_ _) | (with_reducible refine below_go ?_ (by with_reducible assumption)) | (with_reducible refine below_then (by with_reducible assumption) ?_ ?_) | go_size))
  have K0 := (Blk.at_ w 25 [.string nm, .int .i64 st, .slice A n c] (b := w.heap.size) rfl).alloc (.cells ⟨[.string kb, .string ks]⟩ 27)
  have K1 := Blk.at_ (w.alloc (.cells ⟨[.string nm, .int .i64 st, .slice A n c]⟩ 25)) 27 [.string kb, .string ks] (b := w.heap.size + 1) (by simp)
  have HH := Lib.hid (h.up b0)
  obtain ⟨m, hm⟩ : ∃ m, m = k + 1 := ⟨_, rfl⟩
  rw [← hm]
  have hkI : ((m : Int) == 0) = false := beq_eq_false_iff_ne.2 (by omega)
  have hwk : IntKind.i64.wrap ((m : Int) - 1) = (k : Int) := by rw [wrap_id (by omega)]; omega
  have HM := Lib.hid hm
  clear hm
  have haz : a.size ≤ 16777216 := by have := ha.2; omega
  clear h ih ha
  go_in
  go_upto_region 3 with fail
  clear hkI
  obtain ⟨w0, hw0⟩ : ∃ u, u = ((w.alloc (.cells #[.string nm, .int .i64 st, .slice A n c] 25)).alloc (.cells #[.string kb, .string ks] 27)) := ⟨_, rfl⟩
  rw [← hw0] at b0 K0 K1 HH ⊢
  clear hw0
  have HB0 := Lib.hid b0
  have car : Hid (∀ u : World, Below w0.heap.size w0 u → (u.cell? ⟨w.heap.size, 0, none⟩ = some (.string nm) ∧ u.cell? ⟨w.heap.size, 1, none⟩ = some (.int .i64 st) ∧ u.cell? ⟨w.heap.size, 2, none⟩ = some (.slice A n c)) ∧ u.cell? ⟨w.heap.size + 1, 0, none⟩ = some (.string kb) ∧ u.cell? ⟨w.heap.size + 1, 1, none⟩ = some (.string ks)) := Lib.hid (fun u hu => by
   have L0 := K0.up hu; have L1 := K1.up hu
   exact ⟨⟨by simpa using L0.cell 0, by simpa using L0.cell 1, by simpa using L0.cell 2⟩, by simpa using L1.cell 0, by simpa using L1.cell 1⟩)
  have HLT := Lib.hid (lit_strs2 w0 9 [⟨#[98]⟩, ⟨#[112]⟩, ⟨#[115]⟩])
  have aL : Below w0.heap.size w0 (w0.alloc (.cells #[.string ⟨#[98]⟩, .string ⟨#[112]⟩, .string ⟨#[115]⟩] 9)) := by (repeat' (first | (with_reducible exact Below.refl _ _) | (with_reducible assumption) | (with_reducible refine below_drewN ?_ _) | (with_reducible refine Below.drew ?_) | (with_reducible refine below_alloc ?_ _) | (with_reducible refine Below.alloc ?_ ?_ _) | (with_reducible refine Below.setCell ?_ ?_ _) | (with_reducible refine below_go ?_ (by with_reducible assumption)) | (with_reducible refine below_then (by with_reducible assumption) ?_ ?_) | go_size))
  change Hid (Strs (w0.alloc (.cells #[.string ⟨#[98]⟩, .string ⟨#[112]⟩, .string ⟨#[115]⟩] 9)) (some ⟨w0.heap.size, 0, none⟩) [⟨#[98]⟩, ⟨#[112]⟩, ⟨#[115]⟩]) at HLT
  have HBL := Lib.hid aL
  clear K0 K1 b0 aL
  go_wp2
  obtain ⟨wl, hwl⟩ : ∃ u, u = w0.alloc (.cells #[.string ⟨#[98]⟩, .string ⟨#[112]⟩, .string ⟨#[115]⟩] 9) := ⟨_, rfl⟩
  rw [← hwl] at HLT HBL ⊢
  obtain ⟨qb, hqb⟩ : ∃ u, u = w0.heap.size := ⟨_, rfl⟩
  rw [← hqb] at HLT ⊢
  clear hwl hqb
  go_loopw [23] (fun v wr => ∃ j : Nat, j ≤ 3 ∧ v = .int .i64 j ∧ Hid (∀ b : Cl, b.val < j → leastW H tg k (timesS a (H b)) = none) ∧ Hid (Below wl.heap.size wl wr)) (fun v _ => 3 - (intOf v).toNat)
  case atStart => exact ⟨0, by omega, rfl, Lib.hid (fun b hb => absurd hb (Nat.not_lt_zero _)), Lib.hid (Below.refl _ _)⟩
  case round =>
   obtain ⟨j, hj, rfl, HLOW, HBW⟩ := hrel
   rename World => wr
   have HBR := Lib.hid (below_go HBL.out HBW.out)
   by_cases hlt : j < 3
   ·have hjI : (j : Int) < 3 := by omega
    obtain ⟨b3, o3, x, hA3, _, hx, hcx⟩ := (HLT.out.up HBW.out).at_str (k := j) (by exact hlt)
    injection hA3 with hA3
    injection hA3 with e1 e2 _
    subst e1 e2
    rw [Nat.zero_add] at hcx
    obtain ⟨cl, hcv, hcl⟩ := litB hlt
    rw [hcl] at hx
    injection hx with hx
    subst hx
    have hcN := Lib.hid (HC.out cl)
    have hft := Lib.hid (rowN_fits HA.out hcN.out)
    have hcz : (H cl).size ≤ 16777216 := by have := hcN.out.2; omega
    have HHR := Lib.hid ((HH.out.up HBR.out).up (Below.refl _ _).drew)
    have C0 : Below wr.heap.size wr wr.drew := (Below.refl _ _).drew
    have HN2 : Hid (∀ v : List Cl, leastW H tg k (timesS a (H cl)) = some v → v.length = k) := Lib.hid (fun v hv => (leastW_leads k _ v hv).1)
    clear hcl
    go_upto_region 6 with fail
    clear hcx
    have c2 := fun (u : World) (hu : Below wr.heap.size wr u) => car.out _ (below_go HBR.out hu)
    have CAR := Lib.hid c2
    clear c2
    refine wp_region_held_drew (S := fun u => (u.cell? ⟨w.heap.size, 0, none⟩ = some (.string nm) ∧ u.cell? ⟨w.heap.size, 1, none⟩ = some (.int .i64 st) ∧ u.cell? ⟨w.heap.size, 2, none⟩ = some (.slice A n c)) ∧ u.cell? ⟨w.heap.size + 1, 0, none⟩ = some (.string kb) ∧ u.cell? ⟨w.heap.size + 1, 1, none⟩ = some (.string ks)) (by kernel_rfl) (CAR.out _ C0) (fun hHeld => ?_)
    refine takeH 0 28 (v := ?_) rfl (by kernel_rfl) (by kernel_rfl) (by kernel_rfl) (fun _ _ _ h => h) (Or.inl ⟨by rfl, ?_⟩) (by assumption) ?_
    rotate_left
    ·(intro w hSw; (try dsimp only at hSw); go_simp) <;> with_reducible rfl
    (try simp only [Act.put, List.setIfInBounds_toArray, List.set_cons_zero, List.set_cons_succ])
    refine takeH 1 29 (v := ?_) rfl (by kernel_rfl) (by kernel_rfl) (by kernel_rfl) (fun _ _ _ h => h) (Or.inl ⟨by rfl, ?_⟩) (by assumption) ?_
    rotate_left
    ·(intro w hSw; (try dsimp only at hSw); go_simp) <;> with_reducible rfl
    (try simp only [Act.put, List.setIfInBounds_toArray, List.set_cons_zero, List.set_cons_succ])
    refine takeH 2 30 (v := ?_) rfl (by kernel_rfl) (by kernel_rfl) (by kernel_rfl) (fun _ _ _ h => h) (Or.inl ⟨by rfl, ?_⟩) (by assumption) ?_
    rotate_left
    ·(intro w hSw; (try dsimp only at hSw); go_simp) <;> with_reducible rfl
    (try simp only [Act.put, List.setIfInBounds_toArray, List.set_cons_zero, List.set_cons_succ])
    refine takeH 3 31 (v := ?_) rfl (by kernel_rfl) (by kernel_rfl) (by kernel_rfl) (fun _ _ _ h => h) (Or.inl ⟨by rfl, ?_⟩) (by assumption) ?_
    rotate_left
    ·(intro w hSw; (try dsimp only at hSw); go_simp) <;> with_reducible rfl
    (try simp only [Act.put, List.setIfInBounds_toArray, List.set_cons_zero, List.set_cons_succ])
    refine takeH 4 32 (v := ?_) rfl (by kernel_rfl) (by kernel_rfl) (by kernel_rfl) (fun _ _ _ h => h) (Or.inl ⟨by rfl, ?_⟩) (by assumption) ?_
    rotate_left
    ·(intro w hSw; (try dsimp only at hSw); go_simp) <;> with_reducible rfl
    (try simp only [Act.put, List.setIfInBounds_toArray, List.set_cons_zero, List.set_cons_succ])
    refine takeH 5 33 (v := ?_) rfl (by kernel_rfl) (by kernel_rfl) (by kernel_rfl) (fun _ _ _ h => h) (Or.inl ⟨by rfl, ?_⟩) (by assumption) ?_
    rotate_left
    ·(intro w hSw; (try dsimp only at hSw); go_simp) <;> with_reducible rfl
    (try simp only [Act.put, List.setIfInBounds_toArray, List.set_cons_zero, List.set_cons_succ])
    refine takeH 8 36 (v := ?_) rfl (by kernel_rfl) (by kernel_rfl) (by kernel_rfl) (fun _ _ _ h => h) (Or.inl ⟨by rfl, ?_⟩) (by assumption) ?_
    rotate_left
    ·(intro w hSw; (try dsimp only at hSw); go_simp) <;> with_reducible rfl
    (try simp only [Act.put, List.setIfInBounds_toArray, List.set_cons_zero, List.set_cons_succ])
    refine takeH 9 37 (v := ?_) rfl (by kernel_rfl) (by kernel_rfl) (by kernel_rfl) (fun _ _ _ h => h) (Or.inl ⟨by rfl, ?_⟩) (by assumption) ?_
    rotate_left
    ·(intro w hSw; (try dsimp only at hSw); go_simp) <;> with_reducible rfl
    (try simp only [Act.put, List.setIfInBounds_toArray, List.set_cons_zero, List.set_cons_succ])
    refine takeH 10 38 (v := ?_) rfl (by kernel_rfl) (by kernel_rfl) (by kernel_rfl) (fun _ _ _ h => h) (Or.inl ⟨by rfl, ?_⟩) (by assumption) ?_
    rotate_left
    ·(intro w hSw; (try dsimp only at hSw); go_simp) <;> with_reducible rfl
    (try simp only [Act.put, List.setIfInBounds_toArray, List.set_cons_zero, List.set_cons_succ])
    refine wpAnyH_ready (rs := [6]) (by kernel_rfl) (by simp) ?_
    refine AllReadyH.cons (o := _) rfl (fun K hK => ?_) AllReadyH.nil
    go_simp
    refine (spec_l8Head (nm := nm) (s := clT cl) HN.out HHR.out HK.out hcap).mono ?_; rw [HCH.out]; rintro e w5 ⟨rfl, hb5⟩
    try go_wp2_with fail
    refine hK.out _ _ (CAR.out _ (below_of_drew hb5)) (fun hHeld => ?_)
    clear hK K
    (try simp only [Act.put, List.setIfInBounds_toArray, List.set_cons_zero, List.set_cons_succ])
    refine wpAnyH_ready (rs := [7]) (by kernel_rfl) (by simp) ?_
    refine AllReadyH.cons (o := _) rfl (fun K hK => ?_) AllReadyH.nil
    go_simp
    refine (spec_l1Times haz hcz hft.out).mono ?_; rintro e w6 ⟨rfl, rfl⟩
    try go_wp2_with fail
    refine hK.out _ _ (CAR.out _ (below_of_drew hb5)) (fun hHeld => ?_)
    clear hK K
    (try simp only [Act.put, List.setIfInBounds_toArray, List.set_cons_zero, List.set_cons_succ])
    refine wpAnyH_ready (rs := [11]) (by kernel_rfl) (by simp) ?_
    refine AllReadyH.cons (o := _) rfl (fun K hK => ?_) AllReadyH.nil
    go_simp
    refine (IH.out (timesS a (H cl)) _ (by omega) (HA.out.times hcN.out) (HHR.out.up hb5)).mono ?_; rintro e w7 ⟨rfl, hb7⟩
    have hb7 := below_go hb5 hb7
    try go_wp2_with fail
    refine hK.out _ _ (CAR.out _ (below_of_drew hb7)) (fun hHeld => ?_)
    clear hK K
    (try simp only [Act.put, List.setIfInBounds_toArray, List.set_cons_zero, List.set_cons_succ])
    refine takeH 12 27 (v := ?_) rfl (by kernel_rfl) (by kernel_rfl) (by kernel_rfl) (fun _ _ _ h => h) (Or.inl ⟨by rfl, ?_⟩) (by assumption) ?_
    rotate_left
    ·(intro w hSw; (try dsimp only at hSw); go_simp) <;> with_reducible rfl
    (try simp only [Act.put, List.setIfInBounds_toArray, List.set_cons_zero, List.set_cons_succ])
    refine takeH 13 40 (v := ?_) rfl (by kernel_rfl) (by kernel_rfl) (by kernel_rfl) (fun _ _ _ h => h) (Or.inl ⟨by rfl, ?_⟩) (by assumption) ?_
    rotate_left
    ·(intro w hSw; (try dsimp only at hSw); go_simp) <;> with_reducible rfl
    (try simp only [Act.put, List.setIfInBounds_toArray, List.set_cons_zero, List.set_cons_succ])
    refine takeH 14 41 (v := ?_) rfl (by kernel_rfl) (by kernel_rfl) (by kernel_rfl) (fun _ _ _ h => h) (Or.inl ⟨by rfl, ?_⟩) (by assumption) ?_
    rotate_left
    ·(intro w hSw; (try dsimp only at hSw); go_simp) <;> with_reducible rfl
    (try simp only [Act.put, List.setIfInBounds_toArray, List.set_cons_zero, List.set_cons_succ])
    refine takeH 15 14 (v := ?_) rfl (by kernel_rfl) (by kernel_rfl) (by kernel_rfl) (fun _ _ _ h => h) (Or.inl ⟨by rfl, ?_⟩) (by assumption) ?_
    rotate_left
    ·(intro w hSw; (try dsimp only at hSw); go_simp) <;> with_reducible rfl
    (try simp only [Act.put, List.setIfInBounds_toArray, List.set_cons_zero, List.set_cons_succ])
    refine takeH 16 15 (v := ?_) rfl (by kernel_rfl) (by kernel_rfl) (by kernel_rfl) (fun _ _ _ h => h) (Or.inl ⟨by rfl, ?_⟩) (by assumption) ?_
    rotate_left
    ·(intro w hSw; (try dsimp only at hSw); go_simp) <;> with_reducible rfl
    (try simp only [Act.put, List.setIfInBounds_toArray, List.set_cons_zero, List.set_cons_succ])
    refine wpAnyH_done (by kernel_rfl) ?_ _
    (try simp only [Act.put, List.setIfInBounds_toArray, List.set_cons_zero, List.set_cons_succ])
    obtain ⟨lw, hlw⟩ : ∃ u, u = leastW H tg k (timesS a (H cl)) := ⟨_, rfl⟩
    rw [← hlw] at HN2 ⊢
    have HLW := Lib.hid hlw.symm
    have HBX := Lib.hid (below_of_drew hb7)
    clear hlw hb5 hb7 hHeld C0
    rcases lw with _ | v
    ·go_wp2
     go_roundw
     case rel => exact ⟨j + 1, by omega, by go_num, Lib.hid (fun b hb => by
      rcases Nat.lt_or_ge b.val j with q | q
      ·exact HLOW.out b q
      ·have : b = cl := Fin.ext (by omega)
       rw [this]; exact HLW.out), Lib.hid (below_go HBW.out HBX.out)⟩
     case measure => simp [intOf]; omega
    ·have HE : Hid (leastW H tg m a = some (cl :: v)) := Lib.hid (by rw [HM.out]; exact HHIT.out cl v (fun b hb => HLOW.out b (by have : b.val < cl.val := hb; omega)) HLW.out)
     have hvl := HN2.out v rfl
     have hov : ¬ 9223372036854775807 < (clT cl).size + (wT v).size := by rw [clT_size, wT_size, hvl]; omega
     have HWT : Hid (wT (cl :: v) = clT cl ++ wT v) := Lib.hid rfl
     clear hvl
     go_wp2
     go_ret2
     rw [HE.out]
     exact ⟨rfl, below_go HB0.out (below_go HBR.out HBX.out)⟩
   ·obtain rfl : j = 3 := by omega
    have HE : Hid (leastW H tg m a = none) := Lib.hid (by rw [HM.out]; exact HMIS.out (fun b => HLOW.out b b.isLt))
    have hjI : ¬ ((3 : Nat) : Int) < 3 := by omega
    go_wp2
    go_ret2
    rw [HE.out]
    exact ⟨rfl, below_go HB0.out HBR.out⟩
set_option maxHeartbeats 2000000 in
set_option maxRecDepth 100000 in
theorem spec_RepairTouch {A : Option Addr} {n c st : Nat} {nm : ByteArray} {l : List ByteArray} {kb ks a b : ByteArray} {w : World} (hn : l.length = n) (h : Strs w A l) (hz : n ≤ 1048576) (hs : ∀ s ∈ l, s.size ≤ 16777216) (hnm : nm.size ≤ 16777216) (h9 : st ≤ 1000) (hkb : kb.size ≤ 16777216) (hks : ks.size ≤ 16777216) (ha : a.size ≤ 16777216) (hb : b.size ≤ 16777216) (hcap : n ≤ c) :
  Calls Tryz.prog 37 #[.agg #[.string nm, .int .i64 st, .slice A n c], .agg #[.string kb, .string ks], .string a, .string b] w fun e w' => e = .returned (.tuple #[.string (lstT (rtO nm st l kb ks a b)), .bool (rtO nm st l kb ks a b).isSome]) ∧ Below w.heap.size w w' := by
 have HT := Lib.hid (@rtO_t nm st l kb ks a b)
 have HF := Lib.hid (@rtO_f nm st l kb ks a b)
 have b0 : Below w.heap.size w ((w.alloc (.cells ⟨[.string nm, .int .i64 st, .slice A n c]⟩ 25)).alloc (.cells ⟨[.string kb, .string ks]⟩ 27)) := by (repeat' (first | (with_reducible exact Below.refl _ _) | (with_reducible assumption) | (with_reducible refine below_drewN ?_ _) | (with_reducible refine Below.drew ?_) | (with_reducible refine below_alloc ?_ _) | (with_reducible refine Below.alloc ?_ ?_ _) | (with_reducible refine Below.setCell ?_ ?_ _) | (with_reducible refine below_go ?_ (by with_reducible assumption)) | (with_reducible refine below_then (by with_reducible assumption) ?_ ?_) | go_size))
 have K0 := (Blk.at_ w 25 [.string nm, .int .i64 st, .slice A n c] (b := w.heap.size) rfl).alloc (.cells ⟨[.string kb, .string ks]⟩ 27)
 have K1 := Blk.at_ (w.alloc (.cells ⟨[.string nm, .int .i64 st, .slice A n c]⟩ 25)) 27 [.string kb, .string ks] (b := w.heap.size + 1) (by simp)
 have H1 := h.up b0
 clear h
 go_in
 go_upto_region 1 with fail
 obtain ⟨w0, hw0⟩ : ∃ u, u = ((w.alloc (.cells #[.string nm, .int .i64 st, .slice A n c] 25)).alloc (.cells #[.string kb, .string ks] 27)) := ⟨_, rfl⟩
 rw [← hw0] at b0 K0 K1 H1 ⊢
 clear hw0
 ·have k0 := K0.cell 0; have k1 := K0.cell 1; have k2 := K0.cell 2; have j0 := K1.cell 0; have j1 := K1.cell 1
  simp only [List.getElem?_cons_zero, List.getElem?_cons_succ] at k0 k1 k2 j0 j1
  go_wp2_with fail
  clear k0 k1 k2 j0 j1
  refine (spec_l15Asked (nm := nm) hn H1 hz hs hnm h9 hkb hks ha hb).mono ?_; rintro e w1 ⟨rfl, hb1⟩
  have B1 := below_go b0 hb1
  replace K0 := K0.up hb1
  replace K1 := K1.up hb1
  have H2 := H1.up hb1
  clear H1 hb1 b0
  rcases hg : rpB nm st l kb ks a b
  ·have E := Lib.hid (HF.out hg)
   clear hg
   go_wp2
   go_ret2
   rw [E.out]
   exact ⟨rfl, B1⟩
  ·have ET := Lib.hid (HT.out hg)
   obtain ⟨hkk, h4, hra, hrb, hne⟩ := rpB_t hg
   have k0 := K0.cell 0; have k1 := K0.cell 1; have k2 := K0.cell 2; have j0 := K1.cell 0; have j1 := K1.cell 1
   simp only [List.getElem?_cons_zero, List.getElem?_cons_succ] at k0 k1 k2 j0 j1
   clear hg
   go_wp2_with fail
   clear k0 k1 k2 j0 j1
   refine (spec_l15Layers (nm := nm) (tg := b) hn H2 hkk hcap hra).mono ?_; rintro e w2 ⟨A2, m2, c2, vs2, rfl, T2, hb2⟩
   have B2 := below_go B1 hb2
   replace K0 := K0.up hb2
   replace K1 := K1.up hb2
   have H3 := H2.up hb2
   clear hb2 B1 H2
   rcases hl : layR (clH st l kb ks) a b with _ | M
   ·have E := Lib.hid (ET.out.trans (repW_none hl))
    rw [hl] at T2
    clear hl
    go_wp2
    go_ret2
    rw [E.out]
    exact ⟨rfl, B2⟩
   ·obtain ⟨v, e1, e2, e3, e4, e5⟩ := repW_some hl
    obtain ⟨_, ⟨d, h1, h2, h3, _⟩, _⟩ := layR_ok hl
    rw [hl] at T2
    have hml : M.length = m2 := T2.nlen
    have hm8 : m2 - 1 ≤ 8 := by omega
    have hw1 : IntKind.i64.wrap ((m2 : Int) - 1) = ((m2 - 1 : Nat) : Int) := by rw [wrap_id (by omega)]; omega
    have E := Lib.hid (ET.out.trans e1)
    rw [hml] at e2
    have E2 := Lib.hid e2
    have k0 := K0.cell 0; have k1 := K0.cell 1; have k2 := K0.cell 2; have j0 := K1.cell 0; have j1 := K1.cell 1
    simp only [List.getElem?_cons_zero, List.getElem?_cons_succ] at k0 k1 k2 j0 j1
    clear hl e1 e2 e3 e4 e5 h1 h2 h3 T2 hml
    go_wp2_with fail
    clear k0 k1 k2 j0 j1
    refine (spec_l15Least (nm := nm) (tg := b) hn hkk hcap (m2 - 1) a _ hm8 hra H3).mono ?_; rw [E2.out]; rintro e w3 ⟨rfl, hb3⟩
    go_wp2
    go_ret2
    rw [E.out]
    exact ⟨rfl, below_go B2 hb3⟩
set_option maxHeartbeats 2000000 in
set_option maxRecDepth 100000 in
theorem spec_RepairLayers {A : Option Addr} {n c st : Nat} {nm : ByteArray} {l : List ByteArray} {kb ks a b : ByteArray} {w : World} (hn : l.length = n) (h : Strs w A l) (hz : n ≤ 1048576) (hs : ∀ s ∈ l, s.size ≤ 16777216) (hnm : nm.size ≤ 16777216) (h9 : st ≤ 1000) (hkb : kb.size ≤ 16777216) (hks : ks.size ≤ 16777216) (ha : a.size ≤ 16777216) (hb : b.size ≤ 16777216) (hcap : n ≤ c) :
  Calls Tryz.prog 55 #[.agg #[.string nm, .int .i64 st, .slice A n c], .agg #[.string kb, .string ks], .string a, .string b] w fun e w' => ∃ A' m c' vs, e = .returned (.tuple #[.slice A' m c', .bool (rlO nm st l kb ks a b).isSome]) ∧ TabT w' w.heap.size A' m c' vs ((rlO nm st l kb ks a b).getD []) ∧ Below w.heap.size w w' := by
 have HT := Lib.hid (@rlO_t nm st l kb ks a b)
 have HF := Lib.hid (@rlO_f nm st l kb ks a b)
 have b0 : Below w.heap.size w ((w.alloc (.cells ⟨[.string nm, .int .i64 st, .slice A n c]⟩ 25)).alloc (.cells ⟨[.string kb, .string ks]⟩ 27)) := by (repeat' (first | (with_reducible exact Below.refl _ _) | (with_reducible assumption) | (with_reducible refine below_drewN ?_ _) | (with_reducible refine Below.drew ?_) | (with_reducible refine below_alloc ?_ _) | (with_reducible refine Below.alloc ?_ ?_ _) | (with_reducible refine Below.setCell ?_ ?_ _) | (with_reducible refine below_go ?_ (by with_reducible assumption)) | (with_reducible refine below_then (by with_reducible assumption) ?_ ?_) | go_size))
 have K0 := (Blk.at_ w 25 [.string nm, .int .i64 st, .slice A n c] (b := w.heap.size) rfl).alloc (.cells ⟨[.string kb, .string ks]⟩ 27)
 have K1 := Blk.at_ (w.alloc (.cells ⟨[.string nm, .int .i64 st, .slice A n c]⟩ 25)) 27 [.string kb, .string ks] (b := w.heap.size + 1) (by simp)
 have H1 := h.up b0
 clear h
 go_in
 go_upto_region 1 with fail
 obtain ⟨w0, hw0⟩ : ∃ u, u = ((w.alloc (.cells #[.string nm, .int .i64 st, .slice A n c] 25)).alloc (.cells #[.string kb, .string ks] 27)) := ⟨_, rfl⟩
 rw [← hw0] at b0 K0 K1 H1 ⊢
 clear hw0
 ·have k0 := K0.cell 0; have k1 := K0.cell 1; have k2 := K0.cell 2; have j0 := K1.cell 0; have j1 := K1.cell 1
  simp only [List.getElem?_cons_zero, List.getElem?_cons_succ] at k0 k1 k2 j0 j1
  go_wp2_with fail
  clear k0 k1 k2 j0 j1
  refine (spec_l15Asked (nm := nm) hn H1 hz hs hnm h9 hkb hks ha hb).mono ?_; rintro e w1 ⟨rfl, hb1⟩
  have B1 := below_go b0 hb1
  replace K0 := K0.up hb1
  replace K1 := K1.up hb1
  have H2 := H1.up hb1
  clear H1 hb1 b0
  rcases hg : rpB nm st l kb ks a b
  ·have E := Lib.hid (HF.out hg)
   clear hg
   go_wp2
   go_ret2
   rw [E.out]
   exact ⟨none, 0, 0, [], rfl, TabT.nil _ _, B1⟩
  ·have ET := Lib.hid (HT.out hg)
   obtain ⟨hkk, h4, hra, hrb, hne⟩ := rpB_t hg
   have k0 := K0.cell 0; have k1 := K0.cell 1; have k2 := K0.cell 2; have j0 := K1.cell 0; have j1 := K1.cell 1
   simp only [List.getElem?_cons_zero, List.getElem?_cons_succ] at k0 k1 k2 j0 j1
   clear hg
   go_wp2_with fail
   clear k0 k1 k2 j0 j1
   refine (spec_l15Layers (nm := nm) (tg := b) hn H2 hkk hcap hra).mono ?_; rintro e w2 ⟨A2, m2, c2, vs2, rfl, T2, hb2⟩
   go_wp2
   go_ret2
   rw [ET.out]
   exact ⟨A2, m2, c2, vs2, rfl, T2.base_le B1.size, below_go B1 hb2⟩
end Go.Proofs.YtidolgonmimicaaGreat
namespace Go.Proofs.YtidolgonmimicaaGreat
open Go.ChangeShapes Go.WideShapes Go.ChangeAt Go.RowKit Go.Deep
open Go.Maps (Keyed string_keyed int_keyed)
open Go.Maps (keyOf_int_mk)
theorem Below.step {w0 w w' : World} (C : Below w0.heap.size w0 w) (hb : Below w.heap.size w w') : Below w0.heap.size w0 w' := C.trans (hb.mono C.size)
def triL (p q r : Bool) (X Y Z : ByteArray) : List (Lit × DataW Unit) :=
 (if q = true then [(.int .u8 98, .lit (sLi Y))] else []) ++ ((if p = true then [(.int .u8 112, .lit (sLi X))] else []) ++ (if r = true then [(.int .u8 115, .lit (sLi Z))] else []))
theorem triL_len (p q r : Bool) (X Y Z : ByteArray) : (triL p q r X Y Z).length ≤ 3 := by cases p <;> cases q <;> cases r <;> simp [triL]
theorem triL_p (p q r : Bool) (X Y Z : ByteArray) : (DataW.map (triL p q r X Y Z)).put (.int .u8 112) (.lit (sLi X)) = .map (triL true q r X Y Z) := by cases p <;> cases q <;> cases r <;> rfl
theorem triL_q (p q r : Bool) (X Y Z : ByteArray) : (DataW.map (triL p q r X Y Z)).put (.int .u8 98) (.lit (sLi Y)) = .map (triL p true r X Y Z) := by cases p <;> cases q <;> cases r <;> rfl
theorem triL_r (p q r : Bool) (X Y Z : ByteArray) : (DataW.map (triL p q r X Y Z)).put (.int .u8 115) (.lit (sLi Z)) = .map (triL p q true X Y Z) := by cases p <;> cases q <;> cases r <;> rfl
def Tri (P : Program) (X Y Z : ByteArray) (w0 w : World) (b : Nat) (p q r : Bool) : Prop := w0.heap.size ≤ b ∧ Below w0.heap.size w0 w ∧ w.ownsMap P 5 (plainElem P 9) b 3 (.map (triL p q r X Y Z))
def IsTri (P : Program) (X Y Z : ByteArray) (w0 w : World) (b : Nat) : Prop := ∃ p q r, Tri P X Y Z w0 w b p q r
section
variable {P : Program} {w0 w w' : World} {b : Nat} {p q r : Bool} {X Y Z : ByteArray}
theorem Tri.made (C : Below w0.heap.size w0 w) : Tri P X Y Z w0 (w.alloc (.map #[] 0)) w.heap.size false false false :=
 ⟨C.size, C.alloc C.size _, ownsMap_tight (l := triL false false false X Y Z) (World.ownsMap_made w P _ _) (triL_len _ _ _ _ _ _)⟩
theorem Tri.up (h : Tri P X Y Z w0 w b p q r) (hb : Below w.heap.size w w') : Tri P X Y Z w0 w' b p q r := ⟨h.1, Below.step h.2.1 hb, h.2.2.kept (grown_of_below hb) (by simp)⟩
theorem Tri.c (h : Tri P X Y Z w0 w b p q r) : Below w0.heap.size w0 w := h.2.1
theorem IsTri.c (h : IsTri P X Y Z w0 w b) : Below w0.heap.size w0 w := by obtain ⟨p, q, r, h⟩ := h; exact h.2.1
theorem IsTri.up (h : IsTri P X Y Z w0 w b) (hb : Below w.heap.size w w') : IsTri P X Y Z w0 w' b := by obtain ⟨p, q, r, h⟩ := h; exact ⟨p, q, r, h.up hb⟩
theorem IsTri.made (C : Below w0.heap.size w0 w) : IsTri P X Y Z w0 (w.alloc (.map #[] 0)) w.heap.size := ⟨_, _, _, Tri.made C⟩
theorem Tri.put (h : Tri P X Y Z w0 w b p q r) (K : Keyed P 5) {t : TypeId} (ht : P.underlying t = some (.map 5 9)) (he : P.underlying 9 = some .string) {key : Value} {kl : Lit} (hkey : keyOf P 5 key = some kl) {x : ByteArray} (hx : x.size ≤ 16777216) {p' q' r' : Bool}
  (hL : (DataW.map (triL p q r X Y Z)).put kl (.lit (sLi x)) = .map (triL p' q' r' X Y Z)) :
  (Instr.mapUpdate t (.map (some b)) key (.string x)).run P w = .ok () (putW P t b key (.string x) w) ∧ Tri P X Y Z w0 (putW P t b key (.string x) w) b p' q' r' := by
 obtain ⟨h1, h2, h3⟩ := h
 obtain ⟨w', hrun, hown, hg⟩ := h3.update K ht (by decide) hkey (sLi_pe he hx)
 rw [putW_eq hrun]
 rw [hL] at hown
 exact ⟨hrun, h1, h2.trans ((Below.refl _ _).grown hg h2.size fun k hk => by injection hk with hk; rw [← hk]; exact h1), ownsMap_tight hown (triL_len _ _ _ _ _ _)⟩
end
theorem Tri.get {P : Program} {w0 w : World} {b : Nat} {X Y Z : ByteArray} (h : Tri P X Y Z w0 w b true true true) (K : Keyed P 5) {t : TypeId} (ht : P.underlying t = some (.map 5 9)) (he : P.underlying 9 = some .string)
  (hz : (zeroValue 9).run P w = .ok (.string ByteArray.empty) w) (k1 : keyOf P 5 (.int .u8 112) = some (.int .u8 112)) (k2 : keyOf P 5 (.int .u8 98) = some (.int .u8 98)) (k3 : keyOf P 5 (.int .u8 115) = some (.int .u8 115)) :
  (Instr.lookup t (.map (some b)) (.int .u8 112) false).run P w = .ok (.string X) w ∧ (Instr.lookup t (.map (some b)) (.int .u8 98) false).run P w = .ok (.string Y) w ∧ (Instr.lookup t (.map (some b)) (.int .u8 115) false).run P w = .ok (.string Z) w := by
 have go : ∀ (a : Int) (x : ByteArray), keyOf P 5 (.int .u8 a) = some (.int .u8 a) → (DataW.map (triL true true true X Y Z)).atKey (.int .u8 a) (.lit (sLi ByteArray.empty)) = .lit (sLi x) → (Instr.lookup t (.map (some b)) (.int .u8 a) false).run P w = .ok (.string x) w := by
  intro a x hkey hat
  obtain ⟨v, ps, hrun, hv⟩ := h.2.2.lookup K ht hz (sLi_pe he (by decide)) hkey
  rw [hat] at hv
  rw [hrun, sLi_in he _ _ _ hv]
 exact ⟨go 112 X k1 rfl, go 98 Y k2 rfl, go 115 Z k3 rfl⟩
def Holds (I : World → Nat → Prop) (u : World) (b : Nat) : Prop := I u b
theorem heads_kit {P : Program} (w0 : World) {X Y Z : ByteArray} (K : Keyed P 5) {t : TypeId} (ht : P.underlying t = some (.map 5 9)) (he : P.underlying 9 = some .string) (hu : P.underlying 5 = some (.int .u8)) (hX : X.size ≤ 16777216) (hY : Y.size ≤ 16777216) (hZ : Z.size ≤ 16777216) :
  ∃ (T : World → Nat → Bool → Bool → Bool → Prop) (I : World → Nat → Prop) (PP PQ PR : World → Nat → World),
   (∀ u b, Holds I u b → Below w0.heap.size w0 u) ∧ (∀ u b p q r, T u b p q r → Holds I u b) ∧ (∀ u b, Holds I u b → Holds I (PP u b) b) ∧ (∀ u b, Holds I u b → Holds I (PQ u b) b) ∧ (∀ u b, Holds I u b → Holds I (PR u b) b) ∧
   (∀ u b, Holds I u b → Sem.run P (Instr.mapUpdate t (.map (some b)) (.int .u8 112) (.string X)) u = .ok () (PP u b)) ∧ (∀ u b, Holds I u b → Sem.run P (Instr.mapUpdate t (.map (some b)) (.int .u8 98) (.string Y)) u = .ok () (PQ u b)) ∧ (∀ u b, Holds I u b → Sem.run P (Instr.mapUpdate t (.map (some b)) (.int .u8 115) (.string Z)) u = .ok () (PR u b)) ∧
   (∀ u, Below w0.heap.size w0 u → T (u.alloc (.map #[] 0)) u.heap.size false false false) ∧ (∀ u u' b p q r, T u b p q r → Below u.heap.size u u' → T u' b p q r) ∧
   (∀ u b p q r, T u b p q r → T (PP u b) b true q r) ∧ (∀ u b p q r, T u b p q r → T (PQ u b) b p true r) ∧ (∀ u b p q r, T u b p q r → T (PR u b) b p q true) ∧ (∀ u b p q r, T u b p q r → Tri P X Y Z w0 u b p q r) := by
 have hp : ∀ u b p q r, Tri P X Y Z w0 u b p q r → _ := fun u b p q r h => h.put K ht he (keyOf_int_mk hu (a := 112) (by decide)) hX (triL_p p q r X Y Z)
 have hq : ∀ u b p q r, Tri P X Y Z w0 u b p q r → _ := fun u b p q r h => h.put K ht he (keyOf_int_mk hu (a := 98) (by decide)) hY (triL_q p q r X Y Z)
 have hr : ∀ u b p q r, Tri P X Y Z w0 u b p q r → _ := fun u b p q r h => h.put K ht he (keyOf_int_mk hu (a := 115) (by decide)) hZ (triL_r p q r X Y Z)
 refine ⟨Tri P X Y Z w0, IsTri P X Y Z w0, fun u b => putW P t b (.int .u8 112) (.string X) u, fun u b => putW P t b (.int .u8 98) (.string Y) u, fun u b => putW P t b (.int .u8 115) (.string Z) u, fun u b h => h.c, fun u b p q r h => ⟨p, q, r, h⟩, ?_, ?_, ?_, ?_, ?_, ?_, fun u h => Tri.made h, fun u u' b p q r h hb => h.up hb, fun u b p q r h => (hp u b p q r h).2, fun u b p q r h => (hq u b p q r h).2, fun u b p q r h => (hr u b p q r h).2, fun _ _ _ _ _ h => h⟩
 ·rintro u b ⟨p, q, r, h⟩; exact ⟨_, _, _, (hp u b p q r h).2⟩
 ·rintro u b ⟨p, q, r, h⟩; exact ⟨_, _, _, (hq u b p q r h).2⟩
 ·rintro u b ⟨p, q, r, h⟩; exact ⟨_, _, _, (hr u b p q r h).2⟩
 ·rintro u b ⟨p, q, r, h⟩; exact (hp u b p q r h).1
 ·rintro u b ⟨p, q, r, h⟩; exact (hq u b p q r h).1
 ·rintro u b ⟨p, q, r, h⟩; exact (hr u b p q r h).1
set_option maxHeartbeats 40000000 in
set_option maxRecDepth 100000 in
theorem impl_heads {A : Option Addr} {n c st : Nat} {nm : ByteArray} {l : List ByteArray} {kb ks : ByteArray} {t : ByteArray} {w : World} (hn : l.length = n) (h : Strs w A l) (hk : goodK nm (st : Int) l kb ks = true) (hg : goodT t = true) :
  Calls Tryz.prog 131 #[.agg #[.string nm, .int .i64 st, .slice A n c], .agg #[.string kb, .string ks], .string t] w fun e w' => ∃ A' c', e = .returned (.slice A' (t.size + 1) c') ∧ Owned strE 1 9 w' w.heap.size A' (t.size + 1) c' (hdsL st l kb ks t (t.size + 1)) ∧ Below w.heap.size w w' := by
 have b0 : Below w.heap.size w ((w.alloc (.cells ⟨[.string nm, .int .i64 st, .slice A n c]⟩ 25)).alloc (.cells ⟨[.string kb, .string ks]⟩ 27)) := by (repeat' (first | (with_reducible exact Below.refl _ _) | (with_reducible assumption) | (with_reducible refine below_drewN ?_ _) | (with_reducible refine Below.drew ?_) | (with_reducible refine below_alloc ?_ _) | (with_reducible refine Below.alloc ?_ ?_ _) | (with_reducible refine Below.setCell ?_ ?_ _) | (with_reducible refine below_go ?_ (by with_reducible assumption)) | (with_reducible refine below_then (by with_reducible assumption) ?_ ?_) | go_size))
 have K0 := (Blk.at_ w 25 [.string nm, .int .i64 st, .slice A n c] (b := w.heap.size) rfl).alloc (.cells ⟨[.string kb, .string ks]⟩ 27)
 have K1 := Blk.at_ (w.alloc (.cells ⟨[.string nm, .int .i64 st, .slice A n c]⟩ 25)) 27 [.string kb, .string ks] (b := w.heap.size + 1) (by simp)
 have hmm := @run_makeMap Tryz.prog
 have KU := int_keyed (P := Tryz.prog) (k := 5) Tryz.underlying5
 go_in
 go_upto_region 1 with fail
 obtain ⟨w0, hw0⟩ : ∃ u, u = ((w.alloc (.cells #[.string nm, .int .i64 st, .slice A n c] 25)).alloc (.cells #[.string kb, .string ks] 27)) := ⟨_, rfl⟩
 rw [← hw0] at b0 K0 K1 ⊢
 clear hw0
 have H0 := Lib.hid (h.up b0)
 have carry : Hid (∀ u : World, Below w0.heap.size w0 u → (u.cell? ⟨w.heap.size, 0, none⟩ = some (.string nm) ∧ u.cell? ⟨w.heap.size, 1, none⟩ = some (.int .i64 st) ∧ u.cell? ⟨w.heap.size, 2, none⟩ = some (.slice A n c)) ∧ u.cell? ⟨w.heap.size + 1, 0, none⟩ = some (.string kb) ∧ u.cell? ⟨w.heap.size + 1, 1, none⟩ = some (.string ks)) := Lib.hid (fun u hu => by
  have L0 := K0.up hu; have L1 := K1.up hu
  exact ⟨⟨by simpa using L0.cell 0, by simpa using L0.cell 1, by simpa using L0.cell 2⟩, by simpa using L1.cell 0, by simpa using L1.cell 1⟩)
 clear h K0 K1
 have cf := Lib.hid (fun (u : World) (s : ByteArray) (hb : Below w0.heap.size w0 u) => impl_callHead (c := c) (s := s) hn (H0.out.up hb) hk)
 have C0 : Below w0.heap.size w0 w0.drew := (Below.refl _ _).drew
 have PG := Lib.hid (callHd_good hk)
 have PS := Lib.hid (fun s => show (callHd st l kb ks s).size ≤ 16777216 from by rw [(PG.out s).2]; have := (goodK_all hk).1; omega)
 obtain ⟨T, I, PP, PQ, PR, hC, hTI, HIP, HIQ, HIR, HUP, HUQ, HUR, hM, hU, hP, hQ, hR, hT⟩ := heads_kit (P := Tryz.prog) w0 KU Tryz.underlying171 Tryz.underlying9 Tryz.underlying5 (PS.out ⟨#[112]⟩) (PS.out ⟨#[98]⟩) (PS.out ⟨#[115]⟩)
 have HC := Lib.hid hC; have TI := Lib.hid hTI; have TM := Lib.hid hM; have TU := Lib.hid hU; have TP := Lib.hid hP; have TQ := Lib.hid hQ; have TR := Lib.hid hR; have TT := Lib.hid hT
 clear hC hTI hM hU hP hQ hR hT
 have N0 := TU.out _ _ _ _ _ _ (TM.out w0 (Below.refl _ _)) (Below.refl _ _).drew
 have M0 := TI.out _ _ _ _ _ N0
 go_cut [7] (fun s7 wx => ∃ b, s7 = .map (some b) ∧ T wx b true true true)
 case first =>
  go_region_held3 (fun u => (u.cell? ⟨w.heap.size, 0, none⟩ = some (.string nm) ∧ u.cell? ⟨w.heap.size, 1, none⟩ = some (.int .i64 st) ∧ u.cell? ⟨w.heap.size, 2, none⟩ = some (.slice A n c)) ∧ u.cell? ⟨w.heap.size + 1, 0, none⟩ = some (.string kb) ∧ u.cell? ⟨w.heap.size + 1, 1, none⟩ = some (.string ks)) (first | exact carry.out _ (by first | assumption | (apply HC.out; repeat (with_reducible first | assumption | apply HIP | apply HIQ | apply HIR)))) (first
   | (go_at_call 124; ((with_reducible refine (cf.out _ _ (by first | assumption | (apply HC.out; repeat (with_reducible first | assumption | apply HIP | apply HIQ | apply HIR)))).mono ?_); rintro e w1 ⟨rfl, hb1⟩; (first | (have N := TU.out _ _ _ _ _ _ (by assumption) hb1) | (have N := TU.out _ _ _ _ _ _ (TP.out _ _ _ _ _ (by assumption)) hb1) | (have N := TU.out _ _ _ _ _ _ (TQ.out _ _ _ _ _ (by assumption)) hb1) | (have N := TU.out _ _ _ _ _ _ (TQ.out _ _ _ _ _ (TP.out _ _ _ _ _ (by assumption))) hb1) | (have N := TU.out _ _ _ _ _ _ (TP.out _ _ _ _ _ (TQ.out _ _ _ _ _ (by assumption))) hb1) | (have C := Below.step (w0 := w0) (by assumption) hb1; have N := TM.out _ C)); have M := TI.out _ _ _ _ _ N; have MP := HIP _ _ M; have MQ := HIQ _ _ M; have MR := HIR _ _ M)))
  all_goals
   go_wp2_with fail
   go_meet
   refine ⟨_, rfl, ?_⟩
   repeat (with_reducible first | assumption | apply TP.out | apply TQ.out | apply TR.out)
 case rest =>
  obtain ⟨b, rfl, hT0⟩ := hcut
  have hT := TT.out _ _ _ _ _ hT0
  clear hT0 HIP HIQ HIR HUP HUQ HUR N0 M0
  rename World => w1
  obtain ⟨⟨k0, k1, k2⟩, q0, q1⟩ := carry.out _ hT.c
  have hB1 := b0.trans (hT.c.mono b0.size)
  obtain ⟨h8, h40, _⟩ := goodK_all hk
  have gb := PlainAid.get_bt t
  obtain ⟨ht1, ht60, htl⟩ := goodT_t hg
  have HL := Lib.hid htl
  have HD := Lib.hid (fun k => hdAt_good h8.1 h8.2 l kb ks t k)
  have H1 : Hid (Owned strE 1 9 (w1.alloc (.cells #[.string (roundsS st)] 9)) w1.heap.size (some ⟨w1.heap.size, 0, none⟩) 1 1 (hdsL st l kb ks t 1)) := Lib.hid ⟨strE_len, by simp [hdsL], by simpa [hdsL, hdAt, strE] using World.ownsRow_lit (e := 9) (base := w1.heap.size) (size := 1) w1 #[.string (roundsS st)] 1 (Nat.le_refl _) (by decide) (by simp)⟩
  clear htl hmm
  go_wp2_with fail
  refine (impl_rounds h8.2).mono ?_; rintro e w' ⟨rfl, rfl⟩
  go_wp2
  go_loopw [8, 9, 29] (fun r v i wr => ∃ (k : Nat) (A' : Option Addr) (m c' : Nat), k ≤ t.size ∧ i = .int .i64 k ∧ r = .string (hdAt st l kb ks t k) ∧ v = .slice A' m c' ∧ m = k + 1 ∧ Owned strE 1 9 wr w1.heap.size A' m c' (hdsL st l kb ks t (k + 1)) ∧ Below w1.heap.size w1 wr) (fun _ _ i _ => t.size - (intOf i).toNat)
  case atStart => exact ⟨0, _, _, _, Nat.zero_le _, rfl, rfl, rfl, rfl, H1.out, by (repeat' (first | (with_reducible exact Below.refl _ _) | (with_reducible assumption) | (with_reducible refine below_drewN ?_ _) | (with_reducible refine Below.drew ?_) | (with_reducible refine below_alloc ?_ _) | (with_reducible refine Below.alloc ?_ ?_ _) | (with_reducible refine Below.setCell ?_ ?_ _) | (with_reducible refine below_go ?_ (by with_reducible assumption)) | (with_reducible refine below_then (by with_reducible assumption) ?_ ?_) | go_size))⟩
  case round =>
   obtain ⟨k, A', m, c', hk1, rfl, rfl, rfl, rfl, ho, hb⟩ := hrel
   have HO := Lib.hid ho
   have hsz := hb.size
   clear ho
   by_cases hlt : k < t.size
   ·have hLK := (hT.up hb).get KU Tryz.underlying171 Tryz.underlying9 (by kernel_rfl) (keyOf_int_mk Tryz.underlying5 (by decide)) (keyOf_int_mk Tryz.underlying5 (by decide)) (keyOf_int_mk Tryz.underlying5 (by decide))
    have LK : Sem.run Tryz.prog (Instr.lookup 171 (.map (some b)) (.int .u8 (PlainAid.bt t k)) false) wr = .ok (.string (callHd st l kb ks (letter t k))) wr := by
     have hcb := HL.out k hlt
     by_cases f1 : PlainAid.bt t k = 112
     ·rw [f1, letter_p hlt f1]; exact hLK.1
     ·by_cases f2 : PlainAid.bt t k = 98
      ·rw [f2, letter_b hlt f2]; exact hLK.2.1
      ·have f3 : PlainAid.bt t k = 115 := by
        rw [callB] at hcb
        simpa [f1, f2] using hcb
       rw [f3, letter_s hlt f3]; exact hLK.2.2
    clear hLK
    have p1 := PG.out (letter t k)
    have p2 := HD.out k
    have z1 : (hdAt st l kb ks t k).size ≤ 16777216 := by rw [p2.2]; omega
    have z2 : (callHd st l kb ks (letter t k)).size ≤ 16777216 := by rw [p1.2]; omega
    have hf : fits (hdAt st l kb ks t k) (callHd st l kb ks (letter t k)) := fits_good p1.1 (by rw [p1.2, p2.2])
    have E := Lib.hid (show timesS (hdAt st l kb ks t k) (callHd st l kb ks (letter t k)) = hdAt st l kb ks t (k + 1) from rfl)
    have HT := Lib.hid (hdsL_succ st l kb ks t (k + 1))
    clear p1 p2
    go_wp2_with (first | (go_at_call 123; refine (impl_times z1 z2 hf).mono ?_; rw [E.out]; rintro e w2 ⟨rfl, hb2⟩; have HO1 := Lib.hid (HO.out.up hb2); have hsz1 := hb2.size) | (at_builtin; go_must ((refine wpList_append_rec Tryz.elStr rfl (.tmp 39) (.tmp 41) rfl rfl (HO1.out.alloc _) (hdAt st l kb ks t (k + 1)) rfl (Box.at_ _ [.string (hdAt st l kb ks t (k + 1))] _ ?_) (strE_one _) ?_ (by decide) ?_ ?_; (focus (first | omega | (simp only [World.size_alloc]; done) | (simp only [World.size_alloc]; omega) | (simp; done) | (simp; omega))); (focus (first | omega | (simp only [World.size_alloc]; done) | (simp only [World.size_alloc]; omega) | (simp; done) | (simp; omega))); (focus (first | omega | (simp only [World.size_alloc]; done) | (simp only [World.size_alloc]; omega) | (simp; done) | (simp; omega))); intro A2 c2 w3 ho3 hg3 hb3))))
    go_roundw
    case rel => exact ⟨k + 1, A2, k + 1 + 1, c2, by omega, by go_num, rfl, by go_num, rfl, by rw [HT.out]; exact ho3, ((hb.trans (hb2.mono hsz)).alloc (by omega) _).trans hb3⟩
    case measure => simp [intOf]; omega
   ·obtain rfl : k = t.size := by omega
    go_wp2
    go_ret
    exact ⟨_, _, rfl, HO.out.base_le hB1.size, below_go hB1 hb⟩
end Go.Proofs.YtidolgonmimicaaGreat
namespace Go.Proofs.YtidolgonmimicaaGreat
open Go.ChangeShapes Go.WideShapes Go.ChangeAt Go.RowKit Go.Deep
end Go.Proofs.YtidolgonmimicaaGreat
namespace Go.Proofs.YtidolgonmimicaaGreat
open Go.ChangeShapes Go.WideShapes Go.ChangeAt Go.RowKit Go.Deep
open Go.Maps (Keyed)
def MapX {α : Type} (en : α → Value) (li : α → Lit) (P : Program) (w : World) (k e : TypeId) (b m : Nat) (f : Value → Option α) : Prop :=
 ∃ D : DataW Unit, w.ownsMap P k (plainElem P e) b m D ∧ Maps.size D = m ∧ ∀ key kl, keyOf P k key = some kl → (f key = none → Maps.has D kl = false ∧ ∀ z, D.atKey kl z = z) ∧ ∀ x, f key = some x → Maps.has D kl = true ∧ ∀ z, D.atKey kl z = .lit (li x)
section
variable {α : Type} {en : α → Value} {li : α → Lit} {P : Program} {w w' : World} {k e : TypeId} {b m : Nat} {f : Value → Option α}
theorem MapX.made (en : α → Value) (li : α → Lit) (P : Program) (w : World) (k e : TypeId) : MapX en li P (w.alloc (.map #[] 0)) k e w.heap.size 0 (fun _ => none) :=
 ⟨.map [], World.ownsMap_made w P k _, rfl, fun key kl _ => ⟨fun _ => ⟨rfl, fun _ => rfl⟩, fun x hx => by cases hx⟩⟩
theorem MapX.lt (h : MapX en li P w k e b m f) : b < w.heap.size := by
 obtain ⟨D, h1, _⟩ := h
 exact h1.lt
theorem MapX.kept {row : Option Nat} (h : MapX en li P w k e b m f) (hg : w.grownBy w' row) (hne : some b ≠ row) : MapX en li P w' k e b m f := by
 obtain ⟨D, h1, h2⟩ := h
 exact ⟨D, h1.kept hg hne, h2⟩
theorem MapX.up (h : MapX en li P w k e b m f) (hb : Below w.heap.size w w') : MapX en li P w' k e b m f := h.kept (grown_of_below hb) (by simp)
theorem MapX.alloc (h : MapX en li P w k e b m f) (o : Obj) : MapX en li P (w.alloc o) k e b m f := h.up ((Below.refl _ _).alloc (Nat.le_refl _) o)
theorem MapX.drew (h : MapX en li P w k e b m f) : MapX en li P w.drew k e b m f := h.up (Below.refl _ _).drew
theorem MapX.as {m' : Nat} {f' : Value → Option α} (h : MapX en li P w k e b m f) (hm : m = m') (hf : ∀ q, f q = f' q) : MapX en li P w k e b m' f' := by
 have e1 : f = f' := funext hf
 subst hm e1
 exact h
theorem MapX.look {t : TypeId} {z : α} (h : MapX en li P w k e b m f) (K : Keyed P k) (ht : P.underlying t = some (.map k e)) (hz : (zeroValue e).run P w = .ok (en z) w) (hzd : plainElem (H := Unit) P e (en z) = some (.lit (li z), [])) (hin : ∀ v x ps, plainElem (H := Unit) P e v = some (.lit (li x), ps) → v = en x)
  {key : Value} {kl : Lit} (hkey : keyOf P k key = some kl) : (Instr.lookup t (.map (some b)) key false).run P w = .ok (en ((f key).getD z)) w := by
 obtain ⟨D, h1, _, h2⟩ := h
 obtain ⟨v, ps, hrun, hv⟩ := h1.lookup K ht hz hzd hkey
 obtain ⟨a1, a2⟩ := h2 key kl hkey
 rcases hf : f key with _ | x
 ·rw [(a1 hf).2] at hv
  rw [hrun, hin _ _ _ hv]; rfl
 ·rw [(a2 x hf).2] at hv
  rw [hrun, hin _ _ _ hv]; rfl
theorem MapX.len {t : TypeId} (h : MapX en li P w k e b m f) (ht : P.underlying t = some (.map k e)) (ty : TypeId) : (Builtin.len_ #[t] ty #[.map (some b)]).run P w = .ok (.int .i64 m) w := by
 obtain ⟨D, h1, h3, _⟩ := h
 rw [h1.len ht ty, h3]
theorem ownsMap_tight2 {H : Type} {R : Value → Option (DataW H × List MemPlace)} {n : Nat} {D : DataW H} (h : w.ownsMap P k R b n D) : w.ownsMap P k R b (Maps.size D) D := by
 have hm := h.isMap
 cases D with
 | map l => exact ownsMap_tight h (Nat.le_of_eq rfl)
 | _ => exact absurd hm (by simp [Maps.IsMap])
theorem MapX.put {t : TypeId} (K : Keyed P k) (ht : P.underlying t = some (.map k e)) (h : MapX en li P w k e b m f) (hn : m ≤ 16777216) {key : Value} {x : α}
  {kl : Lit} (hkey : keyOf P k key = some kl) (hpe : plainElem (H := Unit) P e (en x) = some (.lit (li x), [])) : ∃ w', (Instr.mapUpdate t (.map (some b)) key (en x)).run P w = .ok () w' ∧ (∀ (m' : Nat) (g : Value → Option α), m' = (if (f key).isSome then m else m + 1) → g key = some x → (∀ q, q ≠ key → g q = f q) → MapX en li P w' k e b m' g) ∧ w.grownBy w' (some b) := by
 obtain ⟨D, h1, h3, h2⟩ := h
 obtain ⟨w', hrun, hown, hg⟩ := h1.update K ht (by unfold maxLen; omega) hkey hpe
 refine ⟨w', hrun, fun m' g hm' g1 g2 => ?_, hg⟩
 have e0 : Maps.size (D.put kl (.lit (li x))) = m' := by
  rw [Maps.size_put (h1.tidy K), h3, hm']
  obtain ⟨a1, a2⟩ := h2 key kl hkey
  rcases hf : f key with _ | y
  ·rw [(a1 hf).1]; simp
  ·rw [(a2 y hf).1]; simp
 refine ⟨_, e0 ▸ ownsMap_tight2 hown, e0, fun key' kl' hk' => ?_⟩
 by_cases ek : kl' = kl
 ·subst ek
  have e1 : key' = key := K.inj hk' hkey
  subst e1
  rw [g1]
  refine ⟨fun q => (by cases q), fun y hy => ?_⟩
  injection hy with hy
  subst hy
  exact ⟨Maps.has_put_same h1.isMap (K.key hkey) _, fun z => Maps.atKey_put_same h1.isMap (K.key hkey) _ _⟩
 ·have e1 : key' ≠ key := fun e2 => ek (by rw [e2, hkey] at hk'; injection hk' with hk'; exact hk'.symm)
  rw [g2 _ e1, Maps.has_put_other ek]
  obtain ⟨a1, a2⟩ := h2 key' kl' hk'
  exact ⟨fun q => ⟨(a1 q).1, fun z => by rw [Maps.atKey_put_other ek]; exact (a1 q).2 z⟩, fun y q => ⟨(a2 y q).1, fun z => by rw [Maps.atKey_put_other ek]; exact (a2 y q).2 z⟩⟩
theorem MapX.drop {t : TypeId} (K : Keyed P k) (ht : P.underlying t = some (.map k e)) (h : MapX en li P w k e b m f) {key : Value}
  {kl : Lit} (hkey : keyOf P k key = some kl) (ty : TypeId) : ∃ w', (Builtin.delete_ #[t, k] ty #[.map (some b), key]).run P w = .ok (.tuple #[]) w' ∧ (∀ (m' : Nat) (g : Value → Option α), m' + (if (f key).isSome then 1 else 0) = m → g key = none → (∀ q, q ≠ key → g q = f q) → MapX en li P w' k e b m' g) ∧ w.grownBy w' (some b) := by
 obtain ⟨D, h1, h3, h2⟩ := h
 obtain ⟨w', hrun, hown, hg⟩ := h1.drop K ht hkey ty
 refine ⟨w', hrun, fun m' g hm' g1 g2 => ?_, hg.grown⟩
 have e0 : Maps.size (D.del kl) = m' := by
  have e9 := Maps.size_del (k := kl) (h1.tidy K)
  rw [h3, ← hm'] at e9
  obtain ⟨a1, a2⟩ := h2 key kl hkey
  rcases hf : f key with _ | y
  ·rw [(a1 hf).1, hf] at e9; simp at e9; omega
  ·rw [(a2 y hf).1, hf] at e9; simp at e9; omega
 refine ⟨_, e0 ▸ ownsMap_tight2 hown, e0, fun key' kl' hk' => ?_⟩
 by_cases ek : kl' = kl
 ·subst ek
  have e1 : key' = key := K.inj hk' hkey
  subst e1
  rw [g1]
  exact ⟨fun _ => ⟨Maps.has_del_same, fun z => Maps.atKey_del_same _⟩, fun y hy => (by cases hy)⟩
 ·have e1 : key' ≠ key := fun e2 => ek (by rw [e2, hkey] at hk'; injection hk' with hk'; exact hk'.symm)
  rw [g2 _ e1, Maps.has_del_other ek]
  obtain ⟨a1, a2⟩ := h2 key' kl' hk'
  exact ⟨fun q => ⟨(a1 q).1, fun z => by rw [Maps.atKey_del_other ek]; exact (a1 q).2 z⟩, fun y q => ⟨(a2 y q).1, fun z => by rw [Maps.atKey_del_other ek]; exact (a2 y q).2 z⟩⟩
end
section
variable {α : Type} {en : α → Value} {li : α → Lit} {P : Program} {ops : Array Oper} {rest : List Oper} {o : Oper} {a : Act} {Q : Exit → Act → World → Prop} {W : World} {k e : TypeId} {b n : Nat} {f : Value → Option α}
end
def bLi (x : Bool) : Lit := .bool x
def bEn (x : Bool) : Value := .bool x
end Go.Proofs.YtidolgonmimicaaGreat
