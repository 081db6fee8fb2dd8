/- Texts 9 of 9 that the claim leans on: plain laws and the walks' contracts, in order. -/
import Derived.Test.YtidolgonmimicaaGreatMSearch8
import Derived.Deep.Cut
import Derived.Deep.DeepCutAuto
set_option linter.unusedVariables false
set_option linter.unusedSimpArgs false
namespace Go.Proofs.YtidolgonmimicaaGreat
open Go.ChangeShapes Go.WideShapes Go.ChangeAt Go.RowKit Go.Deep
theorem run_T {cut : ByteArray → Option Cut3} {n : Nat} : ∀ (b : Nat) (S T : List ByteArray) (C : List Cut3), (∀ p ∈ S, p.size ≤ n) → (∀ t ∈ T, t.size ≤ n) → ∀ t ∈ (runF cut n b S T C).T, t.size ≤ n
 | 0, S, T, C, _, h, t, hm => h t hm
 | b + 1, [], T, C, _, h, t, hm => h t hm
 | b + 1, p :: S, T, C, hS, h, t, hm => by
  have hp := hS p (List.mem_cons_self ..)
  have hS' : ∀ q ∈ S, q.size ≤ n := fun q hq => hS q (List.mem_cons_of_mem _ hq)
  cases hx : cut p with
  | some x =>
   rw [run_cut hx] at hm
   exact run_T b S T _ hS' h t hm
  | none =>
   by_cases hn : p.size = n
   ·rw [run_touch hx hn] at hm
    refine run_T b S _ C hS' (fun y hy => ?_) t hm
    rcases List.mem_append.1 hy with q | q
    ·exact h y q
    ·rw [List.mem_singleton.1 q]; exact hp
   ·rw [run_kids hx hn] at hm
    refine run_T b _ T C (fun q hq => ?_) h t hm
    rcases List.mem_append.1 hq with g | g
    ·have := kid_size g; omega
    ·exact hS' q g
theorem stR_T (nm : ByteArray) (st : Nat) (l : List ByteArray) (kb ks : ByteArray) (N bd : Nat) : ∀ t ∈ (stR nm st l kb ks N bd).T, t.size ≤ N := by
 intro t ht
 rw [stR] at ht
 split at ht
 ·exact run_T _ _ _ _ (fun p hp => by rw [List.mem_singleton.1 hp]; exact Nat.zero_le _) (fun c hc => by cases hc) t ht
 ·cases ht
def FndS (w : World) (f lo : Nat) : Prop := ∃ (AT : Option Addr) (nT cT : Nat) (T : List ByteArray) (AC : Option Addr) (nC cC : Nat) (C : List Cut3) (ok : Bool), Blk w f 75 [.slice AT nT cT, .slice AC nC cC, .bool ok] ∧ (T.length = nT ∧ nT ≤ 5001 ∧ Strs w AT T ∧ (∀ t ∈ T, t.size ≤ 100) ∧ (0 < T.length → ∀ a, AT = some a → lo ≤ a.block)) ∧ C.length = nC ∧ nC ≤ 5001 ∧ Recs cutE 3 w AC C ∧ (∀ c ∈ C, c.1.size ≤ 100) ∧ (0 < C.length → ∀ a, AC = some a → lo ≤ a.block)
theorem FndS.mk {w : World} {f lo : Nat} {AT : Option Addr} {nT cT : Nat} {T : List ByteArray} {AC : Option Addr} {nC cC : Nat} {C : List Cut3} {ok : Bool} (h : Blk w f 75 [.slice AT nT cT, .slice AC nC cC, .bool ok]) (h1 : T.length = nT) (h2 : nT ≤ 5001) (h3 : Strs w AT T) (h9 : 0 < T.length → ∀ a, AT = some a → lo ≤ a.block) (h4 : ∀ t ∈ T, t.size ≤ 100) (h5 : C.length = nC) (h6 : nC ≤ 5001) (h7 : Recs cutE 3 w AC C) (h10 : 0 < C.length → ∀ a, AC = some a → lo ≤ a.block) (h8 : ∀ c ∈ C, c.1.size ≤ 100) : FndS w f lo :=
 ⟨AT, nT, cT, T, AC, nC, cC, C, ok, h, ⟨h1, h2, h3, h4, h9⟩, h5, h6, h7, h8, h10⟩
theorem own_lo {α : Type} {e : α → List Value} {s : Nat} {E : TypeId} {w : World} {base : Nat} {A : Option Addr} {n c : Nat} {l : List α} (h : Owned e s E w base A n c l) : 0 < l.length → ∀ a, A = some a → base ≤ a.block := fun h0 a ea => by
 obtain ⟨g, hA, hg, _⟩ := h.at_ (by rw [← h.len]; exact h0)
 rw [hA] at ea
 injection ea with ea
 subst ea
 exact hg
theorem Recs.past {α : Type} {e : α → List Value} {s : Nat} {w w' : World} {A : Option Addr} {l : List α} {p : Nat} (h : Recs e s w A l) (hg : w.grownBy w' (some p)) (hne : 0 < l.length → ∀ a, A = some a → a.block ≠ p) : Recs e s w' A l := by
 refine ⟨h.1, h.2.1, fun hn => ?_⟩
 obtain ⟨b, off, e, hlt, hc⟩ := h.2.2 hn
 have hb : b ≠ p := by have := hne hn _ e; exact this
 refine ⟨b, off, e, Nat.lt_of_lt_of_le hlt hg.size, fun j u hu => (hg.cell_far ⟨b, _, none⟩ hlt (fun e => by injection e with e; exact hb e)).trans (hc j u hu)⟩
theorem Tryz.tailCuts (b o n c : Nat) (h1 : 1 ≤ n) (u : World) : (Instr.slice 73 (.slice (some ⟨b, o, none⟩) n c) (some (.int .i64 1)) none none).run Tryz.prog u = .ok (.slice (some ⟨b, tailOff o 3 c, none⟩) (n - 1) (c - 1)) u := by
 have e1 : Tryz.prog.underlying 73 = some (.slice (Tryz.prog.elem 73)) := by kernel_rfl
 have e2 : (sizeOf (Tryz.prog.elem 73)).run Tryz.prog u = .ok 3 u := by kernel_rfl
 rw [run_slice_l (P := Tryz.prog) (w := u) 73 (some ⟨b, o, none⟩) n c e1 .i64 1 (by omega) (by omega), e2]
 simp only [Result.andThen_ok, sliced, tailOff]
 by_cases hc : c = 1
 ·rw [if_pos hc, if_pos (by omega)]; rfl
 ·rw [if_neg hc, if_neg (by omega)]; rfl
set_option maxHeartbeats 16000000 in
set_option maxRecDepth 100000 in
theorem draw_CheckFound {A : Option Addr} {n c : Nat} {w : World} (hS : Src w A n) :
  Calls Tryz.prog 63 #[.slice A n c] w fun e w' => ∃ (nm : ByteArray) (st : Nat) (A1 : Option Addr) (n1 c1 : Nat) (L : List ByteArray) (kb ks : ByteArray) (N : Nat) (AT : Option Addr) (nT cT : Nat) (T : List ByteArray) (AC : Option Addr) (nC cC : Nat) (C : List Cut3) (ok : Bool), e = .returned (.tuple #[.agg #[.string nm, .int .i64 st, .slice A1 n1 c1], .agg #[.string kb, .string ks], .int .i64 N, .agg #[.slice AT nT cT, .slice AC nC cC, .bool ok]]) ∧ drM nm st L ∧ kb.size ≤ 8 ∧ ks.size ≤ 8 ∧ N ≤ 7 ∧ (T.length = nT ∧ nT ≤ 5001 ∧ Strs w' AT T ∧ ∀ t ∈ T, t.size ≤ 100) ∧ (C.length = nC ∧ nC ≤ 5001 ∧ Recs cutE 3 w' AC C ∧ ∀ c ∈ C, c.1.size ≤ 100) ∧ Owned strE 1 9 w' w.heap.size A1 n1 c1 L ∧ Below w.heap.size w w' := by
 have hn : n ≤ 9223372036854775807 := by obtain ⟨l, h1, h2, _⟩ := hS; exact h2
 have R := ((Blk.at_ w 25 [.string ⟨#[]⟩, .int .i64 0, .slice none 0 0] (b := w.heap.size) rfl).alloc (.cells #[.string ⟨#[]⟩, .string ⟨#[]⟩] 27)).alloc (.cells #[.slice none 0 0, .slice none 0 0, .bool false] 75)
 have Q := (Blk.at_ (w.alloc (.cells #[.string ⟨#[]⟩, .int .i64 0, .slice none 0 0] 25)) 27 [.string ⟨#[]⟩, .string ⟨#[]⟩] (b := w.heap.size + 1) (by simp)).alloc (.cells #[.slice none 0 0, .slice none 0 0, .bool false] 75)
 have X := Blk.at_ ((w.alloc (.cells #[.string ⟨#[]⟩, .int .i64 0, .slice none 0 0] 25)).alloc (.cells #[.string ⟨#[]⟩, .string ⟨#[]⟩] 27)) 75 [.slice none 0 0, .slice none 0 0, .bool false] (b := w.heap.size + 1 + 1) (by simp)
 have b0 : Below w.heap.size w (((w.alloc (.cells #[.string ⟨#[]⟩, .int .i64 0, .slice none 0 0] 25)).alloc (.cells #[.string ⟨#[]⟩, .string ⟨#[]⟩] 27)).alloc (.cells #[.slice none 0 0, .slice none 0 0, .bool false] 75)) := by (repeat' (first | (with_reducible exact Below.refl _ _) | (with_reducible assumption) | (with_reducible refine below_drewN ?_ _) | (with_reducible refine Below.drew ?_) | (with_reducible refine below_alloc ?_ _) | (with_reducible refine Below.alloc ?_ ?_ _) | (with_reducible refine Below.setCell ?_ ?_ _) | (with_reducible refine below_go ?_ (by with_reducible assumption)) | (with_reducible refine below_then (by with_reducible assumption) ?_ ?_) | go_size))
 have HSW := Lib.hid hS
 go_in
 go_wp2_with fail
 obtain ⟨w1, hw1⟩ : ∃ u, u = (((w.alloc (.cells #[.string ⟨#[]⟩, .int .i64 0, .slice none 0 0] 25)).alloc (.cells #[.string ⟨#[]⟩, .string ⟨#[]⟩] 27)).alloc (.cells #[.slice none 0 0, .slice none 0 0, .bool false] 75)) := ⟨_, rfl⟩
 have z1 : w1.heap.size = w.heap.size + 3 := by rw [hw1]; simp
 rw [← hw1] at b0 R Q X ⊢
 clear hw1
 refine (draw_SearchTouches (hS.over b0)).mono ?_; rintro e v ⟨nm, st, A2, m, c2, L, kb, ks, N, bd, rfl, hdr, zkb, zks, hN7, hbd, ho, hv⟩
 have HDR := Lib.hid hdr
 have hdf := drM_f13 hdr
 have HLl := Lib.hid ho.len
 have hcap := ho.cap.1
 have HLB := Lib.hid (fun k (hk : (Value.slice A2 m c2).ownBlock = some k) => (ho.blk hk).2)
 rw [z1] at ho
 have HO := Lib.hid ho
 have s1 := hv.size
 have HB := Lib.hid (below_go b0 hv)
 replace R := R.up hv
 replace Q := Q.up hv
 replace X := X.up hv
 clear hS ho hdr hv b0
 have htd : (n : Int).tdiv 2 = ((n / 2 : Nat) : Int) := by rw [Int.tdiv_eq_ediv_of_nonneg (by omega)]; rfl
 have hwr : IntKind.i64.wrap ((n / 2 : Nat) : Int) = ((n / 2 : Nat) : Int) := wrap_id (by omega)
 have hle : ((n / 2 : Nat) : Int) ≤ (n : Int) := by omega
 have HH := Lib.hid (HSW.out.half c)
 go_upto_region 3 with fail
 clear htd hwr hle
 obtain ⟨A5, hA5⟩ : ∃ u, u = (if c = n / 2 then A else Option.map (fun x => x.add (n / 2)) A) := ⟨_, rfl⟩
 obtain ⟨n5, hn5⟩ : ∃ u, u = n - n / 2 := ⟨_, rfl⟩
 obtain ⟨c5, hc5⟩ : ∃ u, u = c - n / 2 := ⟨_, rfl⟩
 rw [← hA5, ← hn5] at HH
 rw [← hA5, ← hn5, ← hc5]
 clear hA5 hn5 hc5
 obtain ⟨b, hbv⟩ : ∃ u, u = v.heap.size := ⟨_, rfl⟩
 have a1 : Below v.heap.size v ((v.alloc (.cells #[.string nm, .int .i64 (st : Int), .slice A2 m c2] 25)).alloc (.cells #[.string kb, .string ks] 27)) := by (repeat' (first | (with_reducible exact Below.refl _ _) | (with_reducible assumption) | (with_reducible refine below_drewN ?_ _) | (with_reducible refine Below.drew ?_) | (with_reducible refine below_alloc ?_ _) | (with_reducible refine Below.alloc ?_ ?_ _) | (with_reducible refine Below.setCell ?_ ?_ _) | (with_reducible refine below_go ?_ (by with_reducible assumption)) | (with_reducible refine below_then (by with_reducible assumption) ?_ ?_) | go_size))
 have K := ((Blk.at_ v 25 [.string nm, .int .i64 (st : Int), .slice A2 m c2] (b := v.heap.size) rfl).alloc (.cells #[.string kb, .string ks] 27))
 have J := (Blk.at_ (v.alloc (.cells #[.string nm, .int .i64 (st : Int), .slice A2 m c2] 25)) 27 [.string kb, .string ks] (b := v.heap.size + 1) (by simp))
 replace R := R.up a1
 replace Q := Q.up a1
 replace X := X.up a1
 replace HO := Lib.hid (HO.out.up a1)
 replace HB := Lib.hid (below_go HB.out a1)
 clear a1
 have hz2 : ((v.alloc (.cells #[.string nm, .int .i64 (st : Int), .slice A2 m c2] 25)).alloc (.cells #[.string kb, .string ks] 27)).heap.size = v.heap.size + 1 + 1 := by simp
 have HC := Lib.hid (cur_fresh ((v.alloc (.cells #[.string nm, .int .i64 (st : Int), .slice A2 m c2] 25)).alloc (.cells #[.string kb, .string ks] 27)) A5 n5 c5)
 rw [hz2] at HC
 obtain ⟨v2, hv2⟩ : ∃ u, u = ((v.alloc (.cells #[.string nm, .int .i64 (st : Int), .slice A2 m c2] 25)).alloc (.cells #[.string kb, .string ks] 27)) := ⟨_, rfl⟩
 rw [← hv2] at K J R Q X HO HB HC hz2 ⊢
 clear hv2
 have a2 : Below v2.heap.size v2 (v2.alloc (.cells #[.slice A5 n5 c5, .int .i64 0, .int .u64 0] 87)) := by (repeat' (first | (with_reducible exact Below.refl _ _) | (with_reducible assumption) | (with_reducible refine below_drewN ?_ _) | (with_reducible refine Below.drew ?_) | (with_reducible refine below_alloc ?_ _) | (with_reducible refine Below.alloc ?_ ?_ _) | (with_reducible refine Below.setCell ?_ ?_ _) | (with_reducible refine below_go ?_ (by with_reducible assumption)) | (with_reducible refine below_then (by with_reducible assumption) ?_ ?_) | go_size))
 replace K := K.up a2
 replace J := J.up a2
 replace R := R.up a2
 replace Q := Q.up a2
 replace X := X.up a2
 replace HO := Lib.hid (HO.out.up a2)
 replace HB := Lib.hid (below_go HB.out a2)
 clear a2
 have hz3 : (v2.alloc (.cells #[.slice A5 n5 c5, .int .i64 0, .int .u64 0] 87)).heap.size = v2.heap.size + 1 := by simp
 obtain ⟨v3, hv3⟩ : ∃ u, u = v2.alloc (.cells #[.slice A5 n5 c5, .int .i64 0, .int .u64 0] 87) := ⟨_, rfl⟩
 rw [← hv3] at K J R Q X HO HB HC hz3 ⊢
 clear hv3
 rw [← hbv] at K J HC hz2 HLB s1 ⊢
 rw [z1] at s1
 clear hbv z1
 have hbz : w.heap.size + 3 ≤ b := s1
 obtain ⟨p, hp⟩ : ∃ u, u = b + 1 + 1 := ⟨_, rfl⟩
 rw [← hp] at HC hz2 ⊢
 have hp0 : w.heap.size ≤ p := by omega
 have hpb : b + 1 < p := by omega
 have hpz : p < v3.heap.size := by omega
 clear hp hz2 hz3 s1
 have kc0 := K.cell 0; have kc1 := K.cell 1; have kc2 := K.cell 2; have jc0 := J.cell 0; have jc1 := J.cell 1
 simp only [List.getElem?_cons_zero, List.getElem?_cons_succ] at kc0 kc1 kc2 jc0 jc1
 have HCS := Lib.hid (stR_C nm st L kb ks N 5000)
 have HTS := Lib.hid (stR_T nm st L kb ks N 5000)
 go_wp2_with fail
 refine (spec_SearchTouches (nm := nm) (bd := 5000) HLl.out HO.out.recs (by have := HLl.out; omega) hdf.2.2.2.1 hdf.1 hdf.2.1 (by omega) (by omega) (by omega) (by omega) hcap).mono ?_; intro e u7 hx7
 obtain ⟨AT, nT, cT, AC, nC, cC, rfl, hoT, hoC, hnT, hnC, hb7⟩ := hx7
 clear kc0 kc1 kc2 jc0 jc1
 have HOC := Lib.hid hoC
 have HOT := Lib.hid hoT
 have s7 := hb7.size
 clear hoT hoC
 replace R := R.up hb7
 replace Q := Q.up hb7
 replace X := X.up hb7
 replace K := K.up hb7
 replace J := J.up hb7
 replace HO := Lib.hid (HO.out.up hb7)
 replace HB := Lib.hid (below_go HB.out hb7)
 replace HC := Lib.hid (HC.out.up hb7)
 clear hb7
 obtain ⟨⟨rl, T, C, okf⟩, hRR⟩ : ∃ u, u = stR nm st L kb ks N 5000 := ⟨_, rfl⟩
 rw [← hRR] at HOC HCS HOT HTS ⊢
 dsimp only at HOC HCS HOT HTS ⊢
 clear hRR
 obtain ⟨ok, hok⟩ : ∃ u, u = stOk nm st L kb ks N 5000 := ⟨_, rfl⟩
 rw [← hok]
 clear hok
 obtain ⟨bs, hbs⟩ : ∃ u, u = v3.heap.size := ⟨_, rfl⟩
 rw [← hbs] at HOC HOT s7 hpz
 clear hbs
 have F := Blk.at_ u7 75 [.slice AT nT cT, .slice AC nC cC, .bool okf] (b := u7.heap.size) rfl
 have a7 : Below u7.heap.size u7 (u7.alloc (.cells #[.slice AT nT cT, .slice AC nC cC, .bool okf] 75)) := by (repeat' (first | (with_reducible exact Below.refl _ _) | (with_reducible assumption) | (with_reducible refine below_drewN ?_ _) | (with_reducible refine Below.drew ?_) | (with_reducible refine below_alloc ?_ _) | (with_reducible refine Below.alloc ?_ ?_ _) | (with_reducible refine Below.setCell ?_ ?_ _) | (with_reducible refine below_go ?_ (by with_reducible assumption)) | (with_reducible refine below_then (by with_reducible assumption) ?_ ?_) | go_size))
 replace HOC := Lib.hid (HOC.out.up a7)
 replace HOT := Lib.hid (HOT.out.up a7)
 replace R := R.up a7
 replace Q := Q.up a7
 replace X := X.up a7
 replace K := K.up a7
 replace J := J.up a7
 replace HO := Lib.hid (HO.out.up a7)
 replace HB := Lib.hid (below_go HB.out a7)
 replace HC := Lib.hid (HC.out.up a7)
 clear a7
 go_upto_region 4 with fail
 obtain ⟨u8, hu8⟩ : ∃ u, u = u7.alloc (.cells #[.slice AT nT cT, .slice AC nC cC, .bool okf] 75) := ⟨_, rfl⟩
 rw [← hu8] at K J R Q X F HO HB HC HOC HOT ⊢
 have z8 : u8.heap.size = u7.heap.size + 1 := by rw [hu8]; simp
 obtain ⟨fx, hfx⟩ : ∃ u, u = u7.heap.size := ⟨_, rfl⟩
 rw [← hfx] at F z8 s7 ⊢
 have hfz : p < fx := by omega
 clear hu8 hfx
 go_wp2_with fail
 refine (cur_pick HH.out HB.out hp0 HC.out (by omega) (by decide) (by decide)).mono ?_; rintro e w4 ⟨k7, rfl, ⟨k70, k71⟩, hc9, hg9⟩
 have HOT' := Lib.hid (HOT.out.past hg9 (by omega))
 have HOC' := Lib.hid (HOC.out.past hg9 (by omega))
 replace HOT := HOT'
 replace HOC := HOC'
 clear HOT' HOC'
 replace R := R.grown hg9 (fun e => by injection e with e; omega)
 replace Q := Q.grown hg9 (fun e => by injection e with e; omega)
 replace X := X.grown hg9 (fun e => by injection e with e; omega)
 replace K := K.grown hg9 (fun e => by injection e with e; omega)
 replace J := J.grown hg9 (fun e => by injection e with e; omega)
 replace F := F.grown hg9 (fun e => by injection e with e; omega)
 replace HO := Lib.hid (HO.out.kept hg9 (fun k hk e => by injection e with e; have := HLB.out k hk; omega))
 replace HB := Lib.hid (grown_below HB.out hp0 hg9)
 replace HC := Lib.hid hc9
 clear hg9 hc9
 clear HC
 try clear HH
 have hk7 : k7 = 0 ∨ k7 = 1 ∨ k7 = 2 ∨ k7 = 3 ∨ 4 ≤ k7 := by omega
 clear k71
 rename_i K2 a2 K1 a1 K0 a0
 refine a0 _ _ ?_
 refine wpList_nil ?_
 refine a1 _ _ ?_
 clear a0 a1
 go_cut [] (fun wx => FndS wx fx bs ∧ (Blk wx b 25 [.string nm, .int .i64 (st : Int), .slice A2 m c2] ∧ Blk wx (b + 1) 27 [.string kb, .string ks]) ∧ (Blk wx w.heap.size 25 [.string ⟨#[]⟩, .int .i64 0, .slice none 0 0] ∧ Blk wx (w.heap.size + 1) 27 [.string ⟨#[]⟩, .string ⟨#[]⟩] ∧ Blk wx (w.heap.size + 1 + 1) 75 [.slice none 0 0, .slice none 0 0, .bool false]) ∧ Hid (Owned strE 1 9 wx (w.heap.size + 3) A2 m c2 L) ∧ Hid (Below w.heap.size w wx))
 case first =>
  rcases hk7 with rfl | rfl | rfl | rfl | hk7
  ·skip
   have fc0 := F.cell 0; have fc1 := F.cell 1; have fc2 := F.cell 2
   simp only [List.getElem?_cons_zero, List.getElem?_cons_succ] at fc0 fc1 fc2
   have ff0 := F.frozen 0; have ff1 := F.frozen 1; have ff2 := F.frozen 2
   by_cases h0 : nC = 0
   ·have hI : ¬ (0 : Int) < (nC : Int) := by omega
    go_wp2_with fail
    clear fc0 fc1 fc2 ff0 ff1 ff2
    go_meet
    exact ⟨FndS.mk F HOT.out.len (by omega) HOT.out.recs (own_lo HOT.out) (fun t ht => by have := HTS.out t ht; omega) HOC.out.len (by omega) HOC.out.recs (own_lo HOC.out) (fun c hc => by have := HCS.out c hc; omega), ⟨K, J⟩, ⟨R, Q, X⟩, HO, HB⟩
   ·have hI : (0 : Int) < (nC : Int) := by omega
    obtain ⟨gC, rfl, gC0, gC1, _, _⟩ := HOC.out.at_ (by omega)
    have hcpC := HOC.out.cap.1
    have hsl := fun u : World => Tryz.tailCuts gC 0 nC cC (by omega) u
    go_wp2_with fail
    clear fc0 fc1 fc2 ff0 ff1 ff2
    clear hsl
    have gs : w4.grownBy (w4.setCell ⟨fx, 1, none⟩ (.slice (some ⟨gC, tailOff 0 3 cC, none⟩) (nC - 1) (cC - 1))) (some fx) := only_set _ (p := ⟨fx, 1, none⟩) _
    replace K := K.grown gs (fun e => by injection e with e; omega)
    replace J := J.grown gs (fun e => by injection e with e; omega)
    replace R := R.grown gs (fun e => by injection e with e; omega)
    replace Q := Q.grown gs (fun e => by injection e with e; omega)
    replace X := X.grown gs (fun e => by injection e with e; omega)
    have HOT2 := Lib.hid (HOT.out.kept gs (fun k hk e => blkNe HOT.out F (by decide) (e.trans hk.symm)))
    have HOC2 := Lib.hid (HOC.out.kept gs (fun k hk e => blkNe HOC.out F (by decide) (e.trans hk.symm)))
    replace F := F.set_ 1 (.slice (some ⟨gC, tailOff 0 3 cC, none⟩) (nC - 1) (cC - 1))
    simp only [List.set_cons_zero, List.set_cons_succ] at F
    replace HO := Lib.hid (HO.out.kept gs (fun k hk e => by injection e with e; have := HLB.out k hk; omega))
    replace HB := Lib.hid (HB.out.grown gs HB.out.size (fun k e => by injection e with e; omega))
    replace HOT := HOT2
    replace HOC := HOC2
    clear HOT2 HOC2 gs
    obtain ⟨cx, C', rfl⟩ : ∃ x l, C = x :: l := by
     rcases C with _ | ⟨x, l⟩
     ·have := HOC.out.len; simp at this; omega
     ·exact ⟨x, l, rfl⟩
    have hCl : C'.length + 1 = nC := HOC.out.len
    go_meet
    exact ⟨FndS.mk F HOT.out.len (by omega) HOT.out.recs (own_lo HOT.out) (fun t ht => by have := HTS.out t ht; omega) (by omega) (by omega) (HOC.out.recs.tail hCl hcpC) (fun _ a ea => by injection ea with ea; subst ea; exact gC0) (fun c hc => by have := HCS.out c (List.mem_cons_of_mem _ hc); omega), ⟨K, J⟩, ⟨R, Q, X⟩, HO, HB⟩
  ·skip
   have fc0 := F.cell 0; have fc1 := F.cell 1; have fc2 := F.cell 2
   simp only [List.getElem?_cons_zero, List.getElem?_cons_succ] at fc0 fc1 fc2
   have ff0 := F.frozen 0; have ff1 := F.frozen 1; have ff2 := F.frozen 2
   by_cases h0 : nT = 0
   ·have hI : ¬ (0 : Int) < (nT : Int) := by omega
    go_wp2_with fail
    clear fc0 fc1 fc2 ff0 ff1 ff2
    go_meet
    exact ⟨FndS.mk F HOT.out.len (by omega) HOT.out.recs (own_lo HOT.out) (fun t ht => by have := HTS.out t ht; omega) HOC.out.len (by omega) HOC.out.recs (own_lo HOC.out) (fun c hc => by have := HCS.out c hc; omega), ⟨K, J⟩, ⟨R, Q, X⟩, HO, HB⟩
   ·have hI : (0 : Int) < (nT : Int) := by omega
    go_upto_region 10 with fail
    clear fc0 fc1 fc2 ff0 ff1 ff2
    have aD : Below w4.heap.size w4 w4.drew := (Below.refl _ _).drew
    replace R := R.up aD
    replace Q := Q.up aD
    replace X := X.up aD
    replace K := K.up aD
    replace J := J.up aD
    replace F := F.up aD
    replace HO := Lib.hid (HO.out.up aD)
    replace HB := Lib.hid (below_go HB.out aD)
    replace HOT := Lib.hid (HOT.out.up aD)
    replace HOC := Lib.hid (HOC.out.up aD)
    clear aD
    refine wp_region_any (by kernel_rfl) ?_
    (try (change wpAny _ _ _ _ _ _ _ (World.drew _)))
    obtain ⟨wd, hwd⟩ : ∃ u, u = w4.drew := ⟨_, rfl⟩
    rw [← hwd] at R Q X K J F HO HB HOT HOC ⊢
    clear hwd
    obtain ⟨gT, rfl, gT0, gT1, gtc, _⟩ := HOT.out.at_ (by omega)
    obtain ⟨tx, htx⟩ : ∃ x, T[0]? = some x := ⟨_, List.getElem?_eq_getElem (by rw [HOT.out.len]; omega)⟩
    have htz := HTS.out tx (List.mem_of_getElem? htx)
    have CF : Hid (∀ u : World, Below wd.heap.size wd u → u.cell? ⟨gT, 0, none⟩ = some (.string tx)) := Lib.hid (fun u hu => (hu.cell (p := ⟨gT, 0, none⟩) gT1).trans (gtc 0 tx 0 _ htx rfl))
    have HX := Lib.hid (Below.refl wd.heap.size wd)
    clear gtc htx
    refine wpAny_take (i := 0) (oi := { dst := some 52, op := _, type := _, pos := _, after := _, guard := _ }) (v := ?_) rfl (by kernel_rfl) (by kernel_rfl) (by kernel_rfl) (fun _ _ _ h => h) (Or.inl ⟨by rfl, ?_⟩) ?_
    rotate_left
    ·(intro w; go_simp) <;> with_reducible rfl
    (try simp only [Act.put, List.setIfInBounds_toArray, List.set_cons_zero, List.set_cons_succ])
    refine wpAny_take (i := 2) (oi := { dst := some 54, op := _, type := _, pos := _, after := _, guard := _ }) (v := ?_) rfl (by kernel_rfl) (by kernel_rfl) (by kernel_rfl) (fun _ _ _ h => h) (Or.inl ⟨by rfl, ?_⟩) ?_
    rotate_left
    ·(intro w; go_simp) <;> with_reducible rfl
    (try simp only [Act.put, List.setIfInBounds_toArray, List.set_cons_zero, List.set_cons_succ])
    refine wpAny_ready (rs := [1, 3]) (by kernel_rfl) (by simp) ?_
    refine AllReady.cons (o := _) rfl (fun K9 hK9 => ?_) (AllReady.cons (o := _) rfl (fun K9 hK9 => ?_) (AllReady.nil))
    ·skip
     have q0 := F.cell 0
     simp only [List.getElem?_cons_zero, List.getElem?_cons_succ] at q0
     go_simp
     refine hK9 _ _ ?_
     clear hK9 K9 q0
     (try simp only [Act.put, List.setIfInBounds_toArray, List.set_cons_zero, List.set_cons_succ])
     refine wpAny_ready (rs := [3]) (by kernel_rfl) (by simp) ?_
     refine AllReady.cons (o := _) rfl (fun K9 hK9 => ?_) (AllReady.nil)
     have q0 := F.cell 0
     simp only [List.getElem?_cons_zero, List.getElem?_cons_succ] at q0
     go_simp
     refine hK9 _ _ ?_
     clear hK9 K9 q0
     (try simp only [Act.put, List.setIfInBounds_toArray, List.set_cons_zero, List.set_cons_succ])
     refine wpAny_take (i := 4) (oi := { dst := some 56, op := _, type := _, pos := _, after := _, guard := _ }) (v := ?_) rfl (by kernel_rfl) (by kernel_rfl) (by kernel_rfl) (fun _ _ _ h => h) (Or.inl ⟨by rfl, ?_⟩) ?_
     rotate_left
     ·(intro w; go_simp) <;> with_reducible rfl
     (try simp only [Act.put, List.setIfInBounds_toArray, List.set_cons_zero, List.set_cons_succ])
     refine wpAny_ready (rs := [5]) (by kernel_rfl) (by simp) ?_
     refine AllReady.cons (o := _) rfl (fun K9 hK9 => ?_) (AllReady.nil)
     have q0 := CF.out _ HX.out
     go_simp
     refine hK9 _ _ ?_
     clear hK9 K9 q0
     (try simp only [Act.put, List.setIfInBounds_toArray, List.set_cons_zero, List.set_cons_succ])
     refine wpAny_ready (rs := [6]) (by kernel_rfl) (by simp) ?_
     refine AllReady.cons (o := _) rfl (fun K9 hK9 => ?_) (AllReady.nil)
     have ha : Below wd.heap.size wd (wd.alloc (.cells #[.string tx] 9)) := by (repeat' (first | (with_reducible exact Below.refl _ _) | (with_reducible assumption) | (with_reducible refine below_drewN ?_ _) | (with_reducible refine Below.drew ?_) | (with_reducible refine below_alloc ?_ _) | (with_reducible refine Below.alloc ?_ ?_ _) | (with_reducible refine Below.setCell ?_ ?_ _) | (with_reducible refine below_go ?_ (by with_reducible assumption)) | (with_reducible refine below_then (by with_reducible assumption) ?_ ?_) | go_size))
     have LT := Lib.hid (own_lit1_at' strE_len wd 9 tx rfl (Nat.le_refl _)).recs
     go_simp
     refine hK9 _ _ ?_
     clear hK9 K9
     replace R := R.up ha
     replace Q := Q.up ha
     replace X := X.up ha
     replace K := K.up ha
     replace J := J.up ha
     replace F := F.up ha
     replace HO := Lib.hid (HO.out.up ha)
     replace HB := Lib.hid (below_go HB.out ha)
     replace HOT := Lib.hid (HOT.out.up ha)
     replace HOC := Lib.hid (HOC.out.up ha)
     replace HX := Lib.hid (below_go HX.out ha)
     obtain ⟨wa, hwa⟩ : ∃ u, u = wd.alloc (.cells #[.string tx] 9) := ⟨_, rfl⟩
     change Hid (Recs strE 1 (wd.alloc (.cells #[.string tx] 9)) (some ⟨wd.heap.size, 0, none⟩) [tx]) at LT
     rw [← hwa] at R Q X K J F HO HB HOT HOC HX LT ⊢
     clear ha hwa
     (try simp only [Act.put, List.setIfInBounds_toArray, List.set_cons_zero, List.set_cons_succ])
     refine wpAny_ready (rs := [7]) (by kernel_rfl) (by simp) ?_
     refine AllReady.cons (o := _) rfl (fun K9 hK9 => ?_) (AllReady.nil)
     have hbs7 : bs ≤ wa.heap.size := by have := (HOT.out.at_own).2; omega
     refine step_append_recs Tryz.elStr strE_one rfl _ _ rfl (by rfl) HOT.out (by rfl) LT.out rfl (show nT + 1 ≤ 16777216 by omega) (by decide) hbs7 ?_
     intro A6 c6 w6 ho6 hg6 hl6
     refine hK9 _ _ ?_
     clear hK9 K9
     replace K := K.grown hg6 (fun e => by have := (HOT.out.blk e.symm).1; omega)
     replace J := J.grown hg6 (fun e => by have := (HOT.out.blk e.symm).1; omega)
     replace R := R.grown hg6 (fun e => by have := (HOT.out.blk e.symm).1; omega)
     replace Q := Q.grown hg6 (fun e => by have := (HOT.out.blk e.symm).1; omega)
     replace X := X.grown hg6 (fun e => by have := (HOT.out.blk e.symm).1; omega)
     replace F := F.grown hg6 (blkNe HOT.out F (by decide))
     replace HO := Lib.hid (HO.out.kept hg6 (fun k hk e => by have h1 := HLB.out k hk; have h2 := (HOT.out.blk e).1; omega))
     replace HB := Lib.hid (HB.out.grown hg6 HB.out.size (fun k e => by have h2 := (HOT.out.blk e).1; omega))
     replace HOC := Lib.hid (HOC.out.kept hg6 (HOC.out.ne HOT.out (by decide)))
     replace HOT := Lib.hid ho6
     clear ho6 hg6 hl6 CF HX LT hbs7
     (try simp only [Act.put, List.setIfInBounds_toArray, List.set_cons_zero, List.set_cons_succ])
     refine wpAny_take (i := 8) (oi := { dst := some 60, op := _, type := _, pos := _, after := _, guard := _ }) (v := ?_) rfl (by kernel_rfl) (by kernel_rfl) (by kernel_rfl) (fun _ _ _ h => h) (Or.inl ⟨by rfl, ?_⟩) ?_
     rotate_left
     ·(intro w; go_simp) <;> with_reducible rfl
     (try simp only [Act.put, List.setIfInBounds_toArray, List.set_cons_zero, List.set_cons_succ])
     refine wpAny_ready (rs := [9]) (by kernel_rfl) (by simp) ?_
     refine AllReady.cons (o := _) rfl (fun K9 hK9 => ?_) (AllReady.nil)
     have fc0 := F.cell 0; have fc1 := F.cell 1; have fc2 := F.cell 2
     simp only [List.getElem?_cons_zero, List.getElem?_cons_succ] at fc0 fc1 fc2
     have ff0 := F.frozen 0; have ff1 := F.frozen 1; have ff2 := F.frozen 2
     go_simp
     refine hK9 _ _ ?_
     clear hK9 K9
     clear fc0 fc1 fc2 ff0 ff1 ff2
     have gs : w6.grownBy (w6.setCell ⟨fx, 0, none⟩ (.slice A6 (nT + 1) c6)) (some fx) := only_set _ (p := ⟨fx, 0, none⟩) _
     replace K := K.grown gs (fun e => by injection e with e; omega)
     replace J := J.grown gs (fun e => by injection e with e; omega)
     replace R := R.grown gs (fun e => by injection e with e; omega)
     replace Q := Q.grown gs (fun e => by injection e with e; omega)
     replace X := X.grown gs (fun e => by injection e with e; omega)
     have HOT2 := Lib.hid (HOT.out.kept gs (fun k hk e => blkNe HOT.out F (by decide) (e.trans hk.symm)))
     have HOC2 := Lib.hid (HOC.out.kept gs (fun k hk e => blkNe HOC.out F (by decide) (e.trans hk.symm)))
     replace F := F.set_ 0 (.slice A6 (nT + 1) c6)
     simp only [List.set_cons_zero, List.set_cons_succ] at F
     replace HO := Lib.hid (HO.out.kept gs (fun k hk e => by injection e with e; have := HLB.out k hk; omega))
     replace HB := Lib.hid (HB.out.grown gs HB.out.size (fun k e => by injection e with e; omega))
     replace HOT := HOT2
     replace HOC := HOC2
     clear HOT2 HOC2 gs
     (try simp only [Act.put, List.setIfInBounds_toArray, List.set_cons_zero, List.set_cons_succ])
     refine wpAny_done (by kernel_rfl) ?_ _
     (try simp only [Act.put, List.setIfInBounds_toArray, List.set_cons_zero, List.set_cons_succ])
     go_wp2_with fail
     go_meet
     exact ⟨FndS.mk F HOT.out.len (by omega) HOT.out.recs (own_lo HOT.out) (fun t ht => (List.mem_append.1 ht).elim (fun q => by have := HTS.out t q; omega) (fun q => by rw [List.mem_singleton.1 q]; omega)) HOC.out.len (by omega) HOC.out.recs (own_lo HOC.out) (fun c hc => by have := HCS.out c hc; omega), ⟨K, J⟩, ⟨R, Q, X⟩, HO, HB⟩
    ·skip
     have q0 := F.cell 0
     simp only [List.getElem?_cons_zero, List.getElem?_cons_succ] at q0
     go_simp
     refine hK9 _ _ ?_
     clear hK9 K9 q0
     (try simp only [Act.put, List.setIfInBounds_toArray, List.set_cons_zero, List.set_cons_succ])
     refine wpAny_take (i := 4) (oi := { dst := some 56, op := _, type := _, pos := _, after := _, guard := _ }) (v := ?_) rfl (by kernel_rfl) (by kernel_rfl) (by kernel_rfl) (fun _ _ _ h => h) (Or.inl ⟨by rfl, ?_⟩) ?_
     rotate_left
     ·(intro w; go_simp) <;> with_reducible rfl
     (try simp only [Act.put, List.setIfInBounds_toArray, List.set_cons_zero, List.set_cons_succ])
     refine wpAny_ready (rs := [1, 5]) (by kernel_rfl) (by simp) ?_
     refine AllReady.cons (o := _) rfl (fun K9 hK9 => ?_) (AllReady.cons (o := _) rfl (fun K9 hK9 => ?_) (AllReady.nil))
     ·skip
      have q0 := F.cell 0
      simp only [List.getElem?_cons_zero, List.getElem?_cons_succ] at q0
      go_simp
      refine hK9 _ _ ?_
      clear hK9 K9 q0
      (try simp only [Act.put, List.setIfInBounds_toArray, List.set_cons_zero, List.set_cons_succ])
      refine wpAny_ready (rs := [5]) (by kernel_rfl) (by simp) ?_
      refine AllReady.cons (o := _) rfl (fun K9 hK9 => ?_) (AllReady.nil)
      have q0 := CF.out _ HX.out
      go_simp
      refine hK9 _ _ ?_
      clear hK9 K9 q0
      (try simp only [Act.put, List.setIfInBounds_toArray, List.set_cons_zero, List.set_cons_succ])
      refine wpAny_ready (rs := [6]) (by kernel_rfl) (by simp) ?_
      refine AllReady.cons (o := _) rfl (fun K9 hK9 => ?_) (AllReady.nil)
      have ha : Below wd.heap.size wd (wd.alloc (.cells #[.string tx] 9)) := by (repeat' (first | (with_reducible exact Below.refl _ _) | (with_reducible assumption) | (with_reducible refine below_drewN ?_ _) | (with_reducible refine Below.drew ?_) | (with_reducible refine below_alloc ?_ _) | (with_reducible refine Below.alloc ?_ ?_ _) | (with_reducible refine Below.setCell ?_ ?_ _) | (with_reducible refine below_go ?_ (by with_reducible assumption)) | (with_reducible refine below_then (by with_reducible assumption) ?_ ?_) | go_size))
      have LT := Lib.hid (own_lit1_at' strE_len wd 9 tx rfl (Nat.le_refl _)).recs
      go_simp
      refine hK9 _ _ ?_
      clear hK9 K9
      replace R := R.up ha
      replace Q := Q.up ha
      replace X := X.up ha
      replace K := K.up ha
      replace J := J.up ha
      replace F := F.up ha
      replace HO := Lib.hid (HO.out.up ha)
      replace HB := Lib.hid (below_go HB.out ha)
      replace HOT := Lib.hid (HOT.out.up ha)
      replace HOC := Lib.hid (HOC.out.up ha)
      replace HX := Lib.hid (below_go HX.out ha)
      obtain ⟨wa, hwa⟩ : ∃ u, u = wd.alloc (.cells #[.string tx] 9) := ⟨_, rfl⟩
      change Hid (Recs strE 1 (wd.alloc (.cells #[.string tx] 9)) (some ⟨wd.heap.size, 0, none⟩) [tx]) at LT
      rw [← hwa] at R Q X K J F HO HB HOT HOC HX LT ⊢
      clear ha hwa
      (try simp only [Act.put, List.setIfInBounds_toArray, List.set_cons_zero, List.set_cons_succ])
      refine wpAny_ready (rs := [7]) (by kernel_rfl) (by simp) ?_
      refine AllReady.cons (o := _) rfl (fun K9 hK9 => ?_) (AllReady.nil)
      have hbs7 : bs ≤ wa.heap.size := by have := (HOT.out.at_own).2; omega
      refine step_append_recs Tryz.elStr strE_one rfl _ _ rfl (by rfl) HOT.out (by rfl) LT.out rfl (show nT + 1 ≤ 16777216 by omega) (by decide) hbs7 ?_
      intro A6 c6 w6 ho6 hg6 hl6
      refine hK9 _ _ ?_
      clear hK9 K9
      replace K := K.grown hg6 (fun e => by have := (HOT.out.blk e.symm).1; omega)
      replace J := J.grown hg6 (fun e => by have := (HOT.out.blk e.symm).1; omega)
      replace R := R.grown hg6 (fun e => by have := (HOT.out.blk e.symm).1; omega)
      replace Q := Q.grown hg6 (fun e => by have := (HOT.out.blk e.symm).1; omega)
      replace X := X.grown hg6 (fun e => by have := (HOT.out.blk e.symm).1; omega)
      replace F := F.grown hg6 (blkNe HOT.out F (by decide))
      replace HO := Lib.hid (HO.out.kept hg6 (fun k hk e => by have h1 := HLB.out k hk; have h2 := (HOT.out.blk e).1; omega))
      replace HB := Lib.hid (HB.out.grown hg6 HB.out.size (fun k e => by have h2 := (HOT.out.blk e).1; omega))
      replace HOC := Lib.hid (HOC.out.kept hg6 (HOC.out.ne HOT.out (by decide)))
      replace HOT := Lib.hid ho6
      clear ho6 hg6 hl6 CF HX LT hbs7
      (try simp only [Act.put, List.setIfInBounds_toArray, List.set_cons_zero, List.set_cons_succ])
      refine wpAny_take (i := 8) (oi := { dst := some 60, op := _, type := _, pos := _, after := _, guard := _ }) (v := ?_) rfl (by kernel_rfl) (by kernel_rfl) (by kernel_rfl) (fun _ _ _ h => h) (Or.inl ⟨by rfl, ?_⟩) ?_
      rotate_left
      ·(intro w; go_simp) <;> with_reducible rfl
      (try simp only [Act.put, List.setIfInBounds_toArray, List.set_cons_zero, List.set_cons_succ])
      refine wpAny_ready (rs := [9]) (by kernel_rfl) (by simp) ?_
      refine AllReady.cons (o := _) rfl (fun K9 hK9 => ?_) (AllReady.nil)
      have fc0 := F.cell 0; have fc1 := F.cell 1; have fc2 := F.cell 2
      simp only [List.getElem?_cons_zero, List.getElem?_cons_succ] at fc0 fc1 fc2
      have ff0 := F.frozen 0; have ff1 := F.frozen 1; have ff2 := F.frozen 2
      go_simp
      refine hK9 _ _ ?_
      clear hK9 K9
      clear fc0 fc1 fc2 ff0 ff1 ff2
      have gs : w6.grownBy (w6.setCell ⟨fx, 0, none⟩ (.slice A6 (nT + 1) c6)) (some fx) := only_set _ (p := ⟨fx, 0, none⟩) _
      replace K := K.grown gs (fun e => by injection e with e; omega)
      replace J := J.grown gs (fun e => by injection e with e; omega)
      replace R := R.grown gs (fun e => by injection e with e; omega)
      replace Q := Q.grown gs (fun e => by injection e with e; omega)
      replace X := X.grown gs (fun e => by injection e with e; omega)
      have HOT2 := Lib.hid (HOT.out.kept gs (fun k hk e => blkNe HOT.out F (by decide) (e.trans hk.symm)))
      have HOC2 := Lib.hid (HOC.out.kept gs (fun k hk e => blkNe HOC.out F (by decide) (e.trans hk.symm)))
      replace F := F.set_ 0 (.slice A6 (nT + 1) c6)
      simp only [List.set_cons_zero, List.set_cons_succ] at F
      replace HO := Lib.hid (HO.out.kept gs (fun k hk e => by injection e with e; have := HLB.out k hk; omega))
      replace HB := Lib.hid (HB.out.grown gs HB.out.size (fun k e => by injection e with e; omega))
      replace HOT := HOT2
      replace HOC := HOC2
      clear HOT2 HOC2 gs
      (try simp only [Act.put, List.setIfInBounds_toArray, List.set_cons_zero, List.set_cons_succ])
      refine wpAny_done (by kernel_rfl) ?_ _
      (try simp only [Act.put, List.setIfInBounds_toArray, List.set_cons_zero, List.set_cons_succ])
      go_wp2_with fail
      go_meet
      exact ⟨FndS.mk F HOT.out.len (by omega) HOT.out.recs (own_lo HOT.out) (fun t ht => (List.mem_append.1 ht).elim (fun q => by have := HTS.out t q; omega) (fun q => by rw [List.mem_singleton.1 q]; omega)) HOC.out.len (by omega) HOC.out.recs (own_lo HOC.out) (fun c hc => by have := HCS.out c hc; omega), ⟨K, J⟩, ⟨R, Q, X⟩, HO, HB⟩
     ·skip
      have q0 := CF.out _ HX.out
      go_simp
      refine hK9 _ _ ?_
      clear hK9 K9 q0
      (try simp only [Act.put, List.setIfInBounds_toArray, List.set_cons_zero, List.set_cons_succ])
      refine wpAny_ready (rs := [1, 6]) (by kernel_rfl) (by simp) ?_
      refine AllReady.cons (o := _) rfl (fun K9 hK9 => ?_) (AllReady.cons (o := _) rfl (fun K9 hK9 => ?_) (AllReady.nil))
      ·skip
       have q0 := F.cell 0
       simp only [List.getElem?_cons_zero, List.getElem?_cons_succ] at q0
       go_simp
       refine hK9 _ _ ?_
       clear hK9 K9 q0
       (try simp only [Act.put, List.setIfInBounds_toArray, List.set_cons_zero, List.set_cons_succ])
       refine wpAny_ready (rs := [6]) (by kernel_rfl) (by simp) ?_
       refine AllReady.cons (o := _) rfl (fun K9 hK9 => ?_) (AllReady.nil)
       have ha : Below wd.heap.size wd (wd.alloc (.cells #[.string tx] 9)) := by (repeat' (first | (with_reducible exact Below.refl _ _) | (with_reducible assumption) | (with_reducible refine below_drewN ?_ _) | (with_reducible refine Below.drew ?_) | (with_reducible refine below_alloc ?_ _) | (with_reducible refine Below.alloc ?_ ?_ _) | (with_reducible refine Below.setCell ?_ ?_ _) | (with_reducible refine below_go ?_ (by with_reducible assumption)) | (with_reducible refine below_then (by with_reducible assumption) ?_ ?_) | go_size))
       have LT := Lib.hid (own_lit1_at' strE_len wd 9 tx rfl (Nat.le_refl _)).recs
       go_simp
       refine hK9 _ _ ?_
       clear hK9 K9
       replace R := R.up ha
       replace Q := Q.up ha
       replace X := X.up ha
       replace K := K.up ha
       replace J := J.up ha
       replace F := F.up ha
       replace HO := Lib.hid (HO.out.up ha)
       replace HB := Lib.hid (below_go HB.out ha)
       replace HOT := Lib.hid (HOT.out.up ha)
       replace HOC := Lib.hid (HOC.out.up ha)
       replace HX := Lib.hid (below_go HX.out ha)
       obtain ⟨wa, hwa⟩ : ∃ u, u = wd.alloc (.cells #[.string tx] 9) := ⟨_, rfl⟩
       change Hid (Recs strE 1 (wd.alloc (.cells #[.string tx] 9)) (some ⟨wd.heap.size, 0, none⟩) [tx]) at LT
       rw [← hwa] at R Q X K J F HO HB HOT HOC HX LT ⊢
       clear ha hwa
       (try simp only [Act.put, List.setIfInBounds_toArray, List.set_cons_zero, List.set_cons_succ])
       refine wpAny_ready (rs := [7]) (by kernel_rfl) (by simp) ?_
       refine AllReady.cons (o := _) rfl (fun K9 hK9 => ?_) (AllReady.nil)
       have hbs7 : bs ≤ wa.heap.size := by have := (HOT.out.at_own).2; omega
       refine step_append_recs Tryz.elStr strE_one rfl _ _ rfl (by rfl) HOT.out (by rfl) LT.out rfl (show nT + 1 ≤ 16777216 by omega) (by decide) hbs7 ?_
       intro A6 c6 w6 ho6 hg6 hl6
       refine hK9 _ _ ?_
       clear hK9 K9
       replace K := K.grown hg6 (fun e => by have := (HOT.out.blk e.symm).1; omega)
       replace J := J.grown hg6 (fun e => by have := (HOT.out.blk e.symm).1; omega)
       replace R := R.grown hg6 (fun e => by have := (HOT.out.blk e.symm).1; omega)
       replace Q := Q.grown hg6 (fun e => by have := (HOT.out.blk e.symm).1; omega)
       replace X := X.grown hg6 (fun e => by have := (HOT.out.blk e.symm).1; omega)
       replace F := F.grown hg6 (blkNe HOT.out F (by decide))
       replace HO := Lib.hid (HO.out.kept hg6 (fun k hk e => by have h1 := HLB.out k hk; have h2 := (HOT.out.blk e).1; omega))
       replace HB := Lib.hid (HB.out.grown hg6 HB.out.size (fun k e => by have h2 := (HOT.out.blk e).1; omega))
       replace HOC := Lib.hid (HOC.out.kept hg6 (HOC.out.ne HOT.out (by decide)))
       replace HOT := Lib.hid ho6
       clear ho6 hg6 hl6 CF HX LT hbs7
       (try simp only [Act.put, List.setIfInBounds_toArray, List.set_cons_zero, List.set_cons_succ])
       refine wpAny_take (i := 8) (oi := { dst := some 60, op := _, type := _, pos := _, after := _, guard := _ }) (v := ?_) rfl (by kernel_rfl) (by kernel_rfl) (by kernel_rfl) (fun _ _ _ h => h) (Or.inl ⟨by rfl, ?_⟩) ?_
       rotate_left
       ·(intro w; go_simp) <;> with_reducible rfl
       (try simp only [Act.put, List.setIfInBounds_toArray, List.set_cons_zero, List.set_cons_succ])
       refine wpAny_ready (rs := [9]) (by kernel_rfl) (by simp) ?_
       refine AllReady.cons (o := _) rfl (fun K9 hK9 => ?_) (AllReady.nil)
       have fc0 := F.cell 0; have fc1 := F.cell 1; have fc2 := F.cell 2
       simp only [List.getElem?_cons_zero, List.getElem?_cons_succ] at fc0 fc1 fc2
       have ff0 := F.frozen 0; have ff1 := F.frozen 1; have ff2 := F.frozen 2
       go_simp
       refine hK9 _ _ ?_
       clear hK9 K9
       clear fc0 fc1 fc2 ff0 ff1 ff2
       have gs : w6.grownBy (w6.setCell ⟨fx, 0, none⟩ (.slice A6 (nT + 1) c6)) (some fx) := only_set _ (p := ⟨fx, 0, none⟩) _
       replace K := K.grown gs (fun e => by injection e with e; omega)
       replace J := J.grown gs (fun e => by injection e with e; omega)
       replace R := R.grown gs (fun e => by injection e with e; omega)
       replace Q := Q.grown gs (fun e => by injection e with e; omega)
       replace X := X.grown gs (fun e => by injection e with e; omega)
       have HOT2 := Lib.hid (HOT.out.kept gs (fun k hk e => blkNe HOT.out F (by decide) (e.trans hk.symm)))
       have HOC2 := Lib.hid (HOC.out.kept gs (fun k hk e => blkNe HOC.out F (by decide) (e.trans hk.symm)))
       replace F := F.set_ 0 (.slice A6 (nT + 1) c6)
       simp only [List.set_cons_zero, List.set_cons_succ] at F
       replace HO := Lib.hid (HO.out.kept gs (fun k hk e => by injection e with e; have := HLB.out k hk; omega))
       replace HB := Lib.hid (HB.out.grown gs HB.out.size (fun k e => by injection e with e; omega))
       replace HOT := HOT2
       replace HOC := HOC2
       clear HOT2 HOC2 gs
       (try simp only [Act.put, List.setIfInBounds_toArray, List.set_cons_zero, List.set_cons_succ])
       refine wpAny_done (by kernel_rfl) ?_ _
       (try simp only [Act.put, List.setIfInBounds_toArray, List.set_cons_zero, List.set_cons_succ])
       go_wp2_with fail
       go_meet
       exact ⟨FndS.mk F HOT.out.len (by omega) HOT.out.recs (own_lo HOT.out) (fun t ht => (List.mem_append.1 ht).elim (fun q => by have := HTS.out t q; omega) (fun q => by rw [List.mem_singleton.1 q]; omega)) HOC.out.len (by omega) HOC.out.recs (own_lo HOC.out) (fun c hc => by have := HCS.out c hc; omega), ⟨K, J⟩, ⟨R, Q, X⟩, HO, HB⟩
      ·skip
       have ha : Below wd.heap.size wd (wd.alloc (.cells #[.string tx] 9)) := by (repeat' (first | (with_reducible exact Below.refl _ _) | (with_reducible assumption) | (with_reducible refine below_drewN ?_ _) | (with_reducible refine Below.drew ?_) | (with_reducible refine below_alloc ?_ _) | (with_reducible refine Below.alloc ?_ ?_ _) | (with_reducible refine Below.setCell ?_ ?_ _) | (with_reducible refine below_go ?_ (by with_reducible assumption)) | (with_reducible refine below_then (by with_reducible assumption) ?_ ?_) | go_size))
       have LT := Lib.hid (own_lit1_at' strE_len wd 9 tx rfl (Nat.le_refl _)).recs
       go_simp
       refine hK9 _ _ ?_
       clear hK9 K9
       replace R := R.up ha
       replace Q := Q.up ha
       replace X := X.up ha
       replace K := K.up ha
       replace J := J.up ha
       replace F := F.up ha
       replace HO := Lib.hid (HO.out.up ha)
       replace HB := Lib.hid (below_go HB.out ha)
       replace HOT := Lib.hid (HOT.out.up ha)
       replace HOC := Lib.hid (HOC.out.up ha)
       replace HX := Lib.hid (below_go HX.out ha)
       obtain ⟨wa, hwa⟩ : ∃ u, u = wd.alloc (.cells #[.string tx] 9) := ⟨_, rfl⟩
       change Hid (Recs strE 1 (wd.alloc (.cells #[.string tx] 9)) (some ⟨wd.heap.size, 0, none⟩) [tx]) at LT
       rw [← hwa] at R Q X K J F HO HB HOT HOC HX LT ⊢
       clear ha hwa
       (try simp only [Act.put, List.setIfInBounds_toArray, List.set_cons_zero, List.set_cons_succ])
       refine wpAny_ready (rs := [1]) (by kernel_rfl) (by simp) ?_
       refine AllReady.cons (o := _) rfl (fun K9 hK9 => ?_) (AllReady.nil)
       have q0 := F.cell 0
       simp only [List.getElem?_cons_zero, List.getElem?_cons_succ] at q0
       go_simp
       refine hK9 _ _ ?_
       clear hK9 K9 q0
       (try simp only [Act.put, List.setIfInBounds_toArray, List.set_cons_zero, List.set_cons_succ])
       refine wpAny_ready (rs := [7]) (by kernel_rfl) (by simp) ?_
       refine AllReady.cons (o := _) rfl (fun K9 hK9 => ?_) (AllReady.nil)
       have hbs7 : bs ≤ wa.heap.size := by have := (HOT.out.at_own).2; omega
       refine step_append_recs Tryz.elStr strE_one rfl _ _ rfl (by rfl) HOT.out (by rfl) LT.out rfl (show nT + 1 ≤ 16777216 by omega) (by decide) hbs7 ?_
       intro A6 c6 w6 ho6 hg6 hl6
       refine hK9 _ _ ?_
       clear hK9 K9
       replace K := K.grown hg6 (fun e => by have := (HOT.out.blk e.symm).1; omega)
       replace J := J.grown hg6 (fun e => by have := (HOT.out.blk e.symm).1; omega)
       replace R := R.grown hg6 (fun e => by have := (HOT.out.blk e.symm).1; omega)
       replace Q := Q.grown hg6 (fun e => by have := (HOT.out.blk e.symm).1; omega)
       replace X := X.grown hg6 (fun e => by have := (HOT.out.blk e.symm).1; omega)
       replace F := F.grown hg6 (blkNe HOT.out F (by decide))
       replace HO := Lib.hid (HO.out.kept hg6 (fun k hk e => by have h1 := HLB.out k hk; have h2 := (HOT.out.blk e).1; omega))
       replace HB := Lib.hid (HB.out.grown hg6 HB.out.size (fun k e => by have h2 := (HOT.out.blk e).1; omega))
       replace HOC := Lib.hid (HOC.out.kept hg6 (HOC.out.ne HOT.out (by decide)))
       replace HOT := Lib.hid ho6
       clear ho6 hg6 hl6 CF HX LT hbs7
       (try simp only [Act.put, List.setIfInBounds_toArray, List.set_cons_zero, List.set_cons_succ])
       refine wpAny_take (i := 8) (oi := { dst := some 60, op := _, type := _, pos := _, after := _, guard := _ }) (v := ?_) rfl (by kernel_rfl) (by kernel_rfl) (by kernel_rfl) (fun _ _ _ h => h) (Or.inl ⟨by rfl, ?_⟩) ?_
       rotate_left
       ·(intro w; go_simp) <;> with_reducible rfl
       (try simp only [Act.put, List.setIfInBounds_toArray, List.set_cons_zero, List.set_cons_succ])
       refine wpAny_ready (rs := [9]) (by kernel_rfl) (by simp) ?_
       refine AllReady.cons (o := _) rfl (fun K9 hK9 => ?_) (AllReady.nil)
       have fc0 := F.cell 0; have fc1 := F.cell 1; have fc2 := F.cell 2
       simp only [List.getElem?_cons_zero, List.getElem?_cons_succ] at fc0 fc1 fc2
       have ff0 := F.frozen 0; have ff1 := F.frozen 1; have ff2 := F.frozen 2
       go_simp
       refine hK9 _ _ ?_
       clear hK9 K9
       clear fc0 fc1 fc2 ff0 ff1 ff2
       have gs : w6.grownBy (w6.setCell ⟨fx, 0, none⟩ (.slice A6 (nT + 1) c6)) (some fx) := only_set _ (p := ⟨fx, 0, none⟩) _
       replace K := K.grown gs (fun e => by injection e with e; omega)
       replace J := J.grown gs (fun e => by injection e with e; omega)
       replace R := R.grown gs (fun e => by injection e with e; omega)
       replace Q := Q.grown gs (fun e => by injection e with e; omega)
       replace X := X.grown gs (fun e => by injection e with e; omega)
       have HOT2 := Lib.hid (HOT.out.kept gs (fun k hk e => blkNe HOT.out F (by decide) (e.trans hk.symm)))
       have HOC2 := Lib.hid (HOC.out.kept gs (fun k hk e => blkNe HOC.out F (by decide) (e.trans hk.symm)))
       replace F := F.set_ 0 (.slice A6 (nT + 1) c6)
       simp only [List.set_cons_zero, List.set_cons_succ] at F
       replace HO := Lib.hid (HO.out.kept gs (fun k hk e => by injection e with e; have := HLB.out k hk; omega))
       replace HB := Lib.hid (HB.out.grown gs HB.out.size (fun k e => by injection e with e; omega))
       replace HOT := HOT2
       replace HOC := HOC2
       clear HOT2 HOC2 gs
       (try simp only [Act.put, List.setIfInBounds_toArray, List.set_cons_zero, List.set_cons_succ])
       refine wpAny_done (by kernel_rfl) ?_ _
       (try simp only [Act.put, List.setIfInBounds_toArray, List.set_cons_zero, List.set_cons_succ])
       go_wp2_with fail
       go_meet
       exact ⟨FndS.mk F HOT.out.len (by omega) HOT.out.recs (own_lo HOT.out) (fun t ht => (List.mem_append.1 ht).elim (fun q => by have := HTS.out t q; omega) (fun q => by rw [List.mem_singleton.1 q]; omega)) HOC.out.len (by omega) HOC.out.recs (own_lo HOC.out) (fun c hc => by have := HCS.out c hc; omega), ⟨K, J⟩, ⟨R, Q, X⟩, HO, HB⟩
  ·skip
   have fc0 := F.cell 0; have fc1 := F.cell 1; have fc2 := F.cell 2
   simp only [List.getElem?_cons_zero, List.getElem?_cons_succ] at fc0 fc1 fc2
   have ff0 := F.frozen 0; have ff1 := F.frozen 1; have ff2 := F.frozen 2
   go_wp2_with fail
   clear fc0 fc1 fc2 ff0 ff1 ff2
   have gs : w4.grownBy (w4.setCell ⟨fx, 2, none⟩ (.bool false)) (some fx) := only_set _ (p := ⟨fx, 2, none⟩) _
   replace K := K.grown gs (fun e => by injection e with e; omega)
   replace J := J.grown gs (fun e => by injection e with e; omega)
   replace R := R.grown gs (fun e => by injection e with e; omega)
   replace Q := Q.grown gs (fun e => by injection e with e; omega)
   replace X := X.grown gs (fun e => by injection e with e; omega)
   have HOT2 := Lib.hid (HOT.out.kept gs (fun k hk e => blkNe HOT.out F (by decide) (e.trans hk.symm)))
   have HOC2 := Lib.hid (HOC.out.kept gs (fun k hk e => blkNe HOC.out F (by decide) (e.trans hk.symm)))
   replace F := F.set_ 2 (.bool false)
   simp only [List.set_cons_zero, List.set_cons_succ] at F
   replace HO := Lib.hid (HO.out.kept gs (fun k hk e => by injection e with e; have := HLB.out k hk; omega))
   replace HB := Lib.hid (HB.out.grown gs HB.out.size (fun k e => by injection e with e; omega))
   replace HOT := HOT2
   replace HOC := HOC2
   clear HOT2 HOC2 gs
   go_meet
   exact ⟨FndS.mk F HOT.out.len (by omega) HOT.out.recs (own_lo HOT.out) (fun t ht => by have := HTS.out t ht; omega) HOC.out.len (by omega) HOC.out.recs (own_lo HOC.out) (fun c hc => by have := HCS.out c hc; omega), ⟨K, J⟩, ⟨R, Q, X⟩, HO, HB⟩
  ·skip
   have fc0 := F.cell 0; have fc1 := F.cell 1; have fc2 := F.cell 2
   simp only [List.getElem?_cons_zero, List.getElem?_cons_succ] at fc0 fc1 fc2
   have ff0 := F.frozen 0; have ff1 := F.frozen 1; have ff2 := F.frozen 2
   by_cases h0 : nC = 0
   ·have hI : ¬ (0 : Int) < (nC : Int) := by omega
    go_wp2_with fail
    clear fc0 fc1 fc2 ff0 ff1 ff2
    go_meet
    exact ⟨FndS.mk F HOT.out.len (by omega) HOT.out.recs (own_lo HOT.out) (fun t ht => by have := HTS.out t ht; omega) HOC.out.len (by omega) HOC.out.recs (own_lo HOC.out) (fun c hc => by have := HCS.out c hc; omega), ⟨K, J⟩, ⟨R, Q, X⟩, HO, HB⟩
   ·have hI : (0 : Int) < (nC : Int) := by omega
    go_upto_region 15 with fail
    clear fc0 fc1 fc2 ff0 ff1 ff2
    have aD : Below w4.heap.size w4 w4.drew := (Below.refl _ _).drew
    replace R := R.up aD
    replace Q := Q.up aD
    replace X := X.up aD
    replace K := K.up aD
    replace J := J.up aD
    replace F := F.up aD
    replace HO := Lib.hid (HO.out.up aD)
    replace HB := Lib.hid (below_go HB.out aD)
    replace HOT := Lib.hid (HOT.out.up aD)
    replace HOC := Lib.hid (HOC.out.up aD)
    clear aD
    refine wp_region_any (by kernel_rfl) ?_
    (try (change wpAny _ _ _ _ _ _ _ (World.drew _)))
    obtain ⟨wd, hwd⟩ : ∃ u, u = w4.drew := ⟨_, rfl⟩
    rw [← hwd] at R Q X K J F HO HB HOT HOC ⊢
    clear hwd
    obtain ⟨gC, rfl, gC0, gC1, gcc, _⟩ := HOC.out.at_ (by omega)
    obtain ⟨cx, hcx⟩ : ∃ x, C[0]? = some x := ⟨_, List.getElem?_eq_getElem (by rw [HOC.out.len]; omega)⟩
    have hcz := HCS.out cx (List.mem_of_getElem? hcx)
    obtain ⟨sx, ax, bx⟩ := cx
    dsimp only at hcz
    have CF : Hid (∀ u : World, Below wd.heap.size wd u → u.cell? ⟨gC, 0, none⟩ = some (.string sx) ∧ u.cell? ⟨gC, 1, none⟩ = some (.int .i64 ax) ∧ u.cell? ⟨gC, 2, none⟩ = some (.int .i64 bx)) := Lib.hid (fun u hu => ⟨(hu.cell (p := ⟨gC, 0, none⟩) gC1).trans (gcc 0 _ 0 _ hcx rfl), (hu.cell (p := ⟨gC, 1, none⟩) gC1).trans (gcc 0 _ 1 _ hcx rfl), (hu.cell (p := ⟨gC, 2, none⟩) gC1).trans (gcc 0 _ 2 _ hcx rfl)⟩)
    have HX := Lib.hid (Below.refl wd.heap.size wd)
    clear gcc hcx
    refine wpAny_take (i := 0) (oi := { dst := some 70, op := _, type := _, pos := _, after := _, guard := _ }) (v := ?_) rfl (by kernel_rfl) (by kernel_rfl) (by kernel_rfl) (fun _ _ _ h => h) (Or.inl ⟨by rfl, ?_⟩) ?_
    rotate_left
    ·(intro w; go_simp) <;> with_reducible rfl
    (try simp only [Act.put, List.setIfInBounds_toArray, List.set_cons_zero, List.set_cons_succ])
    refine wpAny_take (i := 3) (oi := { dst := some 73, op := _, type := _, pos := _, after := _, guard := _ }) (v := ?_) rfl (by kernel_rfl) (by kernel_rfl) (by kernel_rfl) (fun _ _ _ h => h) (Or.inl ⟨by rfl, ?_⟩) ?_
    rotate_left
    ·(intro w; go_simp) <;> with_reducible rfl
    (try simp only [Act.put, List.setIfInBounds_toArray, List.set_cons_zero, List.set_cons_succ])
    refine wpAny_ready (rs := [1, 4]) (by kernel_rfl) (by simp) ?_
    refine AllReady.cons (o := _) rfl (fun K9 hK9 => ?_) (AllReady.cons (o := _) rfl (fun K9 hK9 => ?_) (AllReady.nil))
    ·skip
     have q0 := F.cell 1
     simp only [List.getElem?_cons_zero, List.getElem?_cons_succ] at q0
     go_simp
     refine hK9 _ _ ?_
     clear hK9 K9 q0
     (try simp only [Act.put, List.setIfInBounds_toArray, List.set_cons_zero, List.set_cons_succ])
     refine wpAny_ready (rs := [2, 4]) (by kernel_rfl) (by simp) ?_
     refine AllReady.cons (o := _) rfl (fun K9 hK9 => ?_) (AllReady.cons (o := _) rfl (fun K9 hK9 => ?_) (AllReady.nil))
     ·skip
      go_simp
      refine (spec_l13Own HOC.out.len HOC.out.recs (by omega)).mono ?_; rintro e w5 ⟨A5x, c5x, rfl, ho5, hb5⟩
      refine hK9 _ _ ?_
      clear hK9 K9
      have hbs5 : bs ≤ wd.heap.size := by have := (HOC.out.at_own).2; omega
      have HW := Lib.hid (ho5.base_le hbs5)
      replace R := R.up hb5
      replace Q := Q.up hb5
      replace X := X.up hb5
      replace K := K.up hb5
      replace J := J.up hb5
      replace F := F.up hb5
      replace HO := Lib.hid (HO.out.up hb5)
      replace HB := Lib.hid (below_go HB.out hb5)
      replace HOT := Lib.hid (HOT.out.up hb5)
      replace HOC := Lib.hid (HOC.out.up hb5)
      replace HX := Lib.hid (below_go HX.out hb5)
      have hWne := fun k (hk : (Value.slice A5x nC c5x).ownBlock = some k) => (ho5.blk hk).1
      clear ho5 hb5
      (try simp only [Act.put, List.setIfInBounds_toArray, List.set_cons_zero, List.set_cons_succ])
      refine wpAny_ready (rs := [4]) (by kernel_rfl) (by simp) ?_
      refine AllReady.cons (o := _) rfl (fun K9 hK9 => ?_) (AllReady.nil)
      have q0 := F.cell 1
      simp only [List.getElem?_cons_zero, List.getElem?_cons_succ] at q0
      go_simp
      refine hK9 _ _ ?_
      clear hK9 K9 q0
      (try simp only [Act.put, List.setIfInBounds_toArray, List.set_cons_zero, List.set_cons_succ])
      refine wpAny_take (i := 5) (oi := { dst := some 75, op := _, type := _, pos := _, after := _, guard := _ }) (v := ?_) rfl (by kernel_rfl) (by kernel_rfl) (by kernel_rfl) (fun _ _ _ h => h) (Or.inl ⟨by rfl, ?_⟩) ?_
      rotate_left
      ·(intro w; go_simp) <;> with_reducible rfl
      (try simp only [Act.put, List.setIfInBounds_toArray, List.set_cons_zero, List.set_cons_succ])
      refine wpAny_ready (rs := [6]) (by kernel_rfl) (by simp) ?_
      refine AllReady.cons (o := _) rfl (fun K9 hK9 => ?_) (AllReady.nil)
      obtain ⟨q0, q1, q2⟩ := CF.out _ HX.out
      go_simp
      refine hK9 _ _ ?_
      clear hK9 K9 q0 q1 q2
      (try simp only [Act.put, List.setIfInBounds_toArray, List.set_cons_zero, List.set_cons_succ])
      refine wpAny_ready (rs := [7]) (by kernel_rfl) (by simp) ?_
      refine AllReady.cons (o := _) rfl (fun K9 hK9 => ?_) (AllReady.nil)
      have ha : Below w5.heap.size w5 (w5.alloc (.cells #[.string sx, .int .i64 ax, .int .i64 bx] 29)) := by (repeat' (first | (with_reducible exact Below.refl _ _) | (with_reducible assumption) | (with_reducible refine below_drewN ?_ _) | (with_reducible refine Below.drew ?_) | (with_reducible refine below_alloc ?_ _) | (with_reducible refine Below.alloc ?_ ?_ _) | (with_reducible refine Below.setCell ?_ ?_ _) | (with_reducible refine below_go ?_ (by with_reducible assumption)) | (with_reducible refine below_then (by with_reducible assumption) ?_ ?_) | go_size))
      have LT := Lib.hid (own_lit1_at' cutE_len w5 29 (sx, ax, bx) rfl (Nat.le_refl _)).recs
      go_simp
      refine hK9 _ _ ?_
      clear hK9 K9
      replace R := R.up ha
      replace Q := Q.up ha
      replace X := X.up ha
      replace K := K.up ha
      replace J := J.up ha
      replace F := F.up ha
      replace HO := Lib.hid (HO.out.up ha)
      replace HB := Lib.hid (below_go HB.out ha)
      replace HOT := Lib.hid (HOT.out.up ha)
      replace HOC := Lib.hid (HOC.out.up ha)
      replace HW := Lib.hid (HW.out.up ha)
      replace HX := Lib.hid (below_go HX.out ha)
      obtain ⟨wa, hwa⟩ : ∃ u, u = w5.alloc (.cells #[.string sx, .int .i64 ax, .int .i64 bx] 29) := ⟨_, rfl⟩
      change Hid (Recs cutE 3 (w5.alloc (.cells #[.string sx, .int .i64 ax, .int .i64 bx] 29)) (some ⟨w5.heap.size, 0, none⟩) [(sx, ax, bx)]) at LT
      rw [← hwa] at R Q X K J F HO HB HOT HOC HX LT HW ⊢
      clear ha hwa
      (try simp only [Act.put, List.setIfInBounds_toArray, List.set_cons_zero, List.set_cons_succ])
      refine wpAny_ready (rs := [8]) (by kernel_rfl) (by simp) ?_
      refine AllReady.cons (o := _) rfl (fun K9 hK9 => ?_) (AllReady.nil)
      have hbs7 : bs ≤ wa.heap.size := by have := (HOC.out.at_own).2; omega
      refine step_append_recs Tryz.elCut cutE_one rfl _ _ rfl (by rfl) HW.out (by rfl) LT.out rfl (show nC + 1 ≤ 16777216 by omega) (by decide) hbs7 ?_
      intro A6 c6 w6 ho6 hg6 hl6
      refine hK9 _ _ ?_
      clear hK9 K9
      replace K := K.grown hg6 (fun e => by have := (HW.out.blk e.symm).1; omega)
      replace J := J.grown hg6 (fun e => by have := (HW.out.blk e.symm).1; omega)
      replace R := R.grown hg6 (fun e => by have := (HW.out.blk e.symm).1; omega)
      replace Q := Q.grown hg6 (fun e => by have := (HW.out.blk e.symm).1; omega)
      replace X := X.grown hg6 (fun e => by have := (HW.out.blk e.symm).1; omega)
      replace F := F.grown hg6 (blkNe HW.out F (by decide))
      replace HO := Lib.hid (HO.out.kept hg6 (fun k hk e => by have h1 := HLB.out k hk; have h2 := (HW.out.blk e).1; omega))
      replace HB := Lib.hid (HB.out.grown hg6 HB.out.size (fun k e => by have h2 := (HW.out.blk e).1; omega))
      replace HOT := Lib.hid (HOT.out.kept hg6 (HOT.out.ne HW.out (by decide)))
      replace HOC := Lib.hid ho6
      clear ho6 hg6 hl6 CF HX LT hbs7 HW
      (try simp only [Act.put, List.setIfInBounds_toArray, List.set_cons_zero, List.set_cons_succ])
      refine wpAny_take (i := 9) (oi := { dst := some 79, op := _, type := _, pos := _, after := _, guard := _ }) (v := ?_) rfl (by kernel_rfl) (by kernel_rfl) (by kernel_rfl) (fun _ _ _ h => h) (Or.inl ⟨by rfl, ?_⟩) ?_
      rotate_left
      ·(intro w; go_simp) <;> with_reducible rfl
      (try simp only [Act.put, List.setIfInBounds_toArray, List.set_cons_zero, List.set_cons_succ])
      refine wpAny_ready (rs := [10]) (by kernel_rfl) (by simp) ?_
      refine AllReady.cons (o := _) rfl (fun K9 hK9 => ?_) (AllReady.nil)
      have fc0 := F.cell 0; have fc1 := F.cell 1; have fc2 := F.cell 2
      simp only [List.getElem?_cons_zero, List.getElem?_cons_succ] at fc0 fc1 fc2
      have ff0 := F.frozen 0; have ff1 := F.frozen 1; have ff2 := F.frozen 2
      go_simp
      refine hK9 _ _ ?_
      clear hK9 K9
      clear fc0 fc1 fc2 ff0 ff1 ff2
      have gs : w6.grownBy (w6.setCell ⟨fx, 1, none⟩ (.slice A6 (nC + 1) c6)) (some fx) := only_set _ (p := ⟨fx, 1, none⟩) _
      replace K := K.grown gs (fun e => by injection e with e; omega)
      replace J := J.grown gs (fun e => by injection e with e; omega)
      replace R := R.grown gs (fun e => by injection e with e; omega)
      replace Q := Q.grown gs (fun e => by injection e with e; omega)
      replace X := X.grown gs (fun e => by injection e with e; omega)
      have HOT2 := Lib.hid (HOT.out.kept gs (fun k hk e => blkNe HOT.out F (by decide) (e.trans hk.symm)))
      have HOC2 := Lib.hid (HOC.out.kept gs (fun k hk e => blkNe HOC.out F (by decide) (e.trans hk.symm)))
      replace F := F.set_ 1 (.slice A6 (nC + 1) c6)
      simp only [List.set_cons_zero, List.set_cons_succ] at F
      replace HO := Lib.hid (HO.out.kept gs (fun k hk e => by injection e with e; have := HLB.out k hk; omega))
      replace HB := Lib.hid (HB.out.grown gs HB.out.size (fun k e => by injection e with e; omega))
      replace HOT := HOT2
      replace HOC := HOC2
      clear HOT2 HOC2 gs
      (try simp only [Act.put, List.setIfInBounds_toArray, List.set_cons_zero, List.set_cons_succ])
      refine wpAny_done (by kernel_rfl) ?_ _
      (try simp only [Act.put, List.setIfInBounds_toArray, List.set_cons_zero, List.set_cons_succ])
      go_wp2_with fail
      go_meet
      exact ⟨FndS.mk F HOT.out.len (by omega) HOT.out.recs (own_lo HOT.out) (fun t ht => by have := HTS.out t ht; omega) HOC.out.len (by omega) HOC.out.recs (own_lo HOC.out) (fun c hc => (List.mem_append.1 hc).elim (fun q => by have := HCS.out c q; omega) (fun q => by rw [List.mem_singleton.1 q]; dsimp only; omega)), ⟨K, J⟩, ⟨R, Q, X⟩, HO, HB⟩
     ·skip
      have q0 := F.cell 1
      simp only [List.getElem?_cons_zero, List.getElem?_cons_succ] at q0
      go_simp
      refine hK9 _ _ ?_
      clear hK9 K9 q0
      (try simp only [Act.put, List.setIfInBounds_toArray, List.set_cons_zero, List.set_cons_succ])
      refine wpAny_take (i := 5) (oi := { dst := some 75, op := _, type := _, pos := _, after := _, guard := _ }) (v := ?_) rfl (by kernel_rfl) (by kernel_rfl) (by kernel_rfl) (fun _ _ _ h => h) (Or.inl ⟨by rfl, ?_⟩) ?_
      rotate_left
      ·(intro w; go_simp) <;> with_reducible rfl
      (try simp only [Act.put, List.setIfInBounds_toArray, List.set_cons_zero, List.set_cons_succ])
      refine wpAny_ready (rs := [2, 6]) (by kernel_rfl) (by simp) ?_
      refine AllReady.cons (o := _) rfl (fun K9 hK9 => ?_) (AllReady.cons (o := _) rfl (fun K9 hK9 => ?_) (AllReady.nil))
      ·skip
       go_simp
       refine (spec_l13Own HOC.out.len HOC.out.recs (by omega)).mono ?_; rintro e w5 ⟨A5x, c5x, rfl, ho5, hb5⟩
       refine hK9 _ _ ?_
       clear hK9 K9
       have hbs5 : bs ≤ wd.heap.size := by have := (HOC.out.at_own).2; omega
       have HW := Lib.hid (ho5.base_le hbs5)
       replace R := R.up hb5
       replace Q := Q.up hb5
       replace X := X.up hb5
       replace K := K.up hb5
       replace J := J.up hb5
       replace F := F.up hb5
       replace HO := Lib.hid (HO.out.up hb5)
       replace HB := Lib.hid (below_go HB.out hb5)
       replace HOT := Lib.hid (HOT.out.up hb5)
       replace HOC := Lib.hid (HOC.out.up hb5)
       replace HX := Lib.hid (below_go HX.out hb5)
       have hWne := fun k (hk : (Value.slice A5x nC c5x).ownBlock = some k) => (ho5.blk hk).1
       clear ho5 hb5
       (try simp only [Act.put, List.setIfInBounds_toArray, List.set_cons_zero, List.set_cons_succ])
       refine wpAny_ready (rs := [6]) (by kernel_rfl) (by simp) ?_
       refine AllReady.cons (o := _) rfl (fun K9 hK9 => ?_) (AllReady.nil)
       obtain ⟨q0, q1, q2⟩ := CF.out _ HX.out
       go_simp
       refine hK9 _ _ ?_
       clear hK9 K9 q0 q1 q2
       (try simp only [Act.put, List.setIfInBounds_toArray, List.set_cons_zero, List.set_cons_succ])
       refine wpAny_ready (rs := [7]) (by kernel_rfl) (by simp) ?_
       refine AllReady.cons (o := _) rfl (fun K9 hK9 => ?_) (AllReady.nil)
       have ha : Below w5.heap.size w5 (w5.alloc (.cells #[.string sx, .int .i64 ax, .int .i64 bx] 29)) := by (repeat' (first | (with_reducible exact Below.refl _ _) | (with_reducible assumption) | (with_reducible refine below_drewN ?_ _) | (with_reducible refine Below.drew ?_) | (with_reducible refine below_alloc ?_ _) | (with_reducible refine Below.alloc ?_ ?_ _) | (with_reducible refine Below.setCell ?_ ?_ _) | (with_reducible refine below_go ?_ (by with_reducible assumption)) | (with_reducible refine below_then (by with_reducible assumption) ?_ ?_) | go_size))
       have LT := Lib.hid (own_lit1_at' cutE_len w5 29 (sx, ax, bx) rfl (Nat.le_refl _)).recs
       go_simp
       refine hK9 _ _ ?_
       clear hK9 K9
       replace R := R.up ha
       replace Q := Q.up ha
       replace X := X.up ha
       replace K := K.up ha
       replace J := J.up ha
       replace F := F.up ha
       replace HO := Lib.hid (HO.out.up ha)
       replace HB := Lib.hid (below_go HB.out ha)
       replace HOT := Lib.hid (HOT.out.up ha)
       replace HOC := Lib.hid (HOC.out.up ha)
       replace HW := Lib.hid (HW.out.up ha)
       replace HX := Lib.hid (below_go HX.out ha)
       obtain ⟨wa, hwa⟩ : ∃ u, u = w5.alloc (.cells #[.string sx, .int .i64 ax, .int .i64 bx] 29) := ⟨_, rfl⟩
       change Hid (Recs cutE 3 (w5.alloc (.cells #[.string sx, .int .i64 ax, .int .i64 bx] 29)) (some ⟨w5.heap.size, 0, none⟩) [(sx, ax, bx)]) at LT
       rw [← hwa] at R Q X K J F HO HB HOT HOC HX LT HW ⊢
       clear ha hwa
       (try simp only [Act.put, List.setIfInBounds_toArray, List.set_cons_zero, List.set_cons_succ])
       refine wpAny_ready (rs := [8]) (by kernel_rfl) (by simp) ?_
       refine AllReady.cons (o := _) rfl (fun K9 hK9 => ?_) (AllReady.nil)
       have hbs7 : bs ≤ wa.heap.size := by have := (HOC.out.at_own).2; omega
       refine step_append_recs Tryz.elCut cutE_one rfl _ _ rfl (by rfl) HW.out (by rfl) LT.out rfl (show nC + 1 ≤ 16777216 by omega) (by decide) hbs7 ?_
       intro A6 c6 w6 ho6 hg6 hl6
       refine hK9 _ _ ?_
       clear hK9 K9
       replace K := K.grown hg6 (fun e => by have := (HW.out.blk e.symm).1; omega)
       replace J := J.grown hg6 (fun e => by have := (HW.out.blk e.symm).1; omega)
       replace R := R.grown hg6 (fun e => by have := (HW.out.blk e.symm).1; omega)
       replace Q := Q.grown hg6 (fun e => by have := (HW.out.blk e.symm).1; omega)
       replace X := X.grown hg6 (fun e => by have := (HW.out.blk e.symm).1; omega)
       replace F := F.grown hg6 (blkNe HW.out F (by decide))
       replace HO := Lib.hid (HO.out.kept hg6 (fun k hk e => by have h1 := HLB.out k hk; have h2 := (HW.out.blk e).1; omega))
       replace HB := Lib.hid (HB.out.grown hg6 HB.out.size (fun k e => by have h2 := (HW.out.blk e).1; omega))
       replace HOT := Lib.hid (HOT.out.kept hg6 (HOT.out.ne HW.out (by decide)))
       replace HOC := Lib.hid ho6
       clear ho6 hg6 hl6 CF HX LT hbs7 HW
       (try simp only [Act.put, List.setIfInBounds_toArray, List.set_cons_zero, List.set_cons_succ])
       refine wpAny_take (i := 9) (oi := { dst := some 79, op := _, type := _, pos := _, after := _, guard := _ }) (v := ?_) rfl (by kernel_rfl) (by kernel_rfl) (by kernel_rfl) (fun _ _ _ h => h) (Or.inl ⟨by rfl, ?_⟩) ?_
       rotate_left
       ·(intro w; go_simp) <;> with_reducible rfl
       (try simp only [Act.put, List.setIfInBounds_toArray, List.set_cons_zero, List.set_cons_succ])
       refine wpAny_ready (rs := [10]) (by kernel_rfl) (by simp) ?_
       refine AllReady.cons (o := _) rfl (fun K9 hK9 => ?_) (AllReady.nil)
       have fc0 := F.cell 0; have fc1 := F.cell 1; have fc2 := F.cell 2
       simp only [List.getElem?_cons_zero, List.getElem?_cons_succ] at fc0 fc1 fc2
       have ff0 := F.frozen 0; have ff1 := F.frozen 1; have ff2 := F.frozen 2
       go_simp
       refine hK9 _ _ ?_
       clear hK9 K9
       clear fc0 fc1 fc2 ff0 ff1 ff2
       have gs : w6.grownBy (w6.setCell ⟨fx, 1, none⟩ (.slice A6 (nC + 1) c6)) (some fx) := only_set _ (p := ⟨fx, 1, none⟩) _
       replace K := K.grown gs (fun e => by injection e with e; omega)
       replace J := J.grown gs (fun e => by injection e with e; omega)
       replace R := R.grown gs (fun e => by injection e with e; omega)
       replace Q := Q.grown gs (fun e => by injection e with e; omega)
       replace X := X.grown gs (fun e => by injection e with e; omega)
       have HOT2 := Lib.hid (HOT.out.kept gs (fun k hk e => blkNe HOT.out F (by decide) (e.trans hk.symm)))
       have HOC2 := Lib.hid (HOC.out.kept gs (fun k hk e => blkNe HOC.out F (by decide) (e.trans hk.symm)))
       replace F := F.set_ 1 (.slice A6 (nC + 1) c6)
       simp only [List.set_cons_zero, List.set_cons_succ] at F
       replace HO := Lib.hid (HO.out.kept gs (fun k hk e => by injection e with e; have := HLB.out k hk; omega))
       replace HB := Lib.hid (HB.out.grown gs HB.out.size (fun k e => by injection e with e; omega))
       replace HOT := HOT2
       replace HOC := HOC2
       clear HOT2 HOC2 gs
       (try simp only [Act.put, List.setIfInBounds_toArray, List.set_cons_zero, List.set_cons_succ])
       refine wpAny_done (by kernel_rfl) ?_ _
       (try simp only [Act.put, List.setIfInBounds_toArray, List.set_cons_zero, List.set_cons_succ])
       go_wp2_with fail
       go_meet
       exact ⟨FndS.mk F HOT.out.len (by omega) HOT.out.recs (own_lo HOT.out) (fun t ht => by have := HTS.out t ht; omega) HOC.out.len (by omega) HOC.out.recs (own_lo HOC.out) (fun c hc => (List.mem_append.1 hc).elim (fun q => by have := HCS.out c q; omega) (fun q => by rw [List.mem_singleton.1 q]; dsimp only; omega)), ⟨K, J⟩, ⟨R, Q, X⟩, HO, HB⟩
      ·skip
       obtain ⟨q0, q1, q2⟩ := CF.out _ HX.out
       go_simp
       refine hK9 _ _ ?_
       clear hK9 K9 q0 q1 q2
       (try simp only [Act.put, List.setIfInBounds_toArray, List.set_cons_zero, List.set_cons_succ])
       refine wpAny_ready (rs := [2, 7]) (by kernel_rfl) (by simp) ?_
       refine AllReady.cons (o := _) rfl (fun K9 hK9 => ?_) (AllReady.cons (o := _) rfl (fun K9 hK9 => ?_) (AllReady.nil))
       ·skip
        go_simp
        refine (spec_l13Own HOC.out.len HOC.out.recs (by omega)).mono ?_; rintro e w5 ⟨A5x, c5x, rfl, ho5, hb5⟩
        refine hK9 _ _ ?_
        clear hK9 K9
        have hbs5 : bs ≤ wd.heap.size := by have := (HOC.out.at_own).2; omega
        have HW := Lib.hid (ho5.base_le hbs5)
        replace R := R.up hb5
        replace Q := Q.up hb5
        replace X := X.up hb5
        replace K := K.up hb5
        replace J := J.up hb5
        replace F := F.up hb5
        replace HO := Lib.hid (HO.out.up hb5)
        replace HB := Lib.hid (below_go HB.out hb5)
        replace HOT := Lib.hid (HOT.out.up hb5)
        replace HOC := Lib.hid (HOC.out.up hb5)
        replace HX := Lib.hid (below_go HX.out hb5)
        have hWne := fun k (hk : (Value.slice A5x nC c5x).ownBlock = some k) => (ho5.blk hk).1
        clear ho5 hb5
        (try simp only [Act.put, List.setIfInBounds_toArray, List.set_cons_zero, List.set_cons_succ])
        refine wpAny_ready (rs := [7]) (by kernel_rfl) (by simp) ?_
        refine AllReady.cons (o := _) rfl (fun K9 hK9 => ?_) (AllReady.nil)
        have ha : Below w5.heap.size w5 (w5.alloc (.cells #[.string sx, .int .i64 ax, .int .i64 bx] 29)) := by (repeat' (first | (with_reducible exact Below.refl _ _) | (with_reducible assumption) | (with_reducible refine below_drewN ?_ _) | (with_reducible refine Below.drew ?_) | (with_reducible refine below_alloc ?_ _) | (with_reducible refine Below.alloc ?_ ?_ _) | (with_reducible refine Below.setCell ?_ ?_ _) | (with_reducible refine below_go ?_ (by with_reducible assumption)) | (with_reducible refine below_then (by with_reducible assumption) ?_ ?_) | go_size))
        have LT := Lib.hid (own_lit1_at' cutE_len w5 29 (sx, ax, bx) rfl (Nat.le_refl _)).recs
        go_simp
        refine hK9 _ _ ?_
        clear hK9 K9
        replace R := R.up ha
        replace Q := Q.up ha
        replace X := X.up ha
        replace K := K.up ha
        replace J := J.up ha
        replace F := F.up ha
        replace HO := Lib.hid (HO.out.up ha)
        replace HB := Lib.hid (below_go HB.out ha)
        replace HOT := Lib.hid (HOT.out.up ha)
        replace HOC := Lib.hid (HOC.out.up ha)
        replace HW := Lib.hid (HW.out.up ha)
        replace HX := Lib.hid (below_go HX.out ha)
        obtain ⟨wa, hwa⟩ : ∃ u, u = w5.alloc (.cells #[.string sx, .int .i64 ax, .int .i64 bx] 29) := ⟨_, rfl⟩
        change Hid (Recs cutE 3 (w5.alloc (.cells #[.string sx, .int .i64 ax, .int .i64 bx] 29)) (some ⟨w5.heap.size, 0, none⟩) [(sx, ax, bx)]) at LT
        rw [← hwa] at R Q X K J F HO HB HOT HOC HX LT HW ⊢
        clear ha hwa
        (try simp only [Act.put, List.setIfInBounds_toArray, List.set_cons_zero, List.set_cons_succ])
        refine wpAny_ready (rs := [8]) (by kernel_rfl) (by simp) ?_
        refine AllReady.cons (o := _) rfl (fun K9 hK9 => ?_) (AllReady.nil)
        have hbs7 : bs ≤ wa.heap.size := by have := (HOC.out.at_own).2; omega
        refine step_append_recs Tryz.elCut cutE_one rfl _ _ rfl (by rfl) HW.out (by rfl) LT.out rfl (show nC + 1 ≤ 16777216 by omega) (by decide) hbs7 ?_
        intro A6 c6 w6 ho6 hg6 hl6
        refine hK9 _ _ ?_
        clear hK9 K9
        replace K := K.grown hg6 (fun e => by have := (HW.out.blk e.symm).1; omega)
        replace J := J.grown hg6 (fun e => by have := (HW.out.blk e.symm).1; omega)
        replace R := R.grown hg6 (fun e => by have := (HW.out.blk e.symm).1; omega)
        replace Q := Q.grown hg6 (fun e => by have := (HW.out.blk e.symm).1; omega)
        replace X := X.grown hg6 (fun e => by have := (HW.out.blk e.symm).1; omega)
        replace F := F.grown hg6 (blkNe HW.out F (by decide))
        replace HO := Lib.hid (HO.out.kept hg6 (fun k hk e => by have h1 := HLB.out k hk; have h2 := (HW.out.blk e).1; omega))
        replace HB := Lib.hid (HB.out.grown hg6 HB.out.size (fun k e => by have h2 := (HW.out.blk e).1; omega))
        replace HOT := Lib.hid (HOT.out.kept hg6 (HOT.out.ne HW.out (by decide)))
        replace HOC := Lib.hid ho6
        clear ho6 hg6 hl6 CF HX LT hbs7 HW
        (try simp only [Act.put, List.setIfInBounds_toArray, List.set_cons_zero, List.set_cons_succ])
        refine wpAny_take (i := 9) (oi := { dst := some 79, op := _, type := _, pos := _, after := _, guard := _ }) (v := ?_) rfl (by kernel_rfl) (by kernel_rfl) (by kernel_rfl) (fun _ _ _ h => h) (Or.inl ⟨by rfl, ?_⟩) ?_
        rotate_left
        ·(intro w; go_simp) <;> with_reducible rfl
        (try simp only [Act.put, List.setIfInBounds_toArray, List.set_cons_zero, List.set_cons_succ])
        refine wpAny_ready (rs := [10]) (by kernel_rfl) (by simp) ?_
        refine AllReady.cons (o := _) rfl (fun K9 hK9 => ?_) (AllReady.nil)
        have fc0 := F.cell 0; have fc1 := F.cell 1; have fc2 := F.cell 2
        simp only [List.getElem?_cons_zero, List.getElem?_cons_succ] at fc0 fc1 fc2
        have ff0 := F.frozen 0; have ff1 := F.frozen 1; have ff2 := F.frozen 2
        go_simp
        refine hK9 _ _ ?_
        clear hK9 K9
        clear fc0 fc1 fc2 ff0 ff1 ff2
        have gs : w6.grownBy (w6.setCell ⟨fx, 1, none⟩ (.slice A6 (nC + 1) c6)) (some fx) := only_set _ (p := ⟨fx, 1, none⟩) _
        replace K := K.grown gs (fun e => by injection e with e; omega)
        replace J := J.grown gs (fun e => by injection e with e; omega)
        replace R := R.grown gs (fun e => by injection e with e; omega)
        replace Q := Q.grown gs (fun e => by injection e with e; omega)
        replace X := X.grown gs (fun e => by injection e with e; omega)
        have HOT2 := Lib.hid (HOT.out.kept gs (fun k hk e => blkNe HOT.out F (by decide) (e.trans hk.symm)))
        have HOC2 := Lib.hid (HOC.out.kept gs (fun k hk e => blkNe HOC.out F (by decide) (e.trans hk.symm)))
        replace F := F.set_ 1 (.slice A6 (nC + 1) c6)
        simp only [List.set_cons_zero, List.set_cons_succ] at F
        replace HO := Lib.hid (HO.out.kept gs (fun k hk e => by injection e with e; have := HLB.out k hk; omega))
        replace HB := Lib.hid (HB.out.grown gs HB.out.size (fun k e => by injection e with e; omega))
        replace HOT := HOT2
        replace HOC := HOC2
        clear HOT2 HOC2 gs
        (try simp only [Act.put, List.setIfInBounds_toArray, List.set_cons_zero, List.set_cons_succ])
        refine wpAny_done (by kernel_rfl) ?_ _
        (try simp only [Act.put, List.setIfInBounds_toArray, List.set_cons_zero, List.set_cons_succ])
        go_wp2_with fail
        go_meet
        exact ⟨FndS.mk F HOT.out.len (by omega) HOT.out.recs (own_lo HOT.out) (fun t ht => by have := HTS.out t ht; omega) HOC.out.len (by omega) HOC.out.recs (own_lo HOC.out) (fun c hc => (List.mem_append.1 hc).elim (fun q => by have := HCS.out c q; omega) (fun q => by rw [List.mem_singleton.1 q]; dsimp only; omega)), ⟨K, J⟩, ⟨R, Q, X⟩, HO, HB⟩
       ·skip
        have ha : Below wd.heap.size wd (wd.alloc (.cells #[.string sx, .int .i64 ax, .int .i64 bx] 29)) := by (repeat' (first | (with_reducible exact Below.refl _ _) | (with_reducible assumption) | (with_reducible refine below_drewN ?_ _) | (with_reducible refine Below.drew ?_) | (with_reducible refine below_alloc ?_ _) | (with_reducible refine Below.alloc ?_ ?_ _) | (with_reducible refine Below.setCell ?_ ?_ _) | (with_reducible refine below_go ?_ (by with_reducible assumption)) | (with_reducible refine below_then (by with_reducible assumption) ?_ ?_) | go_size))
        have LT := Lib.hid (own_lit1_at' cutE_len wd 29 (sx, ax, bx) rfl (Nat.le_refl _)).recs
        go_simp
        refine hK9 _ _ ?_
        clear hK9 K9
        replace R := R.up ha
        replace Q := Q.up ha
        replace X := X.up ha
        replace K := K.up ha
        replace J := J.up ha
        replace F := F.up ha
        replace HO := Lib.hid (HO.out.up ha)
        replace HB := Lib.hid (below_go HB.out ha)
        replace HOT := Lib.hid (HOT.out.up ha)
        replace HOC := Lib.hid (HOC.out.up ha)
        replace HX := Lib.hid (below_go HX.out ha)
        obtain ⟨wa, hwa⟩ : ∃ u, u = wd.alloc (.cells #[.string sx, .int .i64 ax, .int .i64 bx] 29) := ⟨_, rfl⟩
        change Hid (Recs cutE 3 (wd.alloc (.cells #[.string sx, .int .i64 ax, .int .i64 bx] 29)) (some ⟨wd.heap.size, 0, none⟩) [(sx, ax, bx)]) at LT
        rw [← hwa] at R Q X K J F HO HB HOT HOC HX LT  ⊢
        clear ha hwa
        (try simp only [Act.put, List.setIfInBounds_toArray, List.set_cons_zero, List.set_cons_succ])
        refine wpAny_ready (rs := [2]) (by kernel_rfl) (by simp) ?_
        refine AllReady.cons (o := _) rfl (fun K9 hK9 => ?_) (AllReady.nil)
        go_simp
        refine (spec_l13Own HOC.out.len HOC.out.recs (by omega)).mono ?_; rintro e w5 ⟨A5x, c5x, rfl, ho5, hb5⟩
        refine hK9 _ _ ?_
        clear hK9 K9
        have hbs5 : bs ≤ wa.heap.size := by have := (HOC.out.at_own).2; omega
        have HW := Lib.hid (ho5.base_le hbs5)
        replace R := R.up hb5
        replace Q := Q.up hb5
        replace X := X.up hb5
        replace K := K.up hb5
        replace J := J.up hb5
        replace F := F.up hb5
        replace HO := Lib.hid (HO.out.up hb5)
        replace HB := Lib.hid (below_go HB.out hb5)
        replace HOT := Lib.hid (HOT.out.up hb5)
        replace HOC := Lib.hid (HOC.out.up hb5)
        replace LT := Lib.hid (LT.out.up hb5)
        replace HX := Lib.hid (below_go HX.out hb5)
        have hWne := fun k (hk : (Value.slice A5x nC c5x).ownBlock = some k) => (ho5.blk hk).1
        clear ho5 hb5
        (try simp only [Act.put, List.setIfInBounds_toArray, List.set_cons_zero, List.set_cons_succ])
        refine wpAny_ready (rs := [8]) (by kernel_rfl) (by simp) ?_
        refine AllReady.cons (o := _) rfl (fun K9 hK9 => ?_) (AllReady.nil)
        have hbs7 : bs ≤ w5.heap.size := by have := (HOC.out.at_own).2; omega
        refine step_append_recs Tryz.elCut cutE_one rfl _ _ rfl (by rfl) HW.out (by rfl) LT.out rfl (show nC + 1 ≤ 16777216 by omega) (by decide) hbs7 ?_
        intro A6 c6 w6 ho6 hg6 hl6
        refine hK9 _ _ ?_
        clear hK9 K9
        replace K := K.grown hg6 (fun e => by have := (HW.out.blk e.symm).1; omega)
        replace J := J.grown hg6 (fun e => by have := (HW.out.blk e.symm).1; omega)
        replace R := R.grown hg6 (fun e => by have := (HW.out.blk e.symm).1; omega)
        replace Q := Q.grown hg6 (fun e => by have := (HW.out.blk e.symm).1; omega)
        replace X := X.grown hg6 (fun e => by have := (HW.out.blk e.symm).1; omega)
        replace F := F.grown hg6 (blkNe HW.out F (by decide))
        replace HO := Lib.hid (HO.out.kept hg6 (fun k hk e => by have h1 := HLB.out k hk; have h2 := (HW.out.blk e).1; omega))
        replace HB := Lib.hid (HB.out.grown hg6 HB.out.size (fun k e => by have h2 := (HW.out.blk e).1; omega))
        replace HOT := Lib.hid (HOT.out.kept hg6 (HOT.out.ne HW.out (by decide)))
        replace HOC := Lib.hid ho6
        clear ho6 hg6 hl6 CF HX LT hbs7 HW
        (try simp only [Act.put, List.setIfInBounds_toArray, List.set_cons_zero, List.set_cons_succ])
        refine wpAny_take (i := 9) (oi := { dst := some 79, op := _, type := _, pos := _, after := _, guard := _ }) (v := ?_) rfl (by kernel_rfl) (by kernel_rfl) (by kernel_rfl) (fun _ _ _ h => h) (Or.inl ⟨by rfl, ?_⟩) ?_
        rotate_left
        ·(intro w; go_simp) <;> with_reducible rfl
        (try simp only [Act.put, List.setIfInBounds_toArray, List.set_cons_zero, List.set_cons_succ])
        refine wpAny_ready (rs := [10]) (by kernel_rfl) (by simp) ?_
        refine AllReady.cons (o := _) rfl (fun K9 hK9 => ?_) (AllReady.nil)
        have fc0 := F.cell 0; have fc1 := F.cell 1; have fc2 := F.cell 2
        simp only [List.getElem?_cons_zero, List.getElem?_cons_succ] at fc0 fc1 fc2
        have ff0 := F.frozen 0; have ff1 := F.frozen 1; have ff2 := F.frozen 2
        go_simp
        refine hK9 _ _ ?_
        clear hK9 K9
        clear fc0 fc1 fc2 ff0 ff1 ff2
        have gs : w6.grownBy (w6.setCell ⟨fx, 1, none⟩ (.slice A6 (nC + 1) c6)) (some fx) := only_set _ (p := ⟨fx, 1, none⟩) _
        replace K := K.grown gs (fun e => by injection e with e; omega)
        replace J := J.grown gs (fun e => by injection e with e; omega)
        replace R := R.grown gs (fun e => by injection e with e; omega)
        replace Q := Q.grown gs (fun e => by injection e with e; omega)
        replace X := X.grown gs (fun e => by injection e with e; omega)
        have HOT2 := Lib.hid (HOT.out.kept gs (fun k hk e => blkNe HOT.out F (by decide) (e.trans hk.symm)))
        have HOC2 := Lib.hid (HOC.out.kept gs (fun k hk e => blkNe HOC.out F (by decide) (e.trans hk.symm)))
        replace F := F.set_ 1 (.slice A6 (nC + 1) c6)
        simp only [List.set_cons_zero, List.set_cons_succ] at F
        replace HO := Lib.hid (HO.out.kept gs (fun k hk e => by injection e with e; have := HLB.out k hk; omega))
        replace HB := Lib.hid (HB.out.grown gs HB.out.size (fun k e => by injection e with e; omega))
        replace HOT := HOT2
        replace HOC := HOC2
        clear HOT2 HOC2 gs
        (try simp only [Act.put, List.setIfInBounds_toArray, List.set_cons_zero, List.set_cons_succ])
        refine wpAny_done (by kernel_rfl) ?_ _
        (try simp only [Act.put, List.setIfInBounds_toArray, List.set_cons_zero, List.set_cons_succ])
        go_wp2_with fail
        go_meet
        exact ⟨FndS.mk F HOT.out.len (by omega) HOT.out.recs (own_lo HOT.out) (fun t ht => by have := HTS.out t ht; omega) HOC.out.len (by omega) HOC.out.recs (own_lo HOC.out) (fun c hc => (List.mem_append.1 hc).elim (fun q => by have := HCS.out c q; omega) (fun q => by rw [List.mem_singleton.1 q]; dsimp only; omega)), ⟨K, J⟩, ⟨R, Q, X⟩, HO, HB⟩
    ·skip
     have q0 := F.cell 1
     simp only [List.getElem?_cons_zero, List.getElem?_cons_succ] at q0
     go_simp
     refine hK9 _ _ ?_
     clear hK9 K9 q0
     (try simp only [Act.put, List.setIfInBounds_toArray, List.set_cons_zero, List.set_cons_succ])
     refine wpAny_take (i := 5) (oi := { dst := some 75, op := _, type := _, pos := _, after := _, guard := _ }) (v := ?_) rfl (by kernel_rfl) (by kernel_rfl) (by kernel_rfl) (fun _ _ _ h => h) (Or.inl ⟨by rfl, ?_⟩) ?_
     rotate_left
     ·(intro w; go_simp) <;> with_reducible rfl
     (try simp only [Act.put, List.setIfInBounds_toArray, List.set_cons_zero, List.set_cons_succ])
     refine wpAny_ready (rs := [1, 6]) (by kernel_rfl) (by simp) ?_
     refine AllReady.cons (o := _) rfl (fun K9 hK9 => ?_) (AllReady.cons (o := _) rfl (fun K9 hK9 => ?_) (AllReady.nil))
     ·skip
      have q0 := F.cell 1
      simp only [List.getElem?_cons_zero, List.getElem?_cons_succ] at q0
      go_simp
      refine hK9 _ _ ?_
      clear hK9 K9 q0
      (try simp only [Act.put, List.setIfInBounds_toArray, List.set_cons_zero, List.set_cons_succ])
      refine wpAny_ready (rs := [2, 6]) (by kernel_rfl) (by simp) ?_
      refine AllReady.cons (o := _) rfl (fun K9 hK9 => ?_) (AllReady.cons (o := _) rfl (fun K9 hK9 => ?_) (AllReady.nil))
      ·skip
       go_simp
       refine (spec_l13Own HOC.out.len HOC.out.recs (by omega)).mono ?_; rintro e w5 ⟨A5x, c5x, rfl, ho5, hb5⟩
       refine hK9 _ _ ?_
       clear hK9 K9
       have hbs5 : bs ≤ wd.heap.size := by have := (HOC.out.at_own).2; omega
       have HW := Lib.hid (ho5.base_le hbs5)
       replace R := R.up hb5
       replace Q := Q.up hb5
       replace X := X.up hb5
       replace K := K.up hb5
       replace J := J.up hb5
       replace F := F.up hb5
       replace HO := Lib.hid (HO.out.up hb5)
       replace HB := Lib.hid (below_go HB.out hb5)
       replace HOT := Lib.hid (HOT.out.up hb5)
       replace HOC := Lib.hid (HOC.out.up hb5)
       replace HX := Lib.hid (below_go HX.out hb5)
       have hWne := fun k (hk : (Value.slice A5x nC c5x).ownBlock = some k) => (ho5.blk hk).1
       clear ho5 hb5
       (try simp only [Act.put, List.setIfInBounds_toArray, List.set_cons_zero, List.set_cons_succ])
       refine wpAny_ready (rs := [6]) (by kernel_rfl) (by simp) ?_
       refine AllReady.cons (o := _) rfl (fun K9 hK9 => ?_) (AllReady.nil)
       obtain ⟨q0, q1, q2⟩ := CF.out _ HX.out
       go_simp
       refine hK9 _ _ ?_
       clear hK9 K9 q0 q1 q2
       (try simp only [Act.put, List.setIfInBounds_toArray, List.set_cons_zero, List.set_cons_succ])
       refine wpAny_ready (rs := [7]) (by kernel_rfl) (by simp) ?_
       refine AllReady.cons (o := _) rfl (fun K9 hK9 => ?_) (AllReady.nil)
       have ha : Below w5.heap.size w5 (w5.alloc (.cells #[.string sx, .int .i64 ax, .int .i64 bx] 29)) := by (repeat' (first | (with_reducible exact Below.refl _ _) | (with_reducible assumption) | (with_reducible refine below_drewN ?_ _) | (with_reducible refine Below.drew ?_) | (with_reducible refine below_alloc ?_ _) | (with_reducible refine Below.alloc ?_ ?_ _) | (with_reducible refine Below.setCell ?_ ?_ _) | (with_reducible refine below_go ?_ (by with_reducible assumption)) | (with_reducible refine below_then (by with_reducible assumption) ?_ ?_) | go_size))
       have LT := Lib.hid (own_lit1_at' cutE_len w5 29 (sx, ax, bx) rfl (Nat.le_refl _)).recs
       go_simp
       refine hK9 _ _ ?_
       clear hK9 K9
       replace R := R.up ha
       replace Q := Q.up ha
       replace X := X.up ha
       replace K := K.up ha
       replace J := J.up ha
       replace F := F.up ha
       replace HO := Lib.hid (HO.out.up ha)
       replace HB := Lib.hid (below_go HB.out ha)
       replace HOT := Lib.hid (HOT.out.up ha)
       replace HOC := Lib.hid (HOC.out.up ha)
       replace HW := Lib.hid (HW.out.up ha)
       replace HX := Lib.hid (below_go HX.out ha)
       obtain ⟨wa, hwa⟩ : ∃ u, u = w5.alloc (.cells #[.string sx, .int .i64 ax, .int .i64 bx] 29) := ⟨_, rfl⟩
       change Hid (Recs cutE 3 (w5.alloc (.cells #[.string sx, .int .i64 ax, .int .i64 bx] 29)) (some ⟨w5.heap.size, 0, none⟩) [(sx, ax, bx)]) at LT
       rw [← hwa] at R Q X K J F HO HB HOT HOC HX LT HW ⊢
       clear ha hwa
       (try simp only [Act.put, List.setIfInBounds_toArray, List.set_cons_zero, List.set_cons_succ])
       refine wpAny_ready (rs := [8]) (by kernel_rfl) (by simp) ?_
       refine AllReady.cons (o := _) rfl (fun K9 hK9 => ?_) (AllReady.nil)
       have hbs7 : bs ≤ wa.heap.size := by have := (HOC.out.at_own).2; omega
       refine step_append_recs Tryz.elCut cutE_one rfl _ _ rfl (by rfl) HW.out (by rfl) LT.out rfl (show nC + 1 ≤ 16777216 by omega) (by decide) hbs7 ?_
       intro A6 c6 w6 ho6 hg6 hl6
       refine hK9 _ _ ?_
       clear hK9 K9
       replace K := K.grown hg6 (fun e => by have := (HW.out.blk e.symm).1; omega)
       replace J := J.grown hg6 (fun e => by have := (HW.out.blk e.symm).1; omega)
       replace R := R.grown hg6 (fun e => by have := (HW.out.blk e.symm).1; omega)
       replace Q := Q.grown hg6 (fun e => by have := (HW.out.blk e.symm).1; omega)
       replace X := X.grown hg6 (fun e => by have := (HW.out.blk e.symm).1; omega)
       replace F := F.grown hg6 (blkNe HW.out F (by decide))
       replace HO := Lib.hid (HO.out.kept hg6 (fun k hk e => by have h1 := HLB.out k hk; have h2 := (HW.out.blk e).1; omega))
       replace HB := Lib.hid (HB.out.grown hg6 HB.out.size (fun k e => by have h2 := (HW.out.blk e).1; omega))
       replace HOT := Lib.hid (HOT.out.kept hg6 (HOT.out.ne HW.out (by decide)))
       replace HOC := Lib.hid ho6
       clear ho6 hg6 hl6 CF HX LT hbs7 HW
       (try simp only [Act.put, List.setIfInBounds_toArray, List.set_cons_zero, List.set_cons_succ])
       refine wpAny_take (i := 9) (oi := { dst := some 79, op := _, type := _, pos := _, after := _, guard := _ }) (v := ?_) rfl (by kernel_rfl) (by kernel_rfl) (by kernel_rfl) (fun _ _ _ h => h) (Or.inl ⟨by rfl, ?_⟩) ?_
       rotate_left
       ·(intro w; go_simp) <;> with_reducible rfl
       (try simp only [Act.put, List.setIfInBounds_toArray, List.set_cons_zero, List.set_cons_succ])
       refine wpAny_ready (rs := [10]) (by kernel_rfl) (by simp) ?_
       refine AllReady.cons (o := _) rfl (fun K9 hK9 => ?_) (AllReady.nil)
       have fc0 := F.cell 0; have fc1 := F.cell 1; have fc2 := F.cell 2
       simp only [List.getElem?_cons_zero, List.getElem?_cons_succ] at fc0 fc1 fc2
       have ff0 := F.frozen 0; have ff1 := F.frozen 1; have ff2 := F.frozen 2
       go_simp
       refine hK9 _ _ ?_
       clear hK9 K9
       clear fc0 fc1 fc2 ff0 ff1 ff2
       have gs : w6.grownBy (w6.setCell ⟨fx, 1, none⟩ (.slice A6 (nC + 1) c6)) (some fx) := only_set _ (p := ⟨fx, 1, none⟩) _
       replace K := K.grown gs (fun e => by injection e with e; omega)
       replace J := J.grown gs (fun e => by injection e with e; omega)
       replace R := R.grown gs (fun e => by injection e with e; omega)
       replace Q := Q.grown gs (fun e => by injection e with e; omega)
       replace X := X.grown gs (fun e => by injection e with e; omega)
       have HOT2 := Lib.hid (HOT.out.kept gs (fun k hk e => blkNe HOT.out F (by decide) (e.trans hk.symm)))
       have HOC2 := Lib.hid (HOC.out.kept gs (fun k hk e => blkNe HOC.out F (by decide) (e.trans hk.symm)))
       replace F := F.set_ 1 (.slice A6 (nC + 1) c6)
       simp only [List.set_cons_zero, List.set_cons_succ] at F
       replace HO := Lib.hid (HO.out.kept gs (fun k hk e => by injection e with e; have := HLB.out k hk; omega))
       replace HB := Lib.hid (HB.out.grown gs HB.out.size (fun k e => by injection e with e; omega))
       replace HOT := HOT2
       replace HOC := HOC2
       clear HOT2 HOC2 gs
       (try simp only [Act.put, List.setIfInBounds_toArray, List.set_cons_zero, List.set_cons_succ])
       refine wpAny_done (by kernel_rfl) ?_ _
       (try simp only [Act.put, List.setIfInBounds_toArray, List.set_cons_zero, List.set_cons_succ])
       go_wp2_with fail
       go_meet
       exact ⟨FndS.mk F HOT.out.len (by omega) HOT.out.recs (own_lo HOT.out) (fun t ht => by have := HTS.out t ht; omega) HOC.out.len (by omega) HOC.out.recs (own_lo HOC.out) (fun c hc => (List.mem_append.1 hc).elim (fun q => by have := HCS.out c q; omega) (fun q => by rw [List.mem_singleton.1 q]; dsimp only; omega)), ⟨K, J⟩, ⟨R, Q, X⟩, HO, HB⟩
      ·skip
       obtain ⟨q0, q1, q2⟩ := CF.out _ HX.out
       go_simp
       refine hK9 _ _ ?_
       clear hK9 K9 q0 q1 q2
       (try simp only [Act.put, List.setIfInBounds_toArray, List.set_cons_zero, List.set_cons_succ])
       refine wpAny_ready (rs := [2, 7]) (by kernel_rfl) (by simp) ?_
       refine AllReady.cons (o := _) rfl (fun K9 hK9 => ?_) (AllReady.cons (o := _) rfl (fun K9 hK9 => ?_) (AllReady.nil))
       ·skip
        go_simp
        refine (spec_l13Own HOC.out.len HOC.out.recs (by omega)).mono ?_; rintro e w5 ⟨A5x, c5x, rfl, ho5, hb5⟩
        refine hK9 _ _ ?_
        clear hK9 K9
        have hbs5 : bs ≤ wd.heap.size := by have := (HOC.out.at_own).2; omega
        have HW := Lib.hid (ho5.base_le hbs5)
        replace R := R.up hb5
        replace Q := Q.up hb5
        replace X := X.up hb5
        replace K := K.up hb5
        replace J := J.up hb5
        replace F := F.up hb5
        replace HO := Lib.hid (HO.out.up hb5)
        replace HB := Lib.hid (below_go HB.out hb5)
        replace HOT := Lib.hid (HOT.out.up hb5)
        replace HOC := Lib.hid (HOC.out.up hb5)
        replace HX := Lib.hid (below_go HX.out hb5)
        have hWne := fun k (hk : (Value.slice A5x nC c5x).ownBlock = some k) => (ho5.blk hk).1
        clear ho5 hb5
        (try simp only [Act.put, List.setIfInBounds_toArray, List.set_cons_zero, List.set_cons_succ])
        refine wpAny_ready (rs := [7]) (by kernel_rfl) (by simp) ?_
        refine AllReady.cons (o := _) rfl (fun K9 hK9 => ?_) (AllReady.nil)
        have ha : Below w5.heap.size w5 (w5.alloc (.cells #[.string sx, .int .i64 ax, .int .i64 bx] 29)) := by (repeat' (first | (with_reducible exact Below.refl _ _) | (with_reducible assumption) | (with_reducible refine below_drewN ?_ _) | (with_reducible refine Below.drew ?_) | (with_reducible refine below_alloc ?_ _) | (with_reducible refine Below.alloc ?_ ?_ _) | (with_reducible refine Below.setCell ?_ ?_ _) | (with_reducible refine below_go ?_ (by with_reducible assumption)) | (with_reducible refine below_then (by with_reducible assumption) ?_ ?_) | go_size))
        have LT := Lib.hid (own_lit1_at' cutE_len w5 29 (sx, ax, bx) rfl (Nat.le_refl _)).recs
        go_simp
        refine hK9 _ _ ?_
        clear hK9 K9
        replace R := R.up ha
        replace Q := Q.up ha
        replace X := X.up ha
        replace K := K.up ha
        replace J := J.up ha
        replace F := F.up ha
        replace HO := Lib.hid (HO.out.up ha)
        replace HB := Lib.hid (below_go HB.out ha)
        replace HOT := Lib.hid (HOT.out.up ha)
        replace HOC := Lib.hid (HOC.out.up ha)
        replace HW := Lib.hid (HW.out.up ha)
        replace HX := Lib.hid (below_go HX.out ha)
        obtain ⟨wa, hwa⟩ : ∃ u, u = w5.alloc (.cells #[.string sx, .int .i64 ax, .int .i64 bx] 29) := ⟨_, rfl⟩
        change Hid (Recs cutE 3 (w5.alloc (.cells #[.string sx, .int .i64 ax, .int .i64 bx] 29)) (some ⟨w5.heap.size, 0, none⟩) [(sx, ax, bx)]) at LT
        rw [← hwa] at R Q X K J F HO HB HOT HOC HX LT HW ⊢
        clear ha hwa
        (try simp only [Act.put, List.setIfInBounds_toArray, List.set_cons_zero, List.set_cons_succ])
        refine wpAny_ready (rs := [8]) (by kernel_rfl) (by simp) ?_
        refine AllReady.cons (o := _) rfl (fun K9 hK9 => ?_) (AllReady.nil)
        have hbs7 : bs ≤ wa.heap.size := by have := (HOC.out.at_own).2; omega
        refine step_append_recs Tryz.elCut cutE_one rfl _ _ rfl (by rfl) HW.out (by rfl) LT.out rfl (show nC + 1 ≤ 16777216 by omega) (by decide) hbs7 ?_
        intro A6 c6 w6 ho6 hg6 hl6
        refine hK9 _ _ ?_
        clear hK9 K9
        replace K := K.grown hg6 (fun e => by have := (HW.out.blk e.symm).1; omega)
        replace J := J.grown hg6 (fun e => by have := (HW.out.blk e.symm).1; omega)
        replace R := R.grown hg6 (fun e => by have := (HW.out.blk e.symm).1; omega)
        replace Q := Q.grown hg6 (fun e => by have := (HW.out.blk e.symm).1; omega)
        replace X := X.grown hg6 (fun e => by have := (HW.out.blk e.symm).1; omega)
        replace F := F.grown hg6 (blkNe HW.out F (by decide))
        replace HO := Lib.hid (HO.out.kept hg6 (fun k hk e => by have h1 := HLB.out k hk; have h2 := (HW.out.blk e).1; omega))
        replace HB := Lib.hid (HB.out.grown hg6 HB.out.size (fun k e => by have h2 := (HW.out.blk e).1; omega))
        replace HOT := Lib.hid (HOT.out.kept hg6 (HOT.out.ne HW.out (by decide)))
        replace HOC := Lib.hid ho6
        clear ho6 hg6 hl6 CF HX LT hbs7 HW
        (try simp only [Act.put, List.setIfInBounds_toArray, List.set_cons_zero, List.set_cons_succ])
        refine wpAny_take (i := 9) (oi := { dst := some 79, op := _, type := _, pos := _, after := _, guard := _ }) (v := ?_) rfl (by kernel_rfl) (by kernel_rfl) (by kernel_rfl) (fun _ _ _ h => h) (Or.inl ⟨by rfl, ?_⟩) ?_
        rotate_left
        ·(intro w; go_simp) <;> with_reducible rfl
        (try simp only [Act.put, List.setIfInBounds_toArray, List.set_cons_zero, List.set_cons_succ])
        refine wpAny_ready (rs := [10]) (by kernel_rfl) (by simp) ?_
        refine AllReady.cons (o := _) rfl (fun K9 hK9 => ?_) (AllReady.nil)
        have fc0 := F.cell 0; have fc1 := F.cell 1; have fc2 := F.cell 2
        simp only [List.getElem?_cons_zero, List.getElem?_cons_succ] at fc0 fc1 fc2
        have ff0 := F.frozen 0; have ff1 := F.frozen 1; have ff2 := F.frozen 2
        go_simp
        refine hK9 _ _ ?_
        clear hK9 K9
        clear fc0 fc1 fc2 ff0 ff1 ff2
        have gs : w6.grownBy (w6.setCell ⟨fx, 1, none⟩ (.slice A6 (nC + 1) c6)) (some fx) := only_set _ (p := ⟨fx, 1, none⟩) _
        replace K := K.grown gs (fun e => by injection e with e; omega)
        replace J := J.grown gs (fun e => by injection e with e; omega)
        replace R := R.grown gs (fun e => by injection e with e; omega)
        replace Q := Q.grown gs (fun e => by injection e with e; omega)
        replace X := X.grown gs (fun e => by injection e with e; omega)
        have HOT2 := Lib.hid (HOT.out.kept gs (fun k hk e => blkNe HOT.out F (by decide) (e.trans hk.symm)))
        have HOC2 := Lib.hid (HOC.out.kept gs (fun k hk e => blkNe HOC.out F (by decide) (e.trans hk.symm)))
        replace F := F.set_ 1 (.slice A6 (nC + 1) c6)
        simp only [List.set_cons_zero, List.set_cons_succ] at F
        replace HO := Lib.hid (HO.out.kept gs (fun k hk e => by injection e with e; have := HLB.out k hk; omega))
        replace HB := Lib.hid (HB.out.grown gs HB.out.size (fun k e => by injection e with e; omega))
        replace HOT := HOT2
        replace HOC := HOC2
        clear HOT2 HOC2 gs
        (try simp only [Act.put, List.setIfInBounds_toArray, List.set_cons_zero, List.set_cons_succ])
        refine wpAny_done (by kernel_rfl) ?_ _
        (try simp only [Act.put, List.setIfInBounds_toArray, List.set_cons_zero, List.set_cons_succ])
        go_wp2_with fail
        go_meet
        exact ⟨FndS.mk F HOT.out.len (by omega) HOT.out.recs (own_lo HOT.out) (fun t ht => by have := HTS.out t ht; omega) HOC.out.len (by omega) HOC.out.recs (own_lo HOC.out) (fun c hc => (List.mem_append.1 hc).elim (fun q => by have := HCS.out c q; omega) (fun q => by rw [List.mem_singleton.1 q]; dsimp only; omega)), ⟨K, J⟩, ⟨R, Q, X⟩, HO, HB⟩
       ·skip
        have ha : Below wd.heap.size wd (wd.alloc (.cells #[.string sx, .int .i64 ax, .int .i64 bx] 29)) := by (repeat' (first | (with_reducible exact Below.refl _ _) | (with_reducible assumption) | (with_reducible refine below_drewN ?_ _) | (with_reducible refine Below.drew ?_) | (with_reducible refine below_alloc ?_ _) | (with_reducible refine Below.alloc ?_ ?_ _) | (with_reducible refine Below.setCell ?_ ?_ _) | (with_reducible refine below_go ?_ (by with_reducible assumption)) | (with_reducible refine below_then (by with_reducible assumption) ?_ ?_) | go_size))
        have LT := Lib.hid (own_lit1_at' cutE_len wd 29 (sx, ax, bx) rfl (Nat.le_refl _)).recs
        go_simp
        refine hK9 _ _ ?_
        clear hK9 K9
        replace R := R.up ha
        replace Q := Q.up ha
        replace X := X.up ha
        replace K := K.up ha
        replace J := J.up ha
        replace F := F.up ha
        replace HO := Lib.hid (HO.out.up ha)
        replace HB := Lib.hid (below_go HB.out ha)
        replace HOT := Lib.hid (HOT.out.up ha)
        replace HOC := Lib.hid (HOC.out.up ha)
        replace HX := Lib.hid (below_go HX.out ha)
        obtain ⟨wa, hwa⟩ : ∃ u, u = wd.alloc (.cells #[.string sx, .int .i64 ax, .int .i64 bx] 29) := ⟨_, rfl⟩
        change Hid (Recs cutE 3 (wd.alloc (.cells #[.string sx, .int .i64 ax, .int .i64 bx] 29)) (some ⟨wd.heap.size, 0, none⟩) [(sx, ax, bx)]) at LT
        rw [← hwa] at R Q X K J F HO HB HOT HOC HX LT  ⊢
        clear ha hwa
        (try simp only [Act.put, List.setIfInBounds_toArray, List.set_cons_zero, List.set_cons_succ])
        refine wpAny_ready (rs := [2]) (by kernel_rfl) (by simp) ?_
        refine AllReady.cons (o := _) rfl (fun K9 hK9 => ?_) (AllReady.nil)
        go_simp
        refine (spec_l13Own HOC.out.len HOC.out.recs (by omega)).mono ?_; rintro e w5 ⟨A5x, c5x, rfl, ho5, hb5⟩
        refine hK9 _ _ ?_
        clear hK9 K9
        have hbs5 : bs ≤ wa.heap.size := by have := (HOC.out.at_own).2; omega
        have HW := Lib.hid (ho5.base_le hbs5)
        replace R := R.up hb5
        replace Q := Q.up hb5
        replace X := X.up hb5
        replace K := K.up hb5
        replace J := J.up hb5
        replace F := F.up hb5
        replace HO := Lib.hid (HO.out.up hb5)
        replace HB := Lib.hid (below_go HB.out hb5)
        replace HOT := Lib.hid (HOT.out.up hb5)
        replace HOC := Lib.hid (HOC.out.up hb5)
        replace LT := Lib.hid (LT.out.up hb5)
        replace HX := Lib.hid (below_go HX.out hb5)
        have hWne := fun k (hk : (Value.slice A5x nC c5x).ownBlock = some k) => (ho5.blk hk).1
        clear ho5 hb5
        (try simp only [Act.put, List.setIfInBounds_toArray, List.set_cons_zero, List.set_cons_succ])
        refine wpAny_ready (rs := [8]) (by kernel_rfl) (by simp) ?_
        refine AllReady.cons (o := _) rfl (fun K9 hK9 => ?_) (AllReady.nil)
        have hbs7 : bs ≤ w5.heap.size := by have := (HOC.out.at_own).2; omega
        refine step_append_recs Tryz.elCut cutE_one rfl _ _ rfl (by rfl) HW.out (by rfl) LT.out rfl (show nC + 1 ≤ 16777216 by omega) (by decide) hbs7 ?_
        intro A6 c6 w6 ho6 hg6 hl6
        refine hK9 _ _ ?_
        clear hK9 K9
        replace K := K.grown hg6 (fun e => by have := (HW.out.blk e.symm).1; omega)
        replace J := J.grown hg6 (fun e => by have := (HW.out.blk e.symm).1; omega)
        replace R := R.grown hg6 (fun e => by have := (HW.out.blk e.symm).1; omega)
        replace Q := Q.grown hg6 (fun e => by have := (HW.out.blk e.symm).1; omega)
        replace X := X.grown hg6 (fun e => by have := (HW.out.blk e.symm).1; omega)
        replace F := F.grown hg6 (blkNe HW.out F (by decide))
        replace HO := Lib.hid (HO.out.kept hg6 (fun k hk e => by have h1 := HLB.out k hk; have h2 := (HW.out.blk e).1; omega))
        replace HB := Lib.hid (HB.out.grown hg6 HB.out.size (fun k e => by have h2 := (HW.out.blk e).1; omega))
        replace HOT := Lib.hid (HOT.out.kept hg6 (HOT.out.ne HW.out (by decide)))
        replace HOC := Lib.hid ho6
        clear ho6 hg6 hl6 CF HX LT hbs7 HW
        (try simp only [Act.put, List.setIfInBounds_toArray, List.set_cons_zero, List.set_cons_succ])
        refine wpAny_take (i := 9) (oi := { dst := some 79, op := _, type := _, pos := _, after := _, guard := _ }) (v := ?_) rfl (by kernel_rfl) (by kernel_rfl) (by kernel_rfl) (fun _ _ _ h => h) (Or.inl ⟨by rfl, ?_⟩) ?_
        rotate_left
        ·(intro w; go_simp) <;> with_reducible rfl
        (try simp only [Act.put, List.setIfInBounds_toArray, List.set_cons_zero, List.set_cons_succ])
        refine wpAny_ready (rs := [10]) (by kernel_rfl) (by simp) ?_
        refine AllReady.cons (o := _) rfl (fun K9 hK9 => ?_) (AllReady.nil)
        have fc0 := F.cell 0; have fc1 := F.cell 1; have fc2 := F.cell 2
        simp only [List.getElem?_cons_zero, List.getElem?_cons_succ] at fc0 fc1 fc2
        have ff0 := F.frozen 0; have ff1 := F.frozen 1; have ff2 := F.frozen 2
        go_simp
        refine hK9 _ _ ?_
        clear hK9 K9
        clear fc0 fc1 fc2 ff0 ff1 ff2
        have gs : w6.grownBy (w6.setCell ⟨fx, 1, none⟩ (.slice A6 (nC + 1) c6)) (some fx) := only_set _ (p := ⟨fx, 1, none⟩) _
        replace K := K.grown gs (fun e => by injection e with e; omega)
        replace J := J.grown gs (fun e => by injection e with e; omega)
        replace R := R.grown gs (fun e => by injection e with e; omega)
        replace Q := Q.grown gs (fun e => by injection e with e; omega)
        replace X := X.grown gs (fun e => by injection e with e; omega)
        have HOT2 := Lib.hid (HOT.out.kept gs (fun k hk e => blkNe HOT.out F (by decide) (e.trans hk.symm)))
        have HOC2 := Lib.hid (HOC.out.kept gs (fun k hk e => blkNe HOC.out F (by decide) (e.trans hk.symm)))
        replace F := F.set_ 1 (.slice A6 (nC + 1) c6)
        simp only [List.set_cons_zero, List.set_cons_succ] at F
        replace HO := Lib.hid (HO.out.kept gs (fun k hk e => by injection e with e; have := HLB.out k hk; omega))
        replace HB := Lib.hid (HB.out.grown gs HB.out.size (fun k e => by injection e with e; omega))
        replace HOT := HOT2
        replace HOC := HOC2
        clear HOT2 HOC2 gs
        (try simp only [Act.put, List.setIfInBounds_toArray, List.set_cons_zero, List.set_cons_succ])
        refine wpAny_done (by kernel_rfl) ?_ _
        (try simp only [Act.put, List.setIfInBounds_toArray, List.set_cons_zero, List.set_cons_succ])
        go_wp2_with fail
        go_meet
        exact ⟨FndS.mk F HOT.out.len (by omega) HOT.out.recs (own_lo HOT.out) (fun t ht => by have := HTS.out t ht; omega) HOC.out.len (by omega) HOC.out.recs (own_lo HOC.out) (fun c hc => (List.mem_append.1 hc).elim (fun q => by have := HCS.out c q; omega) (fun q => by rw [List.mem_singleton.1 q]; dsimp only; omega)), ⟨K, J⟩, ⟨R, Q, X⟩, HO, HB⟩
     ·skip
      obtain ⟨q0, q1, q2⟩ := CF.out _ HX.out
      go_simp
      refine hK9 _ _ ?_
      clear hK9 K9 q0 q1 q2
      (try simp only [Act.put, List.setIfInBounds_toArray, List.set_cons_zero, List.set_cons_succ])
      refine wpAny_ready (rs := [1, 7]) (by kernel_rfl) (by simp) ?_
      refine AllReady.cons (o := _) rfl (fun K9 hK9 => ?_) (AllReady.cons (o := _) rfl (fun K9 hK9 => ?_) (AllReady.nil))
      ·skip
       have q0 := F.cell 1
       simp only [List.getElem?_cons_zero, List.getElem?_cons_succ] at q0
       go_simp
       refine hK9 _ _ ?_
       clear hK9 K9 q0
       (try simp only [Act.put, List.setIfInBounds_toArray, List.set_cons_zero, List.set_cons_succ])
       refine wpAny_ready (rs := [2, 7]) (by kernel_rfl) (by simp) ?_
       refine AllReady.cons (o := _) rfl (fun K9 hK9 => ?_) (AllReady.cons (o := _) rfl (fun K9 hK9 => ?_) (AllReady.nil))
       ·skip
        go_simp
        refine (spec_l13Own HOC.out.len HOC.out.recs (by omega)).mono ?_; rintro e w5 ⟨A5x, c5x, rfl, ho5, hb5⟩
        refine hK9 _ _ ?_
        clear hK9 K9
        have hbs5 : bs ≤ wd.heap.size := by have := (HOC.out.at_own).2; omega
        have HW := Lib.hid (ho5.base_le hbs5)
        replace R := R.up hb5
        replace Q := Q.up hb5
        replace X := X.up hb5
        replace K := K.up hb5
        replace J := J.up hb5
        replace F := F.up hb5
        replace HO := Lib.hid (HO.out.up hb5)
        replace HB := Lib.hid (below_go HB.out hb5)
        replace HOT := Lib.hid (HOT.out.up hb5)
        replace HOC := Lib.hid (HOC.out.up hb5)
        replace HX := Lib.hid (below_go HX.out hb5)
        have hWne := fun k (hk : (Value.slice A5x nC c5x).ownBlock = some k) => (ho5.blk hk).1
        clear ho5 hb5
        (try simp only [Act.put, List.setIfInBounds_toArray, List.set_cons_zero, List.set_cons_succ])
        refine wpAny_ready (rs := [7]) (by kernel_rfl) (by simp) ?_
        refine AllReady.cons (o := _) rfl (fun K9 hK9 => ?_) (AllReady.nil)
        have ha : Below w5.heap.size w5 (w5.alloc (.cells #[.string sx, .int .i64 ax, .int .i64 bx] 29)) := by (repeat' (first | (with_reducible exact Below.refl _ _) | (with_reducible assumption) | (with_reducible refine below_drewN ?_ _) | (with_reducible refine Below.drew ?_) | (with_reducible refine below_alloc ?_ _) | (with_reducible refine Below.alloc ?_ ?_ _) | (with_reducible refine Below.setCell ?_ ?_ _) | (with_reducible refine below_go ?_ (by with_reducible assumption)) | (with_reducible refine below_then (by with_reducible assumption) ?_ ?_) | go_size))
        have LT := Lib.hid (own_lit1_at' cutE_len w5 29 (sx, ax, bx) rfl (Nat.le_refl _)).recs
        go_simp
        refine hK9 _ _ ?_
        clear hK9 K9
        replace R := R.up ha
        replace Q := Q.up ha
        replace X := X.up ha
        replace K := K.up ha
        replace J := J.up ha
        replace F := F.up ha
        replace HO := Lib.hid (HO.out.up ha)
        replace HB := Lib.hid (below_go HB.out ha)
        replace HOT := Lib.hid (HOT.out.up ha)
        replace HOC := Lib.hid (HOC.out.up ha)
        replace HW := Lib.hid (HW.out.up ha)
        replace HX := Lib.hid (below_go HX.out ha)
        obtain ⟨wa, hwa⟩ : ∃ u, u = w5.alloc (.cells #[.string sx, .int .i64 ax, .int .i64 bx] 29) := ⟨_, rfl⟩
        change Hid (Recs cutE 3 (w5.alloc (.cells #[.string sx, .int .i64 ax, .int .i64 bx] 29)) (some ⟨w5.heap.size, 0, none⟩) [(sx, ax, bx)]) at LT
        rw [← hwa] at R Q X K J F HO HB HOT HOC HX LT HW ⊢
        clear ha hwa
        (try simp only [Act.put, List.setIfInBounds_toArray, List.set_cons_zero, List.set_cons_succ])
        refine wpAny_ready (rs := [8]) (by kernel_rfl) (by simp) ?_
        refine AllReady.cons (o := _) rfl (fun K9 hK9 => ?_) (AllReady.nil)
        have hbs7 : bs ≤ wa.heap.size := by have := (HOC.out.at_own).2; omega
        refine step_append_recs Tryz.elCut cutE_one rfl _ _ rfl (by rfl) HW.out (by rfl) LT.out rfl (show nC + 1 ≤ 16777216 by omega) (by decide) hbs7 ?_
        intro A6 c6 w6 ho6 hg6 hl6
        refine hK9 _ _ ?_
        clear hK9 K9
        replace K := K.grown hg6 (fun e => by have := (HW.out.blk e.symm).1; omega)
        replace J := J.grown hg6 (fun e => by have := (HW.out.blk e.symm).1; omega)
        replace R := R.grown hg6 (fun e => by have := (HW.out.blk e.symm).1; omega)
        replace Q := Q.grown hg6 (fun e => by have := (HW.out.blk e.symm).1; omega)
        replace X := X.grown hg6 (fun e => by have := (HW.out.blk e.symm).1; omega)
        replace F := F.grown hg6 (blkNe HW.out F (by decide))
        replace HO := Lib.hid (HO.out.kept hg6 (fun k hk e => by have h1 := HLB.out k hk; have h2 := (HW.out.blk e).1; omega))
        replace HB := Lib.hid (HB.out.grown hg6 HB.out.size (fun k e => by have h2 := (HW.out.blk e).1; omega))
        replace HOT := Lib.hid (HOT.out.kept hg6 (HOT.out.ne HW.out (by decide)))
        replace HOC := Lib.hid ho6
        clear ho6 hg6 hl6 CF HX LT hbs7 HW
        (try simp only [Act.put, List.setIfInBounds_toArray, List.set_cons_zero, List.set_cons_succ])
        refine wpAny_take (i := 9) (oi := { dst := some 79, op := _, type := _, pos := _, after := _, guard := _ }) (v := ?_) rfl (by kernel_rfl) (by kernel_rfl) (by kernel_rfl) (fun _ _ _ h => h) (Or.inl ⟨by rfl, ?_⟩) ?_
        rotate_left
        ·(intro w; go_simp) <;> with_reducible rfl
        (try simp only [Act.put, List.setIfInBounds_toArray, List.set_cons_zero, List.set_cons_succ])
        refine wpAny_ready (rs := [10]) (by kernel_rfl) (by simp) ?_
        refine AllReady.cons (o := _) rfl (fun K9 hK9 => ?_) (AllReady.nil)
        have fc0 := F.cell 0; have fc1 := F.cell 1; have fc2 := F.cell 2
        simp only [List.getElem?_cons_zero, List.getElem?_cons_succ] at fc0 fc1 fc2
        have ff0 := F.frozen 0; have ff1 := F.frozen 1; have ff2 := F.frozen 2
        go_simp
        refine hK9 _ _ ?_
        clear hK9 K9
        clear fc0 fc1 fc2 ff0 ff1 ff2
        have gs : w6.grownBy (w6.setCell ⟨fx, 1, none⟩ (.slice A6 (nC + 1) c6)) (some fx) := only_set _ (p := ⟨fx, 1, none⟩) _
        replace K := K.grown gs (fun e => by injection e with e; omega)
        replace J := J.grown gs (fun e => by injection e with e; omega)
        replace R := R.grown gs (fun e => by injection e with e; omega)
        replace Q := Q.grown gs (fun e => by injection e with e; omega)
        replace X := X.grown gs (fun e => by injection e with e; omega)
        have HOT2 := Lib.hid (HOT.out.kept gs (fun k hk e => blkNe HOT.out F (by decide) (e.trans hk.symm)))
        have HOC2 := Lib.hid (HOC.out.kept gs (fun k hk e => blkNe HOC.out F (by decide) (e.trans hk.symm)))
        replace F := F.set_ 1 (.slice A6 (nC + 1) c6)
        simp only [List.set_cons_zero, List.set_cons_succ] at F
        replace HO := Lib.hid (HO.out.kept gs (fun k hk e => by injection e with e; have := HLB.out k hk; omega))
        replace HB := Lib.hid (HB.out.grown gs HB.out.size (fun k e => by injection e with e; omega))
        replace HOT := HOT2
        replace HOC := HOC2
        clear HOT2 HOC2 gs
        (try simp only [Act.put, List.setIfInBounds_toArray, List.set_cons_zero, List.set_cons_succ])
        refine wpAny_done (by kernel_rfl) ?_ _
        (try simp only [Act.put, List.setIfInBounds_toArray, List.set_cons_zero, List.set_cons_succ])
        go_wp2_with fail
        go_meet
        exact ⟨FndS.mk F HOT.out.len (by omega) HOT.out.recs (own_lo HOT.out) (fun t ht => by have := HTS.out t ht; omega) HOC.out.len (by omega) HOC.out.recs (own_lo HOC.out) (fun c hc => (List.mem_append.1 hc).elim (fun q => by have := HCS.out c q; omega) (fun q => by rw [List.mem_singleton.1 q]; dsimp only; omega)), ⟨K, J⟩, ⟨R, Q, X⟩, HO, HB⟩
       ·skip
        have ha : Below wd.heap.size wd (wd.alloc (.cells #[.string sx, .int .i64 ax, .int .i64 bx] 29)) := by (repeat' (first | (with_reducible exact Below.refl _ _) | (with_reducible assumption) | (with_reducible refine below_drewN ?_ _) | (with_reducible refine Below.drew ?_) | (with_reducible refine below_alloc ?_ _) | (with_reducible refine Below.alloc ?_ ?_ _) | (with_reducible refine Below.setCell ?_ ?_ _) | (with_reducible refine below_go ?_ (by with_reducible assumption)) | (with_reducible refine below_then (by with_reducible assumption) ?_ ?_) | go_size))
        have LT := Lib.hid (own_lit1_at' cutE_len wd 29 (sx, ax, bx) rfl (Nat.le_refl _)).recs
        go_simp
        refine hK9 _ _ ?_
        clear hK9 K9
        replace R := R.up ha
        replace Q := Q.up ha
        replace X := X.up ha
        replace K := K.up ha
        replace J := J.up ha
        replace F := F.up ha
        replace HO := Lib.hid (HO.out.up ha)
        replace HB := Lib.hid (below_go HB.out ha)
        replace HOT := Lib.hid (HOT.out.up ha)
        replace HOC := Lib.hid (HOC.out.up ha)
        replace HX := Lib.hid (below_go HX.out ha)
        obtain ⟨wa, hwa⟩ : ∃ u, u = wd.alloc (.cells #[.string sx, .int .i64 ax, .int .i64 bx] 29) := ⟨_, rfl⟩
        change Hid (Recs cutE 3 (wd.alloc (.cells #[.string sx, .int .i64 ax, .int .i64 bx] 29)) (some ⟨wd.heap.size, 0, none⟩) [(sx, ax, bx)]) at LT
        rw [← hwa] at R Q X K J F HO HB HOT HOC HX LT  ⊢
        clear ha hwa
        (try simp only [Act.put, List.setIfInBounds_toArray, List.set_cons_zero, List.set_cons_succ])
        refine wpAny_ready (rs := [2]) (by kernel_rfl) (by simp) ?_
        refine AllReady.cons (o := _) rfl (fun K9 hK9 => ?_) (AllReady.nil)
        go_simp
        refine (spec_l13Own HOC.out.len HOC.out.recs (by omega)).mono ?_; rintro e w5 ⟨A5x, c5x, rfl, ho5, hb5⟩
        refine hK9 _ _ ?_
        clear hK9 K9
        have hbs5 : bs ≤ wa.heap.size := by have := (HOC.out.at_own).2; omega
        have HW := Lib.hid (ho5.base_le hbs5)
        replace R := R.up hb5
        replace Q := Q.up hb5
        replace X := X.up hb5
        replace K := K.up hb5
        replace J := J.up hb5
        replace F := F.up hb5
        replace HO := Lib.hid (HO.out.up hb5)
        replace HB := Lib.hid (below_go HB.out hb5)
        replace HOT := Lib.hid (HOT.out.up hb5)
        replace HOC := Lib.hid (HOC.out.up hb5)
        replace LT := Lib.hid (LT.out.up hb5)
        replace HX := Lib.hid (below_go HX.out hb5)
        have hWne := fun k (hk : (Value.slice A5x nC c5x).ownBlock = some k) => (ho5.blk hk).1
        clear ho5 hb5
        (try simp only [Act.put, List.setIfInBounds_toArray, List.set_cons_zero, List.set_cons_succ])
        refine wpAny_ready (rs := [8]) (by kernel_rfl) (by simp) ?_
        refine AllReady.cons (o := _) rfl (fun K9 hK9 => ?_) (AllReady.nil)
        have hbs7 : bs ≤ w5.heap.size := by have := (HOC.out.at_own).2; omega
        refine step_append_recs Tryz.elCut cutE_one rfl _ _ rfl (by rfl) HW.out (by rfl) LT.out rfl (show nC + 1 ≤ 16777216 by omega) (by decide) hbs7 ?_
        intro A6 c6 w6 ho6 hg6 hl6
        refine hK9 _ _ ?_
        clear hK9 K9
        replace K := K.grown hg6 (fun e => by have := (HW.out.blk e.symm).1; omega)
        replace J := J.grown hg6 (fun e => by have := (HW.out.blk e.symm).1; omega)
        replace R := R.grown hg6 (fun e => by have := (HW.out.blk e.symm).1; omega)
        replace Q := Q.grown hg6 (fun e => by have := (HW.out.blk e.symm).1; omega)
        replace X := X.grown hg6 (fun e => by have := (HW.out.blk e.symm).1; omega)
        replace F := F.grown hg6 (blkNe HW.out F (by decide))
        replace HO := Lib.hid (HO.out.kept hg6 (fun k hk e => by have h1 := HLB.out k hk; have h2 := (HW.out.blk e).1; omega))
        replace HB := Lib.hid (HB.out.grown hg6 HB.out.size (fun k e => by have h2 := (HW.out.blk e).1; omega))
        replace HOT := Lib.hid (HOT.out.kept hg6 (HOT.out.ne HW.out (by decide)))
        replace HOC := Lib.hid ho6
        clear ho6 hg6 hl6 CF HX LT hbs7 HW
        (try simp only [Act.put, List.setIfInBounds_toArray, List.set_cons_zero, List.set_cons_succ])
        refine wpAny_take (i := 9) (oi := { dst := some 79, op := _, type := _, pos := _, after := _, guard := _ }) (v := ?_) rfl (by kernel_rfl) (by kernel_rfl) (by kernel_rfl) (fun _ _ _ h => h) (Or.inl ⟨by rfl, ?_⟩) ?_
        rotate_left
        ·(intro w; go_simp) <;> with_reducible rfl
        (try simp only [Act.put, List.setIfInBounds_toArray, List.set_cons_zero, List.set_cons_succ])
        refine wpAny_ready (rs := [10]) (by kernel_rfl) (by simp) ?_
        refine AllReady.cons (o := _) rfl (fun K9 hK9 => ?_) (AllReady.nil)
        have fc0 := F.cell 0; have fc1 := F.cell 1; have fc2 := F.cell 2
        simp only [List.getElem?_cons_zero, List.getElem?_cons_succ] at fc0 fc1 fc2
        have ff0 := F.frozen 0; have ff1 := F.frozen 1; have ff2 := F.frozen 2
        go_simp
        refine hK9 _ _ ?_
        clear hK9 K9
        clear fc0 fc1 fc2 ff0 ff1 ff2
        have gs : w6.grownBy (w6.setCell ⟨fx, 1, none⟩ (.slice A6 (nC + 1) c6)) (some fx) := only_set _ (p := ⟨fx, 1, none⟩) _
        replace K := K.grown gs (fun e => by injection e with e; omega)
        replace J := J.grown gs (fun e => by injection e with e; omega)
        replace R := R.grown gs (fun e => by injection e with e; omega)
        replace Q := Q.grown gs (fun e => by injection e with e; omega)
        replace X := X.grown gs (fun e => by injection e with e; omega)
        have HOT2 := Lib.hid (HOT.out.kept gs (fun k hk e => blkNe HOT.out F (by decide) (e.trans hk.symm)))
        have HOC2 := Lib.hid (HOC.out.kept gs (fun k hk e => blkNe HOC.out F (by decide) (e.trans hk.symm)))
        replace F := F.set_ 1 (.slice A6 (nC + 1) c6)
        simp only [List.set_cons_zero, List.set_cons_succ] at F
        replace HO := Lib.hid (HO.out.kept gs (fun k hk e => by injection e with e; have := HLB.out k hk; omega))
        replace HB := Lib.hid (HB.out.grown gs HB.out.size (fun k e => by injection e with e; omega))
        replace HOT := HOT2
        replace HOC := HOC2
        clear HOT2 HOC2 gs
        (try simp only [Act.put, List.setIfInBounds_toArray, List.set_cons_zero, List.set_cons_succ])
        refine wpAny_done (by kernel_rfl) ?_ _
        (try simp only [Act.put, List.setIfInBounds_toArray, List.set_cons_zero, List.set_cons_succ])
        go_wp2_with fail
        go_meet
        exact ⟨FndS.mk F HOT.out.len (by omega) HOT.out.recs (own_lo HOT.out) (fun t ht => by have := HTS.out t ht; omega) HOC.out.len (by omega) HOC.out.recs (own_lo HOC.out) (fun c hc => (List.mem_append.1 hc).elim (fun q => by have := HCS.out c q; omega) (fun q => by rw [List.mem_singleton.1 q]; dsimp only; omega)), ⟨K, J⟩, ⟨R, Q, X⟩, HO, HB⟩
      ·skip
       have ha : Below wd.heap.size wd (wd.alloc (.cells #[.string sx, .int .i64 ax, .int .i64 bx] 29)) := by (repeat' (first | (with_reducible exact Below.refl _ _) | (with_reducible assumption) | (with_reducible refine below_drewN ?_ _) | (with_reducible refine Below.drew ?_) | (with_reducible refine below_alloc ?_ _) | (with_reducible refine Below.alloc ?_ ?_ _) | (with_reducible refine Below.setCell ?_ ?_ _) | (with_reducible refine below_go ?_ (by with_reducible assumption)) | (with_reducible refine below_then (by with_reducible assumption) ?_ ?_) | go_size))
       have LT := Lib.hid (own_lit1_at' cutE_len wd 29 (sx, ax, bx) rfl (Nat.le_refl _)).recs
       go_simp
       refine hK9 _ _ ?_
       clear hK9 K9
       replace R := R.up ha
       replace Q := Q.up ha
       replace X := X.up ha
       replace K := K.up ha
       replace J := J.up ha
       replace F := F.up ha
       replace HO := Lib.hid (HO.out.up ha)
       replace HB := Lib.hid (below_go HB.out ha)
       replace HOT := Lib.hid (HOT.out.up ha)
       replace HOC := Lib.hid (HOC.out.up ha)
       replace HX := Lib.hid (below_go HX.out ha)
       obtain ⟨wa, hwa⟩ : ∃ u, u = wd.alloc (.cells #[.string sx, .int .i64 ax, .int .i64 bx] 29) := ⟨_, rfl⟩
       change Hid (Recs cutE 3 (wd.alloc (.cells #[.string sx, .int .i64 ax, .int .i64 bx] 29)) (some ⟨wd.heap.size, 0, none⟩) [(sx, ax, bx)]) at LT
       rw [← hwa] at R Q X K J F HO HB HOT HOC HX LT  ⊢
       clear ha hwa
       (try simp only [Act.put, List.setIfInBounds_toArray, List.set_cons_zero, List.set_cons_succ])
       refine wpAny_ready (rs := [1]) (by kernel_rfl) (by simp) ?_
       refine AllReady.cons (o := _) rfl (fun K9 hK9 => ?_) (AllReady.nil)
       have q0 := F.cell 1
       simp only [List.getElem?_cons_zero, List.getElem?_cons_succ] at q0
       go_simp
       refine hK9 _ _ ?_
       clear hK9 K9 q0
       (try simp only [Act.put, List.setIfInBounds_toArray, List.set_cons_zero, List.set_cons_succ])
       refine wpAny_ready (rs := [2]) (by kernel_rfl) (by simp) ?_
       refine AllReady.cons (o := _) rfl (fun K9 hK9 => ?_) (AllReady.nil)
       go_simp
       refine (spec_l13Own HOC.out.len HOC.out.recs (by omega)).mono ?_; rintro e w5 ⟨A5x, c5x, rfl, ho5, hb5⟩
       refine hK9 _ _ ?_
       clear hK9 K9
       have hbs5 : bs ≤ wa.heap.size := by have := (HOC.out.at_own).2; omega
       have HW := Lib.hid (ho5.base_le hbs5)
       replace R := R.up hb5
       replace Q := Q.up hb5
       replace X := X.up hb5
       replace K := K.up hb5
       replace J := J.up hb5
       replace F := F.up hb5
       replace HO := Lib.hid (HO.out.up hb5)
       replace HB := Lib.hid (below_go HB.out hb5)
       replace HOT := Lib.hid (HOT.out.up hb5)
       replace HOC := Lib.hid (HOC.out.up hb5)
       replace LT := Lib.hid (LT.out.up hb5)
       replace HX := Lib.hid (below_go HX.out hb5)
       have hWne := fun k (hk : (Value.slice A5x nC c5x).ownBlock = some k) => (ho5.blk hk).1
       clear ho5 hb5
       (try simp only [Act.put, List.setIfInBounds_toArray, List.set_cons_zero, List.set_cons_succ])
       refine wpAny_ready (rs := [8]) (by kernel_rfl) (by simp) ?_
       refine AllReady.cons (o := _) rfl (fun K9 hK9 => ?_) (AllReady.nil)
       have hbs7 : bs ≤ w5.heap.size := by have := (HOC.out.at_own).2; omega
       refine step_append_recs Tryz.elCut cutE_one rfl _ _ rfl (by rfl) HW.out (by rfl) LT.out rfl (show nC + 1 ≤ 16777216 by omega) (by decide) hbs7 ?_
       intro A6 c6 w6 ho6 hg6 hl6
       refine hK9 _ _ ?_
       clear hK9 K9
       replace K := K.grown hg6 (fun e => by have := (HW.out.blk e.symm).1; omega)
       replace J := J.grown hg6 (fun e => by have := (HW.out.blk e.symm).1; omega)
       replace R := R.grown hg6 (fun e => by have := (HW.out.blk e.symm).1; omega)
       replace Q := Q.grown hg6 (fun e => by have := (HW.out.blk e.symm).1; omega)
       replace X := X.grown hg6 (fun e => by have := (HW.out.blk e.symm).1; omega)
       replace F := F.grown hg6 (blkNe HW.out F (by decide))
       replace HO := Lib.hid (HO.out.kept hg6 (fun k hk e => by have h1 := HLB.out k hk; have h2 := (HW.out.blk e).1; omega))
       replace HB := Lib.hid (HB.out.grown hg6 HB.out.size (fun k e => by have h2 := (HW.out.blk e).1; omega))
       replace HOT := Lib.hid (HOT.out.kept hg6 (HOT.out.ne HW.out (by decide)))
       replace HOC := Lib.hid ho6
       clear ho6 hg6 hl6 CF HX LT hbs7 HW
       (try simp only [Act.put, List.setIfInBounds_toArray, List.set_cons_zero, List.set_cons_succ])
       refine wpAny_take (i := 9) (oi := { dst := some 79, op := _, type := _, pos := _, after := _, guard := _ }) (v := ?_) rfl (by kernel_rfl) (by kernel_rfl) (by kernel_rfl) (fun _ _ _ h => h) (Or.inl ⟨by rfl, ?_⟩) ?_
       rotate_left
       ·(intro w; go_simp) <;> with_reducible rfl
       (try simp only [Act.put, List.setIfInBounds_toArray, List.set_cons_zero, List.set_cons_succ])
       refine wpAny_ready (rs := [10]) (by kernel_rfl) (by simp) ?_
       refine AllReady.cons (o := _) rfl (fun K9 hK9 => ?_) (AllReady.nil)
       have fc0 := F.cell 0; have fc1 := F.cell 1; have fc2 := F.cell 2
       simp only [List.getElem?_cons_zero, List.getElem?_cons_succ] at fc0 fc1 fc2
       have ff0 := F.frozen 0; have ff1 := F.frozen 1; have ff2 := F.frozen 2
       go_simp
       refine hK9 _ _ ?_
       clear hK9 K9
       clear fc0 fc1 fc2 ff0 ff1 ff2
       have gs : w6.grownBy (w6.setCell ⟨fx, 1, none⟩ (.slice A6 (nC + 1) c6)) (some fx) := only_set _ (p := ⟨fx, 1, none⟩) _
       replace K := K.grown gs (fun e => by injection e with e; omega)
       replace J := J.grown gs (fun e => by injection e with e; omega)
       replace R := R.grown gs (fun e => by injection e with e; omega)
       replace Q := Q.grown gs (fun e => by injection e with e; omega)
       replace X := X.grown gs (fun e => by injection e with e; omega)
       have HOT2 := Lib.hid (HOT.out.kept gs (fun k hk e => blkNe HOT.out F (by decide) (e.trans hk.symm)))
       have HOC2 := Lib.hid (HOC.out.kept gs (fun k hk e => blkNe HOC.out F (by decide) (e.trans hk.symm)))
       replace F := F.set_ 1 (.slice A6 (nC + 1) c6)
       simp only [List.set_cons_zero, List.set_cons_succ] at F
       replace HO := Lib.hid (HO.out.kept gs (fun k hk e => by injection e with e; have := HLB.out k hk; omega))
       replace HB := Lib.hid (HB.out.grown gs HB.out.size (fun k e => by injection e with e; omega))
       replace HOT := HOT2
       replace HOC := HOC2
       clear HOT2 HOC2 gs
       (try simp only [Act.put, List.setIfInBounds_toArray, List.set_cons_zero, List.set_cons_succ])
       refine wpAny_done (by kernel_rfl) ?_ _
       (try simp only [Act.put, List.setIfInBounds_toArray, List.set_cons_zero, List.set_cons_succ])
       go_wp2_with fail
       go_meet
       exact ⟨FndS.mk F HOT.out.len (by omega) HOT.out.recs (own_lo HOT.out) (fun t ht => by have := HTS.out t ht; omega) HOC.out.len (by omega) HOC.out.recs (own_lo HOC.out) (fun c hc => (List.mem_append.1 hc).elim (fun q => by have := HCS.out c q; omega) (fun q => by rw [List.mem_singleton.1 q]; dsimp only; omega)), ⟨K, J⟩, ⟨R, Q, X⟩, HO, HB⟩
  ·skip
   have n0 : (k7 == 0) = false := by rw [beq_eq_false_iff_ne]; omega
   have n1 : (k7 == 1) = false := by rw [beq_eq_false_iff_ne]; omega
   have n2 : (k7 == 2) = false := by rw [beq_eq_false_iff_ne]; omega
   have n3 : (k7 == 3) = false := by rw [beq_eq_false_iff_ne]; omega
   have fc0 := F.cell 0; have fc1 := F.cell 1; have fc2 := F.cell 2
   simp only [List.getElem?_cons_zero, List.getElem?_cons_succ] at fc0 fc1 fc2
   have ff0 := F.frozen 0; have ff1 := F.frozen 1; have ff2 := F.frozen 2
   go_wp2_with fail
   clear n0 n1 n2 n3
   clear fc0 fc1 fc2 ff0 ff1 ff2
   go_meet
   exact ⟨FndS.mk F HOT.out.len (by omega) HOT.out.recs (own_lo HOT.out) (fun t ht => by have := HTS.out t ht; omega) HOC.out.len (by omega) HOC.out.recs (own_lo HOC.out) (fun c hc => by have := HCS.out c hc; omega), ⟨K, J⟩, ⟨R, Q, X⟩, HO, HB⟩
 case rest =>
  obtain ⟨hF, ⟨K, J⟩, ⟨R, Q, X⟩, HO, HB⟩ := hcut
  obtain ⟨BT, mT, dT, T1, BC, mC, dC, C1, okg, F, ⟨hT1, hT2, hT3, hT4, hT5⟩, hC1, hC2, hC3, hC4, hC5⟩ := hF
  have HT3 := Lib.hid hT3
  have HC3 := Lib.hid hC3
  clear HOT HOC HTS HCS hT3 hC3
  rename World => wr
  go_upto_region 16 with fail
  have aD : Below wr.heap.size wr wr.drew := (Below.refl _ _).drew
  replace R := R.up aD
  replace Q := Q.up aD
  replace X := X.up aD
  replace K := K.up aD
  replace J := J.up aD
  replace F := F.up aD
  replace HO := Lib.hid (HO.out.up aD)
  replace HB := Lib.hid (below_go HB.out aD)
  replace HT3 := Lib.hid (HT3.out.up aD)
  replace HC3 := Lib.hid (HC3.out.up aD)
  clear aD
  have cS : Hid (∀ u : World, Blk u b 25 [.string nm, .int .i64 (st : Int), .slice A2 m c2] → Blk u (b + 1) 27 [.string kb, .string ks] → Blk u fx 75 [.slice BT mT dT, .slice BC mC dC, .bool okg] → (u.cell? ⟨b, 0, none⟩ = some (.string nm) ∧ u.cell? ⟨b, 1, none⟩ = some (.int .i64 (st : Int)) ∧ u.cell? ⟨b, 2, none⟩ = some (.slice A2 m c2)) ∧ (u.cell? ⟨b + 1, 0, none⟩ = some (.string kb) ∧ u.cell? ⟨b + 1, 1, none⟩ = some (.string ks)) ∧ u.cell? ⟨fx, 0, none⟩ = some (.slice BT mT dT) ∧ u.cell? ⟨fx, 1, none⟩ = some (.slice BC mC dC) ∧ u.cell? ⟨fx, 2, none⟩ = some (.bool okg)) := Lib.hid (fun u L0 L1 L2 => ⟨⟨by simpa using L0.cell 0, by simpa using L0.cell 1, by simpa using L0.cell 2⟩, ⟨by simpa using L1.cell 0, by simpa using L1.cell 1⟩, by simpa using L2.cell 0, by simpa using L2.cell 1, by simpa using L2.cell 2⟩)
  refine wp_region_held_drew (S := fun u => (u.cell? ⟨b, 0, none⟩ = some (.string nm) ∧ u.cell? ⟨b, 1, none⟩ = some (.int .i64 (st : Int)) ∧ u.cell? ⟨b, 2, none⟩ = some (.slice A2 m c2)) ∧ (u.cell? ⟨b + 1, 0, none⟩ = some (.string kb) ∧ u.cell? ⟨b + 1, 1, none⟩ = some (.string ks)) ∧ u.cell? ⟨fx, 0, none⟩ = some (.slice BT mT dT) ∧ u.cell? ⟨fx, 1, none⟩ = some (.slice BC mC dC) ∧ u.cell? ⟨fx, 2, none⟩ = some (.bool okg)) (by kernel_rfl) (cS.out _ K J F) (fun hHeld => ?_)
  refine takeH 0 80 (v := ?_) rfl (by kernel_rfl) (by kernel_rfl) (by kernel_rfl) (fun _ _ _ h => h) (Or.inl ⟨by rfl, ?_⟩) (by assumption) ?_
  rotate_left
  ·(intro w hSw; (try dsimp only at hSw); go_simp) <;> with_reducible rfl
  (try simp only [Act.put, List.setIfInBounds_toArray, List.set_cons_zero, List.set_cons_succ])
  refine takeH 1 81 (v := ?_) rfl (by kernel_rfl) (by kernel_rfl) (by kernel_rfl) (fun _ _ _ h => h) (Or.inl ⟨by rfl, ?_⟩) (by assumption) ?_
  rotate_left
  ·(intro w hSw; (try dsimp only at hSw); go_simp) <;> with_reducible rfl
  (try simp only [Act.put, List.setIfInBounds_toArray, List.set_cons_zero, List.set_cons_succ])
  refine takeH 2 82 (v := ?_) rfl (by kernel_rfl) (by kernel_rfl) (by kernel_rfl) (fun _ _ _ h => h) (Or.inl ⟨by rfl, ?_⟩) (by assumption) ?_
  rotate_left
  ·(intro w hSw; (try dsimp only at hSw); go_simp) <;> with_reducible rfl
  (try simp only [Act.put, List.setIfInBounds_toArray, List.set_cons_zero, List.set_cons_succ])
  refine takeH 3 83 (v := ?_) rfl (by kernel_rfl) (by kernel_rfl) (by kernel_rfl) (fun _ _ _ h => h) (Or.inl ⟨by rfl, ?_⟩) (by assumption) ?_
  rotate_left
  ·(intro w hSw; (try dsimp only at hSw); go_simp) <;> with_reducible rfl
  (try simp only [Act.put, List.setIfInBounds_toArray, List.set_cons_zero, List.set_cons_succ])
  obtain ⟨wd, hwd⟩ : ∃ u, u = wr.drew := ⟨_, rfl⟩
  rw [← hwd] at K J R Q X F HO HB HT3 HC3 hHeld ⊢
  clear hwd
  have rc0 := R.cell 0; have rc1 := R.cell 1; have rc2 := R.cell 2
  have rf0 := R.frozen 0; have rf1 := R.frozen 1; have rf2 := R.frozen 2
  simp only [List.getElem?_cons_zero, List.getElem?_cons_succ] at rc0 rc1 rc2
  have q1 := sets3_grown wd w.heap.size (.string nm) (.int .i64 (st : Int)) (.slice A2 m c2)
  have R1 := ((R.set_ 0 (.string nm)).set_ 1 (.int .i64 (st : Int))).set_ 2 (.slice A2 m c2)
  have Y1 := Q.grown q1 (fun e => by injection e with e; omega)
  have X1 := X.grown q1 (fun e => by injection e with e; omega)
  have K1 := K.grown q1 (fun e => by injection e with e; omega)
  have J1 := J.grown q1 (fun e => by injection e with e; omega)
  have D1 := F.grown q1 (fun e => by injection e with e; omega)
  have hbs := HB.out.size
  have HB1 := Lib.hid (HB.out.grown q1 hbs (fun k e => by injection e with e; omega))
  have HO1 := Lib.hid (HO.out.past q1 (by omega))
  have HT1 := Lib.hid (HT3.out.past q1 (fun h a ea => by have := hT5 h a ea; omega))
  have HC1 := Lib.hid (HC3.out.past q1 (fun h a ea => by have := hC5 h a ea; omega))
  obtain ⟨wA, hwA⟩ : ∃ u, u = ((wd.setCell ⟨w.heap.size, 0, none⟩ (.string nm)).setCell ⟨w.heap.size, 1, none⟩ (.int .i64 (st : Int))).setCell ⟨w.heap.size, 2, none⟩ (.slice A2 m c2) := ⟨_, rfl⟩
  rw [← hwA] at R1 Y1 X1 K1 J1 D1 HB1 HO1 HT1 HC1
  refine wpAnyH_ready (rs := [4]) (by kernel_rfl) (by simp) ?_
  refine AllReadyH.cons (o := _) rfl (fun K0 hK0 => ?_) AllReadyH.nil
  go_simp
  try rw [← hwA]
  refine hK0.out _ _ (cS.out _ K1 J1 D1) (fun hHeld1 => ?_)
  clear hK0 K0 rc0 rc1 rc2 rf0 rf1 rf2 R Q X K J F hHeld hwA q1 HT3 HC3
  (try simp only [Act.put, List.setIfInBounds_toArray, List.set_cons_zero, List.set_cons_succ])
  have yc0 := Y1.cell 0; have yc1 := Y1.cell 1
  have yf0 := Y1.frozen 0; have yf1 := Y1.frozen 1
  simp only [List.getElem?_cons_zero, List.getElem?_cons_succ] at yc0 yc1
  have q2 := sets2_grown wA (w.heap.size + 1) (.string kb) (.string ks)
  have R2 := R1.grown q2 (fun e => by injection e with e; omega)
  have Y2 := (Y1.set_ 0 (.string kb)).set_ 1 (.string ks)
  have X2 := X1.grown q2 (fun e => by injection e with e; omega)
  have K2x := K1.grown q2 (fun e => by injection e with e; omega)
  have J2 := J1.grown q2 (fun e => by injection e with e; omega)
  have D2 := D1.grown q2 (fun e => by injection e with e; omega)
  have HB2 := Lib.hid (HB1.out.grown q2 HB1.out.size (fun k e => by injection e with e; omega))
  have HO2 := Lib.hid (HO1.out.past q2 (by omega))
  have HT2 := Lib.hid (HT1.out.past q2 (fun h a ea => by have := hT5 h a ea; omega))
  have HC2 := Lib.hid (HC1.out.past q2 (fun h a ea => by have := hC5 h a ea; omega))
  obtain ⟨wB, hwB⟩ : ∃ u, u = (wA.setCell ⟨w.heap.size + 1, 0, none⟩ (.string kb)).setCell ⟨w.heap.size + 1, 1, none⟩ (.string ks) := ⟨_, rfl⟩
  rw [← hwB] at R2 Y2 X2 K2x J2 D2 HB2 HO2 HT2 HC2
  refine wpAnyH_ready (rs := [5]) (by kernel_rfl) (by simp) ?_
  refine AllReadyH.cons (o := _) rfl (fun K0 hK0 => ?_) AllReadyH.nil
  go_simp
  try rw [← hwB]
  refine hK0.out _ _ (cS.out _ K2x J2 D2) (fun hHeld2 => ?_)
  clear hK0 K0 yc0 yc1 yf0 yf1 hHeld1 hwB q2 R1 Y1 X1 K1 J1 D1 HB1 HO1 HT1 HC1
  (try simp only [Act.put, List.setIfInBounds_toArray, List.set_cons_zero, List.set_cons_succ])
  refine wpAnyH_ready (rs := [6]) (by kernel_rfl) (by simp) ?_
  refine AllReadyH.cons (o := _) rfl (fun K0 hK0 => ?_) AllReadyH.nil
  go_simp
  refine hK0.out _ _ (cS.out _ K2x J2 D2) (fun hHeld3 => ?_)
  clear hK0 K0 hHeld2
  (try simp only [Act.put, List.setIfInBounds_toArray, List.set_cons_zero, List.set_cons_succ])
  have xc0 := X2.cell 0; have xc1 := X2.cell 1; have xc2 := X2.cell 2
  have xf0 := X2.frozen 0; have xf1 := X2.frozen 1; have xf2 := X2.frozen 2
  simp only [List.getElem?_cons_zero, List.getElem?_cons_succ] at xc0 xc1 xc2
  have q3 := sets3_grown wB (w.heap.size + 1 + 1) (.slice BT mT dT) (.slice BC mC dC) (.bool okg)
  have R3 := R2.grown q3 (fun e => by injection e with e; omega)
  have Y3 := Y2.grown q3 (fun e => by injection e with e; omega)
  have X3 := ((X2.set_ 0 (.slice BT mT dT)).set_ 1 (.slice BC mC dC)).set_ 2 (.bool okg)
  have K3 := K2x.grown q3 (fun e => by injection e with e; omega)
  have J3 := J2.grown q3 (fun e => by injection e with e; omega)
  have D3 := D2.grown q3 (fun e => by injection e with e; omega)
  have HB3 := Lib.hid (HB2.out.grown q3 HB2.out.size (fun k e => by injection e with e; omega))
  have HO3 := Lib.hid (HO2.out.past q3 (by omega))
  have HT4 := Lib.hid (HT2.out.past q3 (fun h a ea => by have := hT5 h a ea; omega))
  have HC4 := Lib.hid (HC2.out.past q3 (fun h a ea => by have := hC5 h a ea; omega))
  obtain ⟨wC, hwC⟩ : ∃ u, u = ((wB.setCell ⟨w.heap.size + 1 + 1, 0, none⟩ (.slice BT mT dT)).setCell ⟨w.heap.size + 1 + 1, 1, none⟩ (.slice BC mC dC)).setCell ⟨w.heap.size + 1 + 1, 2, none⟩ (.bool okg) := ⟨_, rfl⟩
  rw [← hwC] at R3 Y3 X3 K3 J3 D3 HB3 HO3 HT4 HC4
  refine wpAnyH_ready (rs := [7]) (by kernel_rfl) (by simp) ?_
  refine AllReadyH.cons (o := _) rfl (fun K0 hK0 => ?_) AllReadyH.nil
  go_simp
  try rw [← hwC]
  refine hK0.out _ _ (cS.out _ K3 J3 D3) (fun hHeld4 => ?_)
  clear hK0 K0 xc0 xc1 xc2 xf0 xf1 xf2 hHeld3 hwC q3
  (try simp only [Act.put, List.setIfInBounds_toArray, List.set_cons_zero, List.set_cons_succ])
  refine wpAnyH_done (by kernel_rfl) ?_ _
  (try simp only [Act.put, List.setIfInBounds_toArray, List.set_cons_zero, List.set_cons_succ])
  have u0 := R3.cell 0; have u1 := R3.cell 1; have u2 := R3.cell 2
  have v0 := Y3.cell 0; have v1 := Y3.cell 1
  have t0 := X3.cell 0; have t1 := X3.cell 1; have t2 := X3.cell 2
  simp only [List.set_cons_zero, List.set_cons_succ, List.getElem?_cons_zero, List.getElem?_cons_succ] at u0 u1 u2 v0 v1 t0 t1 t2
  clear R2 Y2 X2 R3 Y3 X3 K2x J2 D2 K3 J3 D3 HB2 HO2 HT2 HC2 hHeld4
  rename_i aK
  refine aK _ _ ?_
  refine wp_ret ?_
  refine bodyPost_ret (v := .tuple #[.agg #[.string nm, .int .i64 (st : Int), .slice A2 m c2], .agg #[.string kb, .string ks], .int .i64 (N : Nat), .agg #[.slice BT mT dT, .slice BC mC dC, .bool okg]]) (by simp [results, Tryz.results63, go_sem, u0, u1, u2, v0, v1, t0, t1, t2]) rfl ?_
  exact ⟨nm, st, A2, m, c2, L, kb, ks, N, BT, mT, dT, T1, BC, mC, dC, C1, okg, rfl, HDR.out, zkb, zks, by omega, ⟨hT1, hT2, HT4.out, hT4⟩, ⟨hC1, hC2, HC4.out, hC4⟩, HO3.out.base_le (by omega), HB3.out⟩
end Go.Proofs.YtidolgonmimicaaGreat
namespace Go.Proofs.YtidolgonmimicaaGreat
open Go.ChangeShapes Go.WideShapes Go.ChangeAt Go.RowKit Go.Deep
set_option maxHeartbeats 16000000 in
set_option maxRecDepth 100000 in
theorem law_Search (A0 : Option Addr) (c0 : Nat) (l0 : List Int) (A1 : Option Addr) (c1 : Nat) (l1 : List Int) (w : World) (h0 : Recs byteE 1 w A0 l0) (hm0 : l0.length ≤ 9223372036854775807) (hb0 : ∀ x ∈ l0, 0 ≤ x ∧ x ≤ 255)
  (h1 : Recs byteE 1 w A1 l1) (hm1 : l1.length ≤ 9223372036854775807) (hb1 : ∀ x ∈ l1, 0 ≤ x ∧ x ≤ 255) :
  Calls Tryz.prog 8 #[.slice A0 l0.length c0, .slice A1 l1.length c1] w fun e w' => e = .returned (.bool true) ∧ Below w.heap.size w w' := by
 have S0 := Lib.hid (show Src w A0 l0.length from ⟨l0, rfl, hm0, hb0, h0⟩)
 have S1 := Lib.hid (show Src w A1 l1.length from ⟨l1, rfl, hm1, hb1, h1⟩)
 clear h0 hb0 h1 hb1
 by_cases hz : wrap64 ((l0.length : Int) + (l1.length : Int)) ≤ 1048576
 ·have hI : ¬ 1048576 < wrap64 ((l0.length : Int) + (l1.length : Int)) := by omega
  clear hz
  go_in
  go_wp2_with fail
  clear hI
  refine (draw_SearchTouches S0.out).mono ?_; rintro e v ⟨nm, st, B, m, d, L, kb, ks, N, bd, rfl, hdr, zk, zs, hN7, hbd, ho, hv⟩
  have hdf := drM_f13 hdr
  have HL := Lib.hid ho.len
  have hcap := ho.cap.1
  have z : m ≤ 1048576 := by have := HL.out; omega
  have zk2 : kb.size ≤ 16777216 := by omega
  have zs2 : ks.size ≤ 16777216 := by omega
  have hN : N ≤ 1000 := by omega
  have hbd2 : bd ≤ 10000 := by omega
  have a1 : Below v.heap.size v ((v.alloc (.cells #[.string nm, .int .i64 (st : Int), .slice B m d] 25)).alloc (.cells #[.string kb, .string ks] 27)) := by (repeat' (first | (with_reducible exact Below.refl _ _) | (with_reducible assumption) | (with_reducible refine below_drewN ?_ _) | (with_reducible refine Below.drew ?_) | (with_reducible refine below_alloc ?_ _) | (with_reducible refine Below.alloc ?_ ?_ _) | (with_reducible refine Below.setCell ?_ ?_ _) | (with_reducible refine below_go ?_ (by with_reducible assumption)) | (with_reducible refine below_then (by with_reducible assumption) ?_ ?_) | go_size))
  have K := ((Blk.at_ v 25 [.string nm, .int .i64 (st : Int), .slice B m d] (b := v.heap.size) rfl).alloc (.cells #[.string kb, .string ks] 27))
  have J := (Blk.at_ (v.alloc (.cells #[.string nm, .int .i64 (st : Int), .slice B m d] 25)) 27 [.string kb, .string ks] (b := v.heap.size + 1) (by simp))
  have R := Lib.hid (ho.recs.up a1)
  have HW := Lib.hid (below_go hv a1)
  clear hv a1 hdr ho
  go_upto_region 4 with fail
  obtain ⟨u, hu⟩ : ∃ u, u = ((v.alloc (.cells #[.string nm, .int .i64 (st : Int), .slice B m d] 25)).alloc (.cells #[.string kb, .string ks] 27)) := ⟨_, rfl⟩
  rw [← hu] at K J R HW ⊢
  obtain ⟨p, hp⟩ : ∃ u, u = v.heap.size := ⟨_, rfl⟩
  rw [← hp] at K J ⊢
  clear hu hp
  obtain ⟨okk, hokk⟩ : ∃ u, u = stOk nm st L kb ks N bd := ⟨_, rfl⟩
  have HOK := Lib.hid hokk
  obtain ⟨⟨rl, T, C, okf⟩, hRR⟩ : ∃ u, u = stR nm st L kb ks N bd := ⟨_, rfl⟩
  have HRR := Lib.hid hRR
  have HTS := Lib.hid (stR_T nm st L kb ks N bd)
  have HCS := Lib.hid (stR_C nm st L kb ks N bd)
  rw [← hRR] at HTS HCS
  clear hokk hRR
  have kc0 := K.cell 0; have kc1 := K.cell 1; have kc2 := K.cell 2; have jc0 := J.cell 0; have jc1 := J.cell 1
  simp only [List.getElem?_cons_zero, List.getElem?_cons_succ] at kc0 kc1 kc2 jc0 jc1
  go_wp2_with fail
  refine (impl_SearchTouches (nm := nm) HL.out R.out z hdf.2.2.2.1 hdf.1 hdf.2.1 zk2 zs2 hN hbd2).mono ?_; rw [← HOK.out, ← HRR.out]; intro e y2 hx
  obtain ⟨ATa, nTa, cTa, ACa, nCa, cCa, rfl, hoT, hoC, hnTa, hnCa, hy⟩ := hx
  dsimp only at hoT hoC
  clear kc0 kc1 kc2 jc0 jc1
  have HTa := Lib.hid hoT.recs
  have HCa := Lib.hid hoC.recs
  have HTla := Lib.hid hoT.len
  have HCla := Lib.hid hoC.len
  clear hoT hoC
  replace K := K.up hy
  replace J := J.up hy
  replace R := Lib.hid (R.out.up hy)
  replace HW := Lib.hid (below_go HW.out hy)
  clear hy
  have Fa := Blk.at_ y2 75 [.slice ATa nTa cTa, .slice ACa nCa cCa, .bool okf] (b := y2.heap.size) rfl
  have a9 : Below y2.heap.size y2 (y2.alloc (.cells #[.slice ATa nTa cTa, .slice ACa nCa cCa, .bool okf] 75)) := by (repeat' (first | (with_reducible exact Below.refl _ _) | (with_reducible assumption) | (with_reducible refine below_drewN ?_ _) | (with_reducible refine Below.drew ?_) | (with_reducible refine below_alloc ?_ _) | (with_reducible refine Below.alloc ?_ ?_ _) | (with_reducible refine Below.setCell ?_ ?_ _) | (with_reducible refine below_go ?_ (by with_reducible assumption)) | (with_reducible refine below_then (by with_reducible assumption) ?_ ?_) | go_size))
  replace K := K.up a9
  replace J := J.up a9
  replace R := Lib.hid (R.out.up a9)
  replace HTa := Lib.hid (HTa.out.up a9)
  replace HCa := Lib.hid (HCa.out.up a9)
  replace HW := Lib.hid (below_go HW.out a9)
  clear a9
  go_upto_region 5 with fail
  obtain ⟨ua, hu⟩ : ∃ u, u = y2.alloc (.cells #[.slice ATa nTa cTa, .slice ACa nCa cCa, .bool okf] 75) := ⟨_, rfl⟩
  rw [← hu] at K J R HTa HCa Fa HW ⊢
  obtain ⟨pa, hp⟩ : ∃ u, u = y2.heap.size := ⟨_, rfl⟩
  rw [← hp] at Fa ⊢
  clear hu hp
  have kc0 := K.cell 0; have kc1 := K.cell 1; have kc2 := K.cell 2; have jc0 := J.cell 0; have jc1 := J.cell 1
  simp only [List.getElem?_cons_zero, List.getElem?_cons_succ] at kc0 kc1 kc2 jc0 jc1
  go_wp2_with fail
  refine (spec_SearchTouches (nm := nm) HL.out R.out z hdf.2.2.2.1 hdf.1 hdf.2.1 zk2 zs2 hN hbd2 hcap).mono ?_; rw [← HOK.out, ← HRR.out]; intro e y2 hx
  obtain ⟨ATb, nTb, cTb, ACb, nCb, cCb, rfl, hoT, hoC, hnTb, hnCb, hy⟩ := hx
  dsimp only at hoT hoC
  clear kc0 kc1 kc2 jc0 jc1
  have HTb := Lib.hid hoT.recs
  have HCb := Lib.hid hoC.recs
  have HTlb := Lib.hid hoT.len
  have HClb := Lib.hid hoC.len
  clear hoT hoC
  obtain rfl : nTb = nTa := by rw [← HTlb.out, ← HTla.out]
  obtain rfl : nCb = nCa := by rw [← HClb.out, ← HCla.out]
  clear HTlb HClb hnTb hnCb
  replace K := K.up hy
  replace J := J.up hy
  replace Fa := Fa.up hy
  replace R := Lib.hid (R.out.up hy)
  replace HTa := Lib.hid (HTa.out.up hy)
  replace HCa := Lib.hid (HCa.out.up hy)
  replace HW := Lib.hid (below_go HW.out hy)
  clear hy
  have Fb := Blk.at_ y2 75 [.slice ATb nTb cTb, .slice ACb nCb cCb, .bool okf] (b := y2.heap.size) rfl
  have a9 : Below y2.heap.size y2 (y2.alloc (.cells #[.slice ATb nTb cTb, .slice ACb nCb cCb, .bool okf] 75)) := by (repeat' (first | (with_reducible exact Below.refl _ _) | (with_reducible assumption) | (with_reducible refine below_drewN ?_ _) | (with_reducible refine Below.drew ?_) | (with_reducible refine below_alloc ?_ _) | (with_reducible refine Below.alloc ?_ ?_ _) | (with_reducible refine Below.setCell ?_ ?_ _) | (with_reducible refine below_go ?_ (by with_reducible assumption)) | (with_reducible refine below_then (by with_reducible assumption) ?_ ?_) | go_size))
  replace K := K.up a9
  replace J := J.up a9
  replace Fa := Fa.up a9
  replace R := Lib.hid (R.out.up a9)
  replace HTa := Lib.hid (HTa.out.up a9)
  replace HCa := Lib.hid (HCa.out.up a9)
  replace HTb := Lib.hid (HTb.out.up a9)
  replace HCb := Lib.hid (HCb.out.up a9)
  replace HW := Lib.hid (below_go HW.out a9)
  clear a9
  go_upto_region 6 with fail
  obtain ⟨ub, hu⟩ : ∃ u, u = y2.alloc (.cells #[.slice ATb nTb cTb, .slice ACb nCb cCb, .bool okf] 75) := ⟨_, rfl⟩
  rw [← hu] at K J Fa R HTa HCa HTb HCb Fb HW ⊢
  obtain ⟨pb, hp⟩ : ∃ u, u = y2.heap.size := ⟨_, rfl⟩
  rw [← hp] at Fb ⊢
  clear hu hp
  go_wp2_with fail
  refine (draw_CheckFound (S1.out.over HW.out)).mono ?_; rintro e y3 ⟨nm3, st3, A3, n3, c3, L3, kb3, ks3, N3, AT3, nT3, cT3, T3, AC3, nC3, cC3, C3, ok3, rfl, hdr3, zk3, zs3, hN3, ⟨hT31, hT32, hT33, hT34⟩, ⟨hC31, hC32, hC33, hC34⟩, ho3, hy⟩
  have hdf3 := drM_f13 hdr3
  have HL3 := Lib.hid ho3.len
  have hcap3 := ho3.cap.1
  have z3 : n3 ≤ 1048576 := by have := HL3.out; omega
  have R3 := Lib.hid ho3.recs
  have HT3 := Lib.hid hT33
  have HC3 := Lib.hid hC33
  have HTS3 : Hid (∀ s ∈ T3, s.size ≤ 16777216) := Lib.hid (fun s hs => by have := hT34 s hs; omega)
  have HCS3 : Hid (∀ x ∈ C3, x.1.size ≤ 16777216) := Lib.hid (fun s hs => by have := hC34 s hs; omega)
  clear hdr3 ho3 hT33 hC33 hT34 hC34
  replace K := K.up hy
  replace J := J.up hy
  replace Fa := Fa.up hy
  replace Fb := Fb.up hy
  replace R := Lib.hid (R.out.up hy)
  replace HTa := Lib.hid (HTa.out.up hy)
  replace HCa := Lib.hid (HCa.out.up hy)
  replace HTb := Lib.hid (HTb.out.up hy)
  replace HCb := Lib.hid (HCb.out.up hy)
  replace HW := Lib.hid (below_go HW.out hy)
  clear hy
  have a9 : Below y3.heap.size y3 (((y3.alloc (.cells #[.string nm3, .int .i64 (st3 : Int), .slice A3 n3 c3] 25)).alloc (.cells #[.string kb3, .string ks3] 27)).alloc (.cells #[.slice AT3 nT3 cT3, .slice AC3 nC3 cC3, .bool ok3] 75)) := by (repeat' (first | (with_reducible exact Below.refl _ _) | (with_reducible assumption) | (with_reducible refine below_drewN ?_ _) | (with_reducible refine Below.drew ?_) | (with_reducible refine below_alloc ?_ _) | (with_reducible refine Below.alloc ?_ ?_ _) | (with_reducible refine Below.setCell ?_ ?_ _) | (with_reducible refine below_go ?_ (by with_reducible assumption)) | (with_reducible refine below_then (by with_reducible assumption) ?_ ?_) | go_size))
  have M3 := ((Blk.at_ y3 25 [.string nm3, .int .i64 (st3 : Int), .slice A3 n3 c3] (b := y3.heap.size) rfl).alloc (.cells #[.string kb3, .string ks3] 27)).alloc (.cells #[.slice AT3 nT3 cT3, .slice AC3 nC3 cC3, .bool ok3] 75)
  have J3 := (Blk.at_ (y3.alloc (.cells #[.string nm3, .int .i64 (st3 : Int), .slice A3 n3 c3] 25)) 27 [.string kb3, .string ks3] (b := y3.heap.size + 1) (by simp)).alloc (.cells #[.slice AT3 nT3 cT3, .slice AC3 nC3 cC3, .bool ok3] 75)
  have G3 := Blk.at_ ((y3.alloc (.cells #[.string nm3, .int .i64 (st3 : Int), .slice A3 n3 c3] 25)).alloc (.cells #[.string kb3, .string ks3] 27)) 75 [.slice AT3 nT3 cT3, .slice AC3 nC3 cC3, .bool ok3] (b := y3.heap.size + 1 + 1) (by simp)
  replace K := K.up a9
  replace J := J.up a9
  replace Fa := Fa.up a9
  replace Fb := Fb.up a9
  replace R := Lib.hid (R.out.up a9)
  replace HTa := Lib.hid (HTa.out.up a9)
  replace HCa := Lib.hid (HCa.out.up a9)
  replace HTb := Lib.hid (HTb.out.up a9)
  replace HCb := Lib.hid (HCb.out.up a9)
  replace R3 := Lib.hid (R3.out.up a9)
  replace HT3 := Lib.hid (HT3.out.up a9)
  replace HC3 := Lib.hid (HC3.out.up a9)
  replace HW := Lib.hid (below_go HW.out a9)
  clear a9
  go_upto_region 7 with fail
  obtain ⟨u3, hu⟩ : ∃ u, u = (((y3.alloc (.cells #[.string nm3, .int .i64 (st3 : Int), .slice A3 n3 c3] 25)).alloc (.cells #[.string kb3, .string ks3] 27)).alloc (.cells #[.slice AT3 nT3 cT3, .slice AC3 nC3 cC3, .bool ok3] 75)) := ⟨_, rfl⟩
  rw [← hu] at K J Fa Fb R HTa HCa HTb HCb R3 HT3 HC3 M3 J3 G3 HW ⊢
  obtain ⟨q3, hp⟩ : ∃ u, u = y3.heap.size := ⟨_, rfl⟩
  rw [← hp] at M3 J3 G3 ⊢
  clear hu hp
  go_wp2_with fail
  refine (draw_DistinctTurns (S1.out.over HW.out)).mono ?_; rintro e y4 ⟨A4, n4, c4, L4, both, rfl, hm4, hL4, ho4, hy⟩
  have HL4 := Lib.hid ho4.len
  have R4 := Lib.hid ho4.recs
  have HZ4 : Hid (∀ s ∈ L4, s.size ≤ 16777216) := Lib.hid (fun s hs => by have := hL4 s hs; omega)
  clear ho4 hL4
  replace K := K.up hy
  replace J := J.up hy
  replace Fa := Fa.up hy
  replace Fb := Fb.up hy
  replace M3 := M3.up hy
  replace J3 := J3.up hy
  replace G3 := G3.up hy
  replace R := Lib.hid (R.out.up hy)
  replace HTa := Lib.hid (HTa.out.up hy)
  replace HCa := Lib.hid (HCa.out.up hy)
  replace HTb := Lib.hid (HTb.out.up hy)
  replace HCb := Lib.hid (HCb.out.up hy)
  replace R3 := Lib.hid (R3.out.up hy)
  replace HT3 := Lib.hid (HT3.out.up hy)
  replace HC3 := Lib.hid (HC3.out.up hy)
  replace HW := Lib.hid (below_go HW.out hy)
  clear hy
  obtain ⟨al, hal⟩ : ∃ u, u = L4.all goodT := ⟨_, rfl⟩
  have HAL := Lib.hid hal
  clear hal
  go_wp2_with fail
  refine (impl_DistinctTurns (both := both) HL4.out R4.out (by omega) HZ4.out).mono ?_; rw [← HAL.out]; rintro e y5 ⟨Ad, nd, cd, rfl, ho5, hmd, hy⟩
  have HLdd := Lib.hid ho5.len
  have RDd := Lib.hid ho5.recs
  clear ho5
  replace K := K.up hy
  replace J := J.up hy
  replace Fa := Fa.up hy
  replace Fb := Fb.up hy
  replace M3 := M3.up hy
  replace J3 := J3.up hy
  replace G3 := G3.up hy
  replace R := Lib.hid (R.out.up hy)
  replace HTa := Lib.hid (HTa.out.up hy)
  replace HCa := Lib.hid (HCa.out.up hy)
  replace HTb := Lib.hid (HTb.out.up hy)
  replace HCb := Lib.hid (HCb.out.up hy)
  replace R3 := Lib.hid (R3.out.up hy)
  replace HT3 := Lib.hid (HT3.out.up hy)
  replace HC3 := Lib.hid (HC3.out.up hy)
  replace R4 := Lib.hid (R4.out.up hy)
  replace HW := Lib.hid (below_go HW.out hy)
  clear hy
  go_wp2_with fail
  refine (spec_DistinctTurns (both := both) HL4.out R4.out (by omega) HZ4.out).mono ?_; rw [← HAL.out]; rintro e y5 ⟨Ae, ne, ce, rfl, ho5, hme, hy⟩
  have HLde := Lib.hid ho5.len
  have RDe := Lib.hid ho5.recs
  clear ho5
  obtain rfl : ne = nd := by rw [← HLde.out, ← HLdd.out]
  clear HLde
  replace K := K.up hy
  replace J := J.up hy
  replace Fa := Fa.up hy
  replace Fb := Fb.up hy
  replace M3 := M3.up hy
  replace J3 := J3.up hy
  replace G3 := G3.up hy
  replace R := Lib.hid (R.out.up hy)
  replace HTa := Lib.hid (HTa.out.up hy)
  replace HCa := Lib.hid (HCa.out.up hy)
  replace HTb := Lib.hid (HTb.out.up hy)
  replace HCb := Lib.hid (HCb.out.up hy)
  replace R3 := Lib.hid (R3.out.up hy)
  replace HT3 := Lib.hid (HT3.out.up hy)
  replace HC3 := Lib.hid (HC3.out.up hy)
  replace R4 := Lib.hid (R4.out.up hy)
  replace RDd := Lib.hid (RDd.out.up hy)
  replace HW := Lib.hid (below_go HW.out hy)
  clear hy
  go_upto_region 10 with fail
  have aD : Below y5.heap.size y5 y5.drew := (Below.refl _ _).drew
  replace K := K.up aD
  replace J := J.up aD
  replace Fa := Fa.up aD
  replace Fb := Fb.up aD
  replace M3 := M3.up aD
  replace J3 := J3.up aD
  replace G3 := G3.up aD
  replace R := Lib.hid (R.out.up aD)
  replace HTa := Lib.hid (HTa.out.up aD)
  replace HCa := Lib.hid (HCa.out.up aD)
  replace HTb := Lib.hid (HTb.out.up aD)
  replace HCb := Lib.hid (HCb.out.up aD)
  replace R3 := Lib.hid (R3.out.up aD)
  replace HT3 := Lib.hid (HT3.out.up aD)
  replace HC3 := Lib.hid (HC3.out.up aD)
  replace R4 := Lib.hid (R4.out.up aD)
  replace RDd := Lib.hid (RDd.out.up aD)
  replace RDe := Lib.hid (RDe.out.up aD)
  replace HW := Lib.hid (below_go HW.out aD)
  clear aD
  have cS : Hid (∀ u : World, Below y5.drew.heap.size y5.drew u → (u.cell? ⟨pa, 0, none⟩ = some (.slice ATa nTb cTa) ∧ u.cell? ⟨pa, 1, none⟩ = some (.slice ACa nCb cCa) ∧ u.cell? ⟨pa, 2, none⟩ = some (.bool okf)) ∧ (u.cell? ⟨pb, 0, none⟩ = some (.slice ATb nTb cTb) ∧ u.cell? ⟨pb, 1, none⟩ = some (.slice ACb nCb cCb) ∧ u.cell? ⟨pb, 2, none⟩ = some (.bool okf)) ∧ (u.cell? ⟨q3, 0, none⟩ = some (.string nm3) ∧ u.cell? ⟨q3, 1, none⟩ = some (.int .i64 (st3 : Int)) ∧ u.cell? ⟨q3, 2, none⟩ = some (.slice A3 n3 c3)) ∧ (u.cell? ⟨q3 + 1, 0, none⟩ = some (.string kb3) ∧ u.cell? ⟨q3 + 1, 1, none⟩ = some (.string ks3)) ∧ u.cell? ⟨q3 + 1 + 1, 0, none⟩ = some (.slice AT3 nT3 cT3) ∧ u.cell? ⟨q3 + 1 + 1, 1, none⟩ = some (.slice AC3 nC3 cC3) ∧ u.cell? ⟨q3 + 1 + 1, 2, none⟩ = some (.bool ok3)) := Lib.hid (fun u hu => by
   have L0 := Fa.up hu; have L1 := Fb.up hu; have L2 := M3.up hu; have L3 := J3.up hu; have L4 := G3.up hu
   exact ⟨⟨by simpa using L0.cell 0, by simpa using L0.cell 1, by simpa using L0.cell 2⟩, ⟨by simpa using L1.cell 0, by simpa using L1.cell 1, by simpa using L1.cell 2⟩, ⟨by simpa using L2.cell 0, by simpa using L2.cell 1, by simpa using L2.cell 2⟩, ⟨by simpa using L3.cell 0, by simpa using L3.cell 1⟩, ⟨by simpa using L4.cell 0, by simpa using L4.cell 1, by simpa using L4.cell 2⟩⟩)
  obtain ⟨ck, hck⟩ : ∃ u, u = ckI nm3 st3 L3 kb3 ks3 N3 T3 C3 ok3 := ⟨_, rfl⟩
  have HCK := Lib.hid hck
  have HCK2 := Lib.hid (hck.trans ck_eq)
  clear hck
  rcases okk
  ·skip
   refine wp_region_held_drew (S := fun u => (u.cell? ⟨pa, 0, none⟩ = some (.slice ATa nTb cTa) ∧ u.cell? ⟨pa, 1, none⟩ = some (.slice ACa nCb cCa) ∧ u.cell? ⟨pa, 2, none⟩ = some (.bool okf)) ∧ (u.cell? ⟨pb, 0, none⟩ = some (.slice ATb nTb cTb) ∧ u.cell? ⟨pb, 1, none⟩ = some (.slice ACb nCb cCb) ∧ u.cell? ⟨pb, 2, none⟩ = some (.bool okf)) ∧ (u.cell? ⟨q3, 0, none⟩ = some (.string nm3) ∧ u.cell? ⟨q3, 1, none⟩ = some (.int .i64 (st3 : Int)) ∧ u.cell? ⟨q3, 2, none⟩ = some (.slice A3 n3 c3)) ∧ (u.cell? ⟨q3 + 1, 0, none⟩ = some (.string kb3) ∧ u.cell? ⟨q3 + 1, 1, none⟩ = some (.string ks3)) ∧ u.cell? ⟨q3 + 1 + 1, 0, none⟩ = some (.slice AT3 nT3 cT3) ∧ u.cell? ⟨q3 + 1 + 1, 1, none⟩ = some (.slice AC3 nC3 cC3) ∧ u.cell? ⟨q3 + 1 + 1, 2, none⟩ = some (.bool ok3)) (by kernel_rfl) (cS.out _ (Below.refl _ _)) (fun hHeld => ?_)
   refine takeH 0 82 (v := ?_) rfl (by kernel_rfl) (by kernel_rfl) (by kernel_rfl) (fun _ _ _ h => h) (Or.inl ⟨by rfl, ?_⟩) (by assumption) ?_
   rotate_left
   ·(intro w hSw; (try dsimp only at hSw); go_simp) <;> with_reducible rfl
   (try simp only [Act.put, List.setIfInBounds_toArray, List.set_cons_zero, List.set_cons_succ])
   refine takeH 1 83 (v := ?_) rfl (by kernel_rfl) (by kernel_rfl) (by kernel_rfl) (fun _ _ _ h => h) (Or.inl ⟨by rfl, ?_⟩) (by assumption) ?_
   rotate_left
   ·(intro w hSw; (try dsimp only at hSw); go_simp) <;> with_reducible rfl
   (try simp only [Act.put, List.setIfInBounds_toArray, List.set_cons_zero, List.set_cons_succ])
   refine takeH 2 84 (v := ?_) rfl (by kernel_rfl) (by kernel_rfl) (by kernel_rfl) (fun _ _ _ h => h) (Or.inl ⟨by rfl, ?_⟩) (by assumption) ?_
   rotate_left
   ·(intro w hSw; (try dsimp only at hSw); go_simp) <;> with_reducible rfl
   (try simp only [Act.put, List.setIfInBounds_toArray, List.set_cons_zero, List.set_cons_succ])
   refine takeH 3 85 (v := ?_) rfl (by kernel_rfl) (by kernel_rfl) (by kernel_rfl) (fun _ _ _ h => h) (Or.inl ⟨by rfl, ?_⟩) (by assumption) ?_
   rotate_left
   ·(intro w hSw; (try dsimp only at hSw); go_simp) <;> with_reducible rfl
   (try simp only [Act.put, List.setIfInBounds_toArray, List.set_cons_zero, List.set_cons_succ])
   refine takeH 4 86 (v := ?_) rfl (by kernel_rfl) (by kernel_rfl) (by kernel_rfl) (fun _ _ _ h => h) (Or.inl ⟨by rfl, ?_⟩) (by assumption) ?_
   rotate_left
   ·(intro w hSw; (try dsimp only at hSw); go_simp) <;> with_reducible rfl
   (try simp only [Act.put, List.setIfInBounds_toArray, List.set_cons_zero, List.set_cons_succ])
   refine takeH 5 87 (v := ?_) rfl (by kernel_rfl) (by kernel_rfl) (by kernel_rfl) (fun _ _ _ h => h) (Or.inl ⟨by rfl, ?_⟩) (by assumption) ?_
   rotate_left
   ·(intro w hSw; (try dsimp only at hSw); go_simp) <;> with_reducible rfl
   (try simp only [Act.put, List.setIfInBounds_toArray, List.set_cons_zero, List.set_cons_succ])
   refine wpAnyH_ready (rs := [6]) (by kernel_rfl) (by simp) ?_
   refine AllReadyH.cons (o := _) rfl (fun K hK => ?_) AllReadyH.nil
   go_simp
   refine (laws_qSameF HTla.out HCla.out (by omega) (by omega) HTa.out HTb.out HCa.out HCb.out).mono ?_; rintro e x1 ⟨rfl, hx1⟩
   try go_wp2_with fail
   refine hK.out _ _ (cS.out _ hx1) (fun hHeld => ?_)
   clear hK K
   (try simp only [Act.put, List.setIfInBounds_toArray, List.set_cons_zero, List.set_cons_succ])
   refine takeH 7 89 (v := ?_) rfl (by kernel_rfl) (by kernel_rfl) (by kernel_rfl) (fun _ _ _ h => h) (Or.inl ⟨by rfl, ?_⟩) (by assumption) ?_
   rotate_left
   ·(intro w hSw; (try dsimp only at hSw); go_simp) <;> with_reducible rfl
   (try simp only [Act.put, List.setIfInBounds_toArray, List.set_cons_zero, List.set_cons_succ])
   refine takeH 8 90 (v := ?_) rfl (by kernel_rfl) (by kernel_rfl) (by kernel_rfl) (fun _ _ _ h => h) (Or.inl ⟨by rfl, ?_⟩) (by assumption) ?_
   rotate_left
   ·(intro w hSw; (try dsimp only at hSw); go_simp) <;> with_reducible rfl
   (try simp only [Act.put, List.setIfInBounds_toArray, List.set_cons_zero, List.set_cons_succ])
   refine takeH 9 91 (v := ?_) rfl (by kernel_rfl) (by kernel_rfl) (by kernel_rfl) (fun _ _ _ h => h) (Or.inl ⟨by rfl, ?_⟩) (by assumption) ?_
   rotate_left
   ·(intro w hSw; (try dsimp only at hSw); go_simp) <;> with_reducible rfl
   (try simp only [Act.put, List.setIfInBounds_toArray, List.set_cons_zero, List.set_cons_succ])
   refine takeH 10 92 (v := ?_) rfl (by kernel_rfl) (by kernel_rfl) (by kernel_rfl) (fun _ _ _ h => h) (Or.inl ⟨by rfl, ?_⟩) (by assumption) ?_
   rotate_left
   ·(intro w hSw; (try dsimp only at hSw); go_simp) <;> with_reducible rfl
   (try simp only [Act.put, List.setIfInBounds_toArray, List.set_cons_zero, List.set_cons_succ])
   refine takeH 11 93 (v := ?_) rfl (by kernel_rfl) (by kernel_rfl) (by kernel_rfl) (fun _ _ _ h => h) (Or.inl ⟨by rfl, ?_⟩) (by assumption) ?_
   rotate_left
   ·(intro w hSw; (try dsimp only at hSw); go_simp) <;> with_reducible rfl
   (try simp only [Act.put, List.setIfInBounds_toArray, List.set_cons_zero, List.set_cons_succ])
   refine takeH 12 94 (v := ?_) rfl (by kernel_rfl) (by kernel_rfl) (by kernel_rfl) (fun _ _ _ h => h) (Or.inl ⟨by rfl, ?_⟩) (by assumption) ?_
   rotate_left
   ·(intro w hSw; (try dsimp only at hSw); go_simp) <;> with_reducible rfl
   (try simp only [Act.put, List.setIfInBounds_toArray, List.set_cons_zero, List.set_cons_succ])
   refine takeH 13 95 (v := ?_) rfl (by kernel_rfl) (by kernel_rfl) (by kernel_rfl) (fun _ _ _ h => h) (Or.inl ⟨by rfl, ?_⟩) (by assumption) ?_
   rotate_left
   ·(intro w hSw; (try dsimp only at hSw); go_simp) <;> with_reducible rfl
   (try simp only [Act.put, List.setIfInBounds_toArray, List.set_cons_zero, List.set_cons_succ])
   refine takeH 15 97 (v := ?_) rfl (by kernel_rfl) (by kernel_rfl) (by kernel_rfl) (fun _ _ _ h => h) (Or.inl ⟨by rfl, ?_⟩) (by assumption) ?_
   rotate_left
   ·(intro w hSw; (try dsimp only at hSw); go_simp) <;> with_reducible rfl
   (try simp only [Act.put, List.setIfInBounds_toArray, List.set_cons_zero, List.set_cons_succ])
   refine takeH 16 98 (v := ?_) rfl (by kernel_rfl) (by kernel_rfl) (by kernel_rfl) (fun _ _ _ h => h) (Or.inl ⟨by rfl, ?_⟩) (by assumption) ?_
   rotate_left
   ·(intro w hSw; (try dsimp only at hSw); go_simp) <;> with_reducible rfl
   (try simp only [Act.put, List.setIfInBounds_toArray, List.set_cons_zero, List.set_cons_succ])
   refine takeH 17 99 (v := ?_) rfl (by kernel_rfl) (by kernel_rfl) (by kernel_rfl) (fun _ _ _ h => h) (Or.inl ⟨by rfl, ?_⟩) (by assumption) ?_
   rotate_left
   ·(intro w hSw; (try dsimp only at hSw); go_simp) <;> with_reducible rfl
   (try simp only [Act.put, List.setIfInBounds_toArray, List.set_cons_zero, List.set_cons_succ])
   refine takeH 18 100 (v := ?_) rfl (by kernel_rfl) (by kernel_rfl) (by kernel_rfl) (fun _ _ _ h => h) (Or.inl ⟨by rfl, ?_⟩) (by assumption) ?_
   rotate_left
   ·(intro w hSw; (try dsimp only at hSw); go_simp) <;> with_reducible rfl
   (try simp only [Act.put, List.setIfInBounds_toArray, List.set_cons_zero, List.set_cons_succ])
   refine wpAnyH_ready (rs := [14]) (by kernel_rfl) (by simp) ?_
   refine AllReadyH.cons (o := _) rfl (fun K hK => ?_) AllReadyH.nil
   go_simp
   refine (impl_CheckFound (nm := nm3) (ok := ok3) HL3.out (R3.out.up hx1) z3 hdf3.2.2.2.1 hdf3.1 hdf3.2.1 (by omega) (by omega) (by omega) hT31 (HT3.out.up hx1) hC31 (HC3.out.up hx1) (by omega) (by omega) HTS3.out HCS3.out).mono ?_; rw [← HCK.out]; rintro e x2 ⟨rfl, hx2⟩
   have hx2 := below_go hx1 hx2
   try go_wp2_with fail
   refine hK.out _ _ (cS.out _ hx2) (fun hHeld => ?_)
   clear hK K
   (try simp only [Act.put, List.setIfInBounds_toArray, List.set_cons_zero, List.set_cons_succ])
   refine wpAnyH_ready (rs := [19]) (by kernel_rfl) (by simp) ?_
   refine AllReadyH.cons (o := _) rfl (fun K hK => ?_) AllReadyH.nil
   go_simp
   refine (spec_CheckFound (nm := nm3) (ok := ok3) HL3.out (R3.out.up hx2) z3 hdf3.2.2.2.1 hdf3.1 hdf3.2.1 (by omega) (by omega) (by omega) hcap3 hT31 (HT3.out.up hx2) hC31 (HC3.out.up hx2) (by omega) (by omega) HTS3.out HCS3.out).mono ?_; rw [← HCK2.out]; rintro e x3 ⟨rfl, hx3⟩
   have hx3 := below_go hx2 hx3
   try go_wp2_with fail
   refine hK.out _ _ (cS.out _ hx3) (fun hHeld => ?_)
   clear hK K
   (try simp only [Act.put, List.setIfInBounds_toArray, List.set_cons_zero, List.set_cons_succ])
   refine takeH 20 102 (v := ?_) rfl (by kernel_rfl) (by kernel_rfl) (by kernel_rfl) (fun _ _ _ h => h) (Or.inl ⟨by rfl, ?_⟩) (by assumption) ?_
   rotate_left
   ·(intro w hSw; (try dsimp only at hSw); go_simp) <;> with_reducible rfl
   (try simp only [Act.put, List.setIfInBounds_toArray, List.set_cons_zero, List.set_cons_succ])
   refine takeH 21 103 (v := ?_) rfl (by kernel_rfl) (by kernel_rfl) (by kernel_rfl) (fun _ _ _ h => h) (Or.inl ⟨by rfl, ?_⟩) (by assumption) ?_
   rotate_left
   ·(intro w hSw; (try dsimp only at hSw); go_simp) <;> with_reducible rfl
   (try simp only [Act.put, List.setIfInBounds_toArray, List.set_cons_zero, List.set_cons_succ])
   refine takeH 22 104 (v := ?_) rfl (by kernel_rfl) (by kernel_rfl) (by kernel_rfl) (fun _ _ _ h => h) (Or.inl ⟨by rfl, ?_⟩) (by assumption) ?_
   rotate_left
   ·(intro w hSw; (try dsimp only at hSw); go_simp) <;> with_reducible rfl
   (try simp only [Act.put, List.setIfInBounds_toArray, List.set_cons_zero, List.set_cons_succ])
   refine takeH 23 105 (v := ?_) rfl (by kernel_rfl) (by kernel_rfl) (by kernel_rfl) (fun _ _ _ h => h) (Or.inl ⟨by rfl, ?_⟩) (by assumption) ?_
   rotate_left
   ·(intro w hSw; (try dsimp only at hSw); go_simp) <;> with_reducible rfl
   (try simp only [Act.put, List.setIfInBounds_toArray, List.set_cons_zero, List.set_cons_succ])
   refine takeH 24 106 (v := ?_) rfl (by kernel_rfl) (by kernel_rfl) (by kernel_rfl) (fun _ _ _ h => h) (Or.inl ⟨by rfl, ?_⟩) (by assumption) ?_
   rotate_left
   ·(intro w hSw; (try dsimp only at hSw); go_simp) <;> with_reducible rfl
   (try simp only [Act.put, List.setIfInBounds_toArray, List.set_cons_zero, List.set_cons_succ])
   refine takeH 25 107 (v := ?_) rfl (by kernel_rfl) (by kernel_rfl) (by kernel_rfl) (fun _ _ _ h => h) (Or.inl ⟨by rfl, ?_⟩) (by assumption) ?_
   rotate_left
   ·(intro w hSw; (try dsimp only at hSw); go_simp) <;> with_reducible rfl
   (try simp only [Act.put, List.setIfInBounds_toArray, List.set_cons_zero, List.set_cons_succ])
   refine takeH 26 108 (v := ?_) rfl (by kernel_rfl) (by kernel_rfl) (by kernel_rfl) (fun _ _ _ h => h) (Or.inl ⟨by rfl, ?_⟩) (by assumption) ?_
   rotate_left
   ·(intro w hSw; (try dsimp only at hSw); go_simp) <;> with_reducible rfl
   (try simp only [Act.put, List.setIfInBounds_toArray, List.set_cons_zero, List.set_cons_succ])
   refine takeH 27 109 (v := ?_) rfl (by kernel_rfl) (by kernel_rfl) (by kernel_rfl) (fun _ _ _ h => h) (Or.inl ⟨by rfl, ?_⟩) (by assumption) ?_
   rotate_left
   ·(intro w hSw; (try dsimp only at hSw); go_simp) <;> with_reducible rfl
   (try simp only [Act.put, List.setIfInBounds_toArray, List.set_cons_zero, List.set_cons_succ])
   refine takeH 28 110 (v := ?_) rfl (by kernel_rfl) (by kernel_rfl) (by kernel_rfl) (fun _ _ _ h => h) (Or.inl ⟨by rfl, ?_⟩) (by assumption) ?_
   rotate_left
   ·(intro w hSw; (try dsimp only at hSw); go_simp) <;> with_reducible rfl
   (try simp only [Act.put, List.setIfInBounds_toArray, List.set_cons_zero, List.set_cons_succ])
   refine takeH 29 111 (v := ?_) rfl (by kernel_rfl) (by kernel_rfl) (by kernel_rfl) (fun _ _ _ h => h) (Or.inl ⟨by rfl, ?_⟩) (by assumption) ?_
   rotate_left
   ·(intro w hSw; (try dsimp only at hSw); go_simp) <;> with_reducible rfl
   (try simp only [Act.put, List.setIfInBounds_toArray, List.set_cons_zero, List.set_cons_succ])
   refine wpAnyH_ready (rs := [30]) (by kernel_rfl) (by simp) ?_
   refine AllReadyH.cons (o := _) rfl (fun K hK => ?_) AllReadyH.nil
   go_simp
   refine (laws_qSameS HLdd.out (RDd.out.up hx3) (RDe.out.up hx3) (by omega)).mono ?_; rintro e x4 ⟨rfl, hx4⟩
   have hx4 := below_go hx3 hx4
   try go_wp2_with fail
   refine hK.out _ _ (cS.out _ hx4) (fun hHeld => ?_)
   clear hK K
   (try simp only [Act.put, List.setIfInBounds_toArray, List.set_cons_zero, List.set_cons_succ])
   refine takeH 31 113 (v := ?_) rfl (by kernel_rfl) (by kernel_rfl) (by kernel_rfl) (fun _ _ _ h => h) (Or.inl ⟨by rfl, ?_⟩) (by assumption) ?_
   rotate_left
   ·(intro w hSw; (try dsimp only at hSw); go_simp) <;> with_reducible rfl
   (try simp only [Act.put, List.setIfInBounds_toArray, List.set_cons_zero, List.set_cons_succ])
   refine takeH 32 114 (v := ?_) rfl (by kernel_rfl) (by kernel_rfl) (by kernel_rfl) (fun _ _ _ h => h) (Or.inl ⟨by rfl, ?_⟩) (by assumption) ?_
   rotate_left
   ·(intro w hSw; (try dsimp only at hSw); go_simp) <;> with_reducible rfl
   (try simp only [Act.put, List.setIfInBounds_toArray, List.set_cons_zero, List.set_cons_succ])
   refine wpAnyH_done (by kernel_rfl) ?_ _
   (try simp only [Act.put, List.setIfInBounds_toArray, List.set_cons_zero, List.set_cons_succ])
   replace K := K.up hx4
   replace J := J.up hx4
   replace Fa := Fa.up hx4
   replace Fb := Fb.up hx4
   replace M3 := M3.up hx4
   replace J3 := J3.up hx4
   replace G3 := G3.up hx4
   replace R := Lib.hid (R.out.up hx4)
   replace HTa := Lib.hid (HTa.out.up hx4)
   replace HCa := Lib.hid (HCa.out.up hx4)
   replace HTb := Lib.hid (HTb.out.up hx4)
   replace HCb := Lib.hid (HCb.out.up hx4)
   replace R3 := Lib.hid (R3.out.up hx4)
   replace HT3 := Lib.hid (HT3.out.up hx4)
   replace HC3 := Lib.hid (HC3.out.up hx4)
   replace R4 := Lib.hid (R4.out.up hx4)
   replace RDd := Lib.hid (RDd.out.up hx4)
   replace RDe := Lib.hid (RDe.out.up hx4)
   replace HW := Lib.hid (below_go HW.out hx4)
   clear hx4 hx3 hx2 hx1 hHeld cS
   go_wp2
   go_ret
   exact ⟨rfl, HW.out⟩
  ·skip
   refine wp_region_held_drew (S := fun u => (u.cell? ⟨pa, 0, none⟩ = some (.slice ATa nTb cTa) ∧ u.cell? ⟨pa, 1, none⟩ = some (.slice ACa nCb cCa) ∧ u.cell? ⟨pa, 2, none⟩ = some (.bool okf)) ∧ (u.cell? ⟨pb, 0, none⟩ = some (.slice ATb nTb cTb) ∧ u.cell? ⟨pb, 1, none⟩ = some (.slice ACb nCb cCb) ∧ u.cell? ⟨pb, 2, none⟩ = some (.bool okf)) ∧ (u.cell? ⟨q3, 0, none⟩ = some (.string nm3) ∧ u.cell? ⟨q3, 1, none⟩ = some (.int .i64 (st3 : Int)) ∧ u.cell? ⟨q3, 2, none⟩ = some (.slice A3 n3 c3)) ∧ (u.cell? ⟨q3 + 1, 0, none⟩ = some (.string kb3) ∧ u.cell? ⟨q3 + 1, 1, none⟩ = some (.string ks3)) ∧ u.cell? ⟨q3 + 1 + 1, 0, none⟩ = some (.slice AT3 nT3 cT3) ∧ u.cell? ⟨q3 + 1 + 1, 1, none⟩ = some (.slice AC3 nC3 cC3) ∧ u.cell? ⟨q3 + 1 + 1, 2, none⟩ = some (.bool ok3)) (by kernel_rfl) (cS.out _ (Below.refl _ _)) (fun hHeld => ?_)
   refine takeH 0 82 (v := ?_) rfl (by kernel_rfl) (by kernel_rfl) (by kernel_rfl) (fun _ _ _ h => h) (Or.inl ⟨by rfl, ?_⟩) (by assumption) ?_
   rotate_left
   ·(intro w hSw; (try dsimp only at hSw); go_simp) <;> with_reducible rfl
   (try simp only [Act.put, List.setIfInBounds_toArray, List.set_cons_zero, List.set_cons_succ])
   refine takeH 1 83 (v := ?_) rfl (by kernel_rfl) (by kernel_rfl) (by kernel_rfl) (fun _ _ _ h => h) (Or.inl ⟨by rfl, ?_⟩) (by assumption) ?_
   rotate_left
   ·(intro w hSw; (try dsimp only at hSw); go_simp) <;> with_reducible rfl
   (try simp only [Act.put, List.setIfInBounds_toArray, List.set_cons_zero, List.set_cons_succ])
   refine takeH 2 84 (v := ?_) rfl (by kernel_rfl) (by kernel_rfl) (by kernel_rfl) (fun _ _ _ h => h) (Or.inl ⟨by rfl, ?_⟩) (by assumption) ?_
   rotate_left
   ·(intro w hSw; (try dsimp only at hSw); go_simp) <;> with_reducible rfl
   (try simp only [Act.put, List.setIfInBounds_toArray, List.set_cons_zero, List.set_cons_succ])
   refine takeH 3 85 (v := ?_) rfl (by kernel_rfl) (by kernel_rfl) (by kernel_rfl) (fun _ _ _ h => h) (Or.inl ⟨by rfl, ?_⟩) (by assumption) ?_
   rotate_left
   ·(intro w hSw; (try dsimp only at hSw); go_simp) <;> with_reducible rfl
   (try simp only [Act.put, List.setIfInBounds_toArray, List.set_cons_zero, List.set_cons_succ])
   refine takeH 4 86 (v := ?_) rfl (by kernel_rfl) (by kernel_rfl) (by kernel_rfl) (fun _ _ _ h => h) (Or.inl ⟨by rfl, ?_⟩) (by assumption) ?_
   rotate_left
   ·(intro w hSw; (try dsimp only at hSw); go_simp) <;> with_reducible rfl
   (try simp only [Act.put, List.setIfInBounds_toArray, List.set_cons_zero, List.set_cons_succ])
   refine takeH 5 87 (v := ?_) rfl (by kernel_rfl) (by kernel_rfl) (by kernel_rfl) (fun _ _ _ h => h) (Or.inl ⟨by rfl, ?_⟩) (by assumption) ?_
   rotate_left
   ·(intro w hSw; (try dsimp only at hSw); go_simp) <;> with_reducible rfl
   (try simp only [Act.put, List.setIfInBounds_toArray, List.set_cons_zero, List.set_cons_succ])
   refine wpAnyH_ready (rs := [6]) (by kernel_rfl) (by simp) ?_
   refine AllReadyH.cons (o := _) rfl (fun K hK => ?_) AllReadyH.nil
   go_simp
   refine (laws_qSameF HTla.out HCla.out (by omega) (by omega) HTa.out HTb.out HCa.out HCb.out).mono ?_; rintro e x1 ⟨rfl, hx1⟩
   try go_wp2_with fail
   refine hK.out _ _ (cS.out _ hx1) (fun hHeld => ?_)
   clear hK K
   (try simp only [Act.put, List.setIfInBounds_toArray, List.set_cons_zero, List.set_cons_succ])
   refine takeH 7 89 (v := ?_) rfl (by kernel_rfl) (by kernel_rfl) (by kernel_rfl) (fun _ _ _ h => h) (Or.inl ⟨by rfl, ?_⟩) (by assumption) ?_
   rotate_left
   ·(intro w hSw; (try dsimp only at hSw); go_simp) <;> with_reducible rfl
   (try simp only [Act.put, List.setIfInBounds_toArray, List.set_cons_zero, List.set_cons_succ])
   refine takeH 8 90 (v := ?_) rfl (by kernel_rfl) (by kernel_rfl) (by kernel_rfl) (fun _ _ _ h => h) (Or.inl ⟨by rfl, ?_⟩) (by assumption) ?_
   rotate_left
   ·(intro w hSw; (try dsimp only at hSw); go_simp) <;> with_reducible rfl
   (try simp only [Act.put, List.setIfInBounds_toArray, List.set_cons_zero, List.set_cons_succ])
   refine takeH 9 91 (v := ?_) rfl (by kernel_rfl) (by kernel_rfl) (by kernel_rfl) (fun _ _ _ h => h) (Or.inl ⟨by rfl, ?_⟩) (by assumption) ?_
   rotate_left
   ·(intro w hSw; (try dsimp only at hSw); go_simp) <;> with_reducible rfl
   (try simp only [Act.put, List.setIfInBounds_toArray, List.set_cons_zero, List.set_cons_succ])
   refine takeH 10 92 (v := ?_) rfl (by kernel_rfl) (by kernel_rfl) (by kernel_rfl) (fun _ _ _ h => h) (Or.inl ⟨by rfl, ?_⟩) (by assumption) ?_
   rotate_left
   ·(intro w hSw; (try dsimp only at hSw); go_simp) <;> with_reducible rfl
   (try simp only [Act.put, List.setIfInBounds_toArray, List.set_cons_zero, List.set_cons_succ])
   refine takeH 11 93 (v := ?_) rfl (by kernel_rfl) (by kernel_rfl) (by kernel_rfl) (fun _ _ _ h => h) (Or.inl ⟨by rfl, ?_⟩) (by assumption) ?_
   rotate_left
   ·(intro w hSw; (try dsimp only at hSw); go_simp) <;> with_reducible rfl
   (try simp only [Act.put, List.setIfInBounds_toArray, List.set_cons_zero, List.set_cons_succ])
   refine takeH 12 94 (v := ?_) rfl (by kernel_rfl) (by kernel_rfl) (by kernel_rfl) (fun _ _ _ h => h) (Or.inl ⟨by rfl, ?_⟩) (by assumption) ?_
   rotate_left
   ·(intro w hSw; (try dsimp only at hSw); go_simp) <;> with_reducible rfl
   (try simp only [Act.put, List.setIfInBounds_toArray, List.set_cons_zero, List.set_cons_succ])
   refine takeH 13 95 (v := ?_) rfl (by kernel_rfl) (by kernel_rfl) (by kernel_rfl) (fun _ _ _ h => h) (Or.inl ⟨by rfl, ?_⟩) (by assumption) ?_
   rotate_left
   ·(intro w hSw; (try dsimp only at hSw); go_simp) <;> with_reducible rfl
   (try simp only [Act.put, List.setIfInBounds_toArray, List.set_cons_zero, List.set_cons_succ])
   refine takeH 15 97 (v := ?_) rfl (by kernel_rfl) (by kernel_rfl) (by kernel_rfl) (fun _ _ _ h => h) (Or.inl ⟨by rfl, ?_⟩) (by assumption) ?_
   rotate_left
   ·(intro w hSw; (try dsimp only at hSw); go_simp) <;> with_reducible rfl
   (try simp only [Act.put, List.setIfInBounds_toArray, List.set_cons_zero, List.set_cons_succ])
   refine takeH 16 98 (v := ?_) rfl (by kernel_rfl) (by kernel_rfl) (by kernel_rfl) (fun _ _ _ h => h) (Or.inl ⟨by rfl, ?_⟩) (by assumption) ?_
   rotate_left
   ·(intro w hSw; (try dsimp only at hSw); go_simp) <;> with_reducible rfl
   (try simp only [Act.put, List.setIfInBounds_toArray, List.set_cons_zero, List.set_cons_succ])
   refine takeH 17 99 (v := ?_) rfl (by kernel_rfl) (by kernel_rfl) (by kernel_rfl) (fun _ _ _ h => h) (Or.inl ⟨by rfl, ?_⟩) (by assumption) ?_
   rotate_left
   ·(intro w hSw; (try dsimp only at hSw); go_simp) <;> with_reducible rfl
   (try simp only [Act.put, List.setIfInBounds_toArray, List.set_cons_zero, List.set_cons_succ])
   refine takeH 18 100 (v := ?_) rfl (by kernel_rfl) (by kernel_rfl) (by kernel_rfl) (fun _ _ _ h => h) (Or.inl ⟨by rfl, ?_⟩) (by assumption) ?_
   rotate_left
   ·(intro w hSw; (try dsimp only at hSw); go_simp) <;> with_reducible rfl
   (try simp only [Act.put, List.setIfInBounds_toArray, List.set_cons_zero, List.set_cons_succ])
   refine wpAnyH_ready (rs := [14]) (by kernel_rfl) (by simp) ?_
   refine AllReadyH.cons (o := _) rfl (fun K hK => ?_) AllReadyH.nil
   go_simp
   refine (impl_CheckFound (nm := nm3) (ok := ok3) HL3.out (R3.out.up hx1) z3 hdf3.2.2.2.1 hdf3.1 hdf3.2.1 (by omega) (by omega) (by omega) hT31 (HT3.out.up hx1) hC31 (HC3.out.up hx1) (by omega) (by omega) HTS3.out HCS3.out).mono ?_; rw [← HCK.out]; rintro e x2 ⟨rfl, hx2⟩
   have hx2 := below_go hx1 hx2
   try go_wp2_with fail
   refine hK.out _ _ (cS.out _ hx2) (fun hHeld => ?_)
   clear hK K
   (try simp only [Act.put, List.setIfInBounds_toArray, List.set_cons_zero, List.set_cons_succ])
   refine wpAnyH_ready (rs := [19]) (by kernel_rfl) (by simp) ?_
   refine AllReadyH.cons (o := _) rfl (fun K hK => ?_) AllReadyH.nil
   go_simp
   refine (spec_CheckFound (nm := nm3) (ok := ok3) HL3.out (R3.out.up hx2) z3 hdf3.2.2.2.1 hdf3.1 hdf3.2.1 (by omega) (by omega) (by omega) hcap3 hT31 (HT3.out.up hx2) hC31 (HC3.out.up hx2) (by omega) (by omega) HTS3.out HCS3.out).mono ?_; rw [← HCK2.out]; rintro e x3 ⟨rfl, hx3⟩
   have hx3 := below_go hx2 hx3
   try go_wp2_with fail
   refine hK.out _ _ (cS.out _ hx3) (fun hHeld => ?_)
   clear hK K
   (try simp only [Act.put, List.setIfInBounds_toArray, List.set_cons_zero, List.set_cons_succ])
   refine takeH 20 102 (v := ?_) rfl (by kernel_rfl) (by kernel_rfl) (by kernel_rfl) (fun _ _ _ h => h) (Or.inl ⟨by rfl, ?_⟩) (by assumption) ?_
   rotate_left
   ·(intro w hSw; (try dsimp only at hSw); go_simp) <;> with_reducible rfl
   (try simp only [Act.put, List.setIfInBounds_toArray, List.set_cons_zero, List.set_cons_succ])
   refine takeH 21 103 (v := ?_) rfl (by kernel_rfl) (by kernel_rfl) (by kernel_rfl) (fun _ _ _ h => h) (Or.inl ⟨by rfl, ?_⟩) (by assumption) ?_
   rotate_left
   ·(intro w hSw; (try dsimp only at hSw); go_simp) <;> with_reducible rfl
   (try simp only [Act.put, List.setIfInBounds_toArray, List.set_cons_zero, List.set_cons_succ])
   refine takeH 22 104 (v := ?_) rfl (by kernel_rfl) (by kernel_rfl) (by kernel_rfl) (fun _ _ _ h => h) (Or.inl ⟨by rfl, ?_⟩) (by assumption) ?_
   rotate_left
   ·(intro w hSw; (try dsimp only at hSw); go_simp) <;> with_reducible rfl
   (try simp only [Act.put, List.setIfInBounds_toArray, List.set_cons_zero, List.set_cons_succ])
   refine takeH 23 105 (v := ?_) rfl (by kernel_rfl) (by kernel_rfl) (by kernel_rfl) (fun _ _ _ h => h) (Or.inl ⟨by rfl, ?_⟩) (by assumption) ?_
   rotate_left
   ·(intro w hSw; (try dsimp only at hSw); go_simp) <;> with_reducible rfl
   (try simp only [Act.put, List.setIfInBounds_toArray, List.set_cons_zero, List.set_cons_succ])
   refine takeH 24 106 (v := ?_) rfl (by kernel_rfl) (by kernel_rfl) (by kernel_rfl) (fun _ _ _ h => h) (Or.inl ⟨by rfl, ?_⟩) (by assumption) ?_
   rotate_left
   ·(intro w hSw; (try dsimp only at hSw); go_simp) <;> with_reducible rfl
   (try simp only [Act.put, List.setIfInBounds_toArray, List.set_cons_zero, List.set_cons_succ])
   refine takeH 25 107 (v := ?_) rfl (by kernel_rfl) (by kernel_rfl) (by kernel_rfl) (fun _ _ _ h => h) (Or.inl ⟨by rfl, ?_⟩) (by assumption) ?_
   rotate_left
   ·(intro w hSw; (try dsimp only at hSw); go_simp) <;> with_reducible rfl
   (try simp only [Act.put, List.setIfInBounds_toArray, List.set_cons_zero, List.set_cons_succ])
   refine takeH 26 108 (v := ?_) rfl (by kernel_rfl) (by kernel_rfl) (by kernel_rfl) (fun _ _ _ h => h) (Or.inl ⟨by rfl, ?_⟩) (by assumption) ?_
   rotate_left
   ·(intro w hSw; (try dsimp only at hSw); go_simp) <;> with_reducible rfl
   (try simp only [Act.put, List.setIfInBounds_toArray, List.set_cons_zero, List.set_cons_succ])
   refine takeH 27 109 (v := ?_) rfl (by kernel_rfl) (by kernel_rfl) (by kernel_rfl) (fun _ _ _ h => h) (Or.inl ⟨by rfl, ?_⟩) (by assumption) ?_
   rotate_left
   ·(intro w hSw; (try dsimp only at hSw); go_simp) <;> with_reducible rfl
   (try simp only [Act.put, List.setIfInBounds_toArray, List.set_cons_zero, List.set_cons_succ])
   refine takeH 28 110 (v := ?_) rfl (by kernel_rfl) (by kernel_rfl) (by kernel_rfl) (fun _ _ _ h => h) (Or.inl ⟨by rfl, ?_⟩) (by assumption) ?_
   rotate_left
   ·(intro w hSw; (try dsimp only at hSw); go_simp) <;> with_reducible rfl
   (try simp only [Act.put, List.setIfInBounds_toArray, List.set_cons_zero, List.set_cons_succ])
   refine takeH 29 111 (v := ?_) rfl (by kernel_rfl) (by kernel_rfl) (by kernel_rfl) (fun _ _ _ h => h) (Or.inl ⟨by rfl, ?_⟩) (by assumption) ?_
   rotate_left
   ·(intro w hSw; (try dsimp only at hSw); go_simp) <;> with_reducible rfl
   (try simp only [Act.put, List.setIfInBounds_toArray, List.set_cons_zero, List.set_cons_succ])
   refine wpAnyH_ready (rs := [30]) (by kernel_rfl) (by simp) ?_
   refine AllReadyH.cons (o := _) rfl (fun K hK => ?_) AllReadyH.nil
   go_simp
   refine (laws_qSameS HLdd.out (RDd.out.up hx3) (RDe.out.up hx3) (by omega)).mono ?_; rintro e x4 ⟨rfl, hx4⟩
   have hx4 := below_go hx3 hx4
   try go_wp2_with fail
   refine hK.out _ _ (cS.out _ hx4) (fun hHeld => ?_)
   clear hK K
   (try simp only [Act.put, List.setIfInBounds_toArray, List.set_cons_zero, List.set_cons_succ])
   refine takeH 31 113 (v := ?_) rfl (by kernel_rfl) (by kernel_rfl) (by kernel_rfl) (fun _ _ _ h => h) (Or.inl ⟨by rfl, ?_⟩) (by assumption) ?_
   rotate_left
   ·(intro w hSw; (try dsimp only at hSw); go_simp) <;> with_reducible rfl
   (try simp only [Act.put, List.setIfInBounds_toArray, List.set_cons_zero, List.set_cons_succ])
   refine takeH 32 114 (v := ?_) rfl (by kernel_rfl) (by kernel_rfl) (by kernel_rfl) (fun _ _ _ h => h) (Or.inl ⟨by rfl, ?_⟩) (by assumption) ?_
   rotate_left
   ·(intro w hSw; (try dsimp only at hSw); go_simp) <;> with_reducible rfl
   (try simp only [Act.put, List.setIfInBounds_toArray, List.set_cons_zero, List.set_cons_succ])
   refine wpAnyH_done (by kernel_rfl) ?_ _
   (try simp only [Act.put, List.setIfInBounds_toArray, List.set_cons_zero, List.set_cons_succ])
   replace K := K.up hx4
   replace J := J.up hx4
   replace Fa := Fa.up hx4
   replace Fb := Fb.up hx4
   replace M3 := M3.up hx4
   replace J3 := J3.up hx4
   replace G3 := G3.up hx4
   replace R := Lib.hid (R.out.up hx4)
   replace HTa := Lib.hid (HTa.out.up hx4)
   replace HCa := Lib.hid (HCa.out.up hx4)
   replace HTb := Lib.hid (HTb.out.up hx4)
   replace HCb := Lib.hid (HCb.out.up hx4)
   replace R3 := Lib.hid (R3.out.up hx4)
   replace HT3 := Lib.hid (HT3.out.up hx4)
   replace HC3 := Lib.hid (HC3.out.up hx4)
   replace R4 := Lib.hid (R4.out.up hx4)
   replace RDd := Lib.hid (RDd.out.up hx4)
   replace RDe := Lib.hid (RDe.out.up hx4)
   replace HW := Lib.hid (below_go HW.out hx4)
   clear hx4 hx3 hx2 hx1 hHeld cS
   have hst : stOk nm st L kb ks N bd = true := HOK.out.symm
   have hask : askS nm st L kb ks N = true := by rw [stOk, Bool.and_eq_true] at hst; exact hst.1
   have hRF := stR_t hst
   rw [← HRR.out] at hRF
   have HFT : Hid (∀ t ∈ T, goodF nm (st : Int) L kb ks t = true ∧ t.size = N ∧ decide (hdAt st L kb ks t t.size = roundsS st) = true ∧ trueH st L kb ks t = true) := Lib.hid (fun t ht => by
    have h1 := found_touch (b := bd) hask (t := t) (by rw [← hRF]; exact ht)
    exact ⟨goodF_of hask h1.2.1 h1.1, h1.1, decide_eq_true h1.2.2.1, h1.2.2.2⟩)
   have HFC : Hid (ckI nm st L kb ks N T C okf = okf) := Lib.hid (by
    have h1 := found_check (b := bd) hask
    rw [← hRF] at h1
    exact h1)
   clear hst hask hRF
   have fc0 := Fa.cell 0
   simp only [List.getElem?_cons_zero, List.getElem?_cons_succ] at fc0
   go_wp2
   clear fc0
   have HWL := HW
   go_loopw [120] (fun iv wr => ∃ k : Nat, k ≤ nTb ∧ iv = .int .i64 k ∧ Hid (Below x4.heap.size x4 wr)) (fun iv _ => nTb - (intOf iv).toNat)
   case atStart => exact ⟨0, Nat.zero_le _, rfl, Lib.hid (Below.refl _ _)⟩
   case round =>
    obtain ⟨k, hk, rfl, HBR⟩ := hrel
    rename World => wr
    by_cases hlt : k < nTb
    ·obtain ⟨b1, o1, t, hAT, _, ht, hct⟩ := (HTa.out.up HBR.out).at_str (k := k) (by rw [HTla.out]; exact hlt)
     subst hAT
     have hkI : (k : Int) < (nTb : Int) := by omega
     obtain ⟨t1, t2, t3, t4⟩ := HFT.out t (List.mem_of_getElem? ht)
     have HGF := Lib.hid t1
     have HD := Lib.hid t3
     have HTV := Lib.hid (show thV nm st L kb ks t = true by rw [thV_t t1]; exact t4)
     have htz : t.size ≤ 16777216 := by omega
     have htn : ((t.size : Int) != (N : Int)) = false := by rw [t2]; simp
     have HY := HBR.out
     replace K := K.up HY
     replace J := J.up HY
     replace R := Lib.hid (R.out.up HY)
     clear ht t1 t2 t3 t4
     have kc0 := K.cell 0; have kc1 := K.cell 1; have kc2 := K.cell 2; have jc0 := J.cell 0; have jc1 := J.cell 1
     simp only [List.getElem?_cons_zero, List.getElem?_cons_succ] at kc0 kc1 kc2 jc0 jc1
     go_wp2_with fail
     refine (impl_IsRound (nm := nm) (t := t) HL.out R.out z hdf.2.2.2.1 hdf.1 hdf.2.1 zk2 zs2 htz).mono ?_; rw [HGF.out, HD.out]; rintro e y6 ⟨rfl, hy⟩
     clear kc0 kc1 kc2 jc0 jc1
     replace K := K.up hy
     replace J := J.up hy
     replace R := Lib.hid (R.out.up hy)
     have HY2 := Lib.hid (below_go HY hy)
     clear hy HY
     have kc0 := K.cell 0; have kc1 := K.cell 1; have kc2 := K.cell 2; have jc0 := J.cell 0; have jc1 := J.cell 1
     simp only [List.getElem?_cons_zero, List.getElem?_cons_succ] at kc0 kc1 kc2 jc0 jc1
     go_wp2_with fail
     refine (impl_TrueByHeads (nm := nm) (t := t) HL.out R.out z hdf.2.2.2.1 hdf.1 hdf.2.1 zk2 zs2 htz).mono ?_; rw [HTV.out, HGF.out]; rintro e y7 ⟨rfl, hy⟩
     clear kc0 kc1 kc2 jc0 jc1
     have HY3 := Lib.hid (below_go HY2.out hy)
     clear hy
     go_wp2
     go_roundw
     case rel => exact ⟨k + 1, by omega, by go_num, HY3⟩
     case measure => simp [intOf]; omega
    ·obtain rfl : k = nTb := by omega
     have hkI : ¬ (k : Int) < (k : Int) := by omega
     have HY := HBR.out
     replace K := K.up HY
     replace J := J.up HY
     replace Fa := Fa.up HY
     replace R := Lib.hid (R.out.up HY)
     replace HTa := Lib.hid (HTa.out.up HY)
     replace HCa := Lib.hid (HCa.out.up HY)
     replace HW := Lib.hid (below_go HW.out HY)
     clear HY
     go_upto_region 22 with fail
     have aD : Below wr.heap.size wr wr.drew := (Below.refl _ _).drew
     replace K := K.up aD
     replace J := J.up aD
     replace Fa := Fa.up aD
     replace R := Lib.hid (R.out.up aD)
     replace HTa := Lib.hid (HTa.out.up aD)
     replace HCa := Lib.hid (HCa.out.up aD)
     replace HW := Lib.hid (below_go HW.out aD)
     clear aD
     have cS : Hid (∀ u : World, Below wr.drew.heap.size wr.drew u → (u.cell? ⟨p, 0, none⟩ = some (.string nm) ∧ u.cell? ⟨p, 1, none⟩ = some (.int .i64 (st : Int)) ∧ u.cell? ⟨p, 2, none⟩ = some (.slice B m d)) ∧ (u.cell? ⟨p + 1, 0, none⟩ = some (.string kb) ∧ u.cell? ⟨p + 1, 1, none⟩ = some (.string ks)) ∧ u.cell? ⟨pa, 0, none⟩ = some (.slice ATa k cTa) ∧ u.cell? ⟨pa, 1, none⟩ = some (.slice ACa nCb cCa) ∧ u.cell? ⟨pa, 2, none⟩ = some (.bool okf)) := Lib.hid (fun u hu => by
      have L0 := K.up hu; have L1 := J.up hu; have L2 := Fa.up hu
      exact ⟨⟨by simpa using L0.cell 0, by simpa using L0.cell 1, by simpa using L0.cell 2⟩, ⟨by simpa using L1.cell 0, by simpa using L1.cell 1⟩, ⟨by simpa using L2.cell 0, by simpa using L2.cell 1, by simpa using L2.cell 2⟩⟩)
     have HTZ : Hid (∀ s ∈ T, s.size ≤ 16777216) := Lib.hid (fun s hs => by have := HTS.out s hs; omega)
     have HCZ : Hid (∀ x ∈ C, x.1.size ≤ 16777216) := Lib.hid (fun s hs => by have := HCS.out s hs; omega)
     refine wp_region_held_drew (S := fun u => (u.cell? ⟨p, 0, none⟩ = some (.string nm) ∧ u.cell? ⟨p, 1, none⟩ = some (.int .i64 (st : Int)) ∧ u.cell? ⟨p, 2, none⟩ = some (.slice B m d)) ∧ (u.cell? ⟨p + 1, 0, none⟩ = some (.string kb) ∧ u.cell? ⟨p + 1, 1, none⟩ = some (.string ks)) ∧ u.cell? ⟨pa, 0, none⟩ = some (.slice ATa k cTa) ∧ u.cell? ⟨pa, 1, none⟩ = some (.slice ACa nCb cCa) ∧ u.cell? ⟨pa, 2, none⟩ = some (.bool okf)) (by kernel_rfl) (cS.out _ (Below.refl _ _)) (fun hHeld => ?_)
     refine takeH 0 159 (v := ?_) rfl (by kernel_rfl) (by kernel_rfl) (by kernel_rfl) (fun _ _ _ h => h) (Or.inl ⟨by rfl, ?_⟩) (by assumption) ?_
     rotate_left
     ·(intro w hSw; (try dsimp only at hSw); go_simp) <;> with_reducible rfl
     (try simp only [Act.put, List.setIfInBounds_toArray, List.set_cons_zero, List.set_cons_succ])
     refine takeH 1 160 (v := ?_) rfl (by kernel_rfl) (by kernel_rfl) (by kernel_rfl) (fun _ _ _ h => h) (Or.inl ⟨by rfl, ?_⟩) (by assumption) ?_
     rotate_left
     ·(intro w hSw; (try dsimp only at hSw); go_simp) <;> with_reducible rfl
     (try simp only [Act.put, List.setIfInBounds_toArray, List.set_cons_zero, List.set_cons_succ])
     refine takeH 2 161 (v := ?_) rfl (by kernel_rfl) (by kernel_rfl) (by kernel_rfl) (fun _ _ _ h => h) (Or.inl ⟨by rfl, ?_⟩) (by assumption) ?_
     rotate_left
     ·(intro w hSw; (try dsimp only at hSw); go_simp) <;> with_reducible rfl
     (try simp only [Act.put, List.setIfInBounds_toArray, List.set_cons_zero, List.set_cons_succ])
     refine takeH 3 162 (v := ?_) rfl (by kernel_rfl) (by kernel_rfl) (by kernel_rfl) (fun _ _ _ h => h) (Or.inl ⟨by rfl, ?_⟩) (by assumption) ?_
     rotate_left
     ·(intro w hSw; (try dsimp only at hSw); go_simp) <;> with_reducible rfl
     (try simp only [Act.put, List.setIfInBounds_toArray, List.set_cons_zero, List.set_cons_succ])
     refine takeH 5 164 (v := ?_) rfl (by kernel_rfl) (by kernel_rfl) (by kernel_rfl) (fun _ _ _ h => h) (Or.inl ⟨by rfl, ?_⟩) (by assumption) ?_
     rotate_left
     ·(intro w hSw; (try dsimp only at hSw); go_simp) <;> with_reducible rfl
     (try simp only [Act.put, List.setIfInBounds_toArray, List.set_cons_zero, List.set_cons_succ])
     refine takeH 6 165 (v := ?_) rfl (by kernel_rfl) (by kernel_rfl) (by kernel_rfl) (fun _ _ _ h => h) (Or.inl ⟨by rfl, ?_⟩) (by assumption) ?_
     rotate_left
     ·(intro w hSw; (try dsimp only at hSw); go_simp) <;> with_reducible rfl
     (try simp only [Act.put, List.setIfInBounds_toArray, List.set_cons_zero, List.set_cons_succ])
     refine wpAnyH_ready (rs := [4]) (by kernel_rfl) (by simp) ?_
     refine AllReadyH.cons (o := _) rfl (fun K hK => ?_) AllReadyH.nil
     go_simp
     refine (impl_CheckFound (nm := nm) (ok := okf) HL.out R.out z hdf.2.2.2.1 hdf.1 hdf.2.1 zk2 zs2 hN HTla.out HTa.out HCla.out HCa.out (by omega) (by omega) HTZ.out HCZ.out).mono ?_; rw [HFC.out]; rintro e x5 ⟨rfl, hx5⟩
     try go_wp2_with fail
     refine hK.out _ _ (cS.out _ hx5) (fun hHeld => ?_)
     clear hK K
     (try simp only [Act.put, List.setIfInBounds_toArray, List.set_cons_zero, List.set_cons_succ])
     refine takeH 7 166 (v := ?_) rfl (by kernel_rfl) (by kernel_rfl) (by kernel_rfl) (fun _ _ _ h => h) (Or.inl ⟨by rfl, ?_⟩) (by assumption) ?_
     rotate_left
     ·(intro w hSw; (try dsimp only at hSw); go_simp) <;> with_reducible rfl
     (try simp only [Act.put, List.setIfInBounds_toArray, List.set_cons_zero, List.set_cons_succ])
     refine takeH 8 4 (v := ?_) rfl (by kernel_rfl) (by kernel_rfl) (by kernel_rfl) (fun _ _ _ h => h) (Or.inl ⟨by rfl, ?_⟩) (by assumption) ?_
     rotate_left
     ·(intro w hSw; (try dsimp only at hSw); go_simp) <;> with_reducible rfl
     (try simp only [Act.put, List.setIfInBounds_toArray, List.set_cons_zero, List.set_cons_succ])
     refine wpAnyH_done (by kernel_rfl) ?_ _
     (try simp only [Act.put, List.setIfInBounds_toArray, List.set_cons_zero, List.set_cons_succ])
     go_wp2
     go_ret
     exact ⟨by simp, below_go HW.out hx5⟩
 ·have hI : 1048576 < wrap64 ((l0.length : Int) + (l1.length : Int)) := by omega
  go_in
  go_wp2
  go_ret
  exact ⟨rfl, Below.refl _ _⟩
end Go.Proofs.YtidolgonmimicaaGreat
