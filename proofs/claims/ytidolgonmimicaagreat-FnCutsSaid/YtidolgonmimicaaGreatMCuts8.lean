/- Texts 8 of 8 that the claim leans on: plain laws and the walks' contracts, in order. -/
import Derived.Test.YtidolgonmimicaaGreatMCuts7
set_option linter.unusedVariables false
set_option linter.unusedSimpArgs false
namespace Go.Proofs.YtidolgonmimicaaGreat
open Go.ChangeShapes Go.WideShapes Go.ChangeAt Go.RowKit Go.Deep
theorem Recs.take13 {α : Type} {e : α → List Value} {s : Nat} {w : World} {A : Option Addr} {l : List α} (h : Recs e s w A l) (m : Nat) : Recs e s w A (l.take m) := by
  refine ⟨h.1, by rw [flatMap_len h.1], fun hn => ?_⟩
  have h0 : 0 < l.length := by rw [List.length_take] at hn; omega
  obtain ⟨b, off, hA, hb, hc⟩ := h.2.2 h0
  refine ⟨b, off, hA, hb, fun j u hu => hc j u ?_⟩
  have e1 : l.flatMap e = (l.take m).flatMap e ++ (l.drop m).flatMap e := by rw [← List.flatMap_append, List.take_append_drop]
  rw [e1, List.getElem?_append_left (List.getElem?_eq_some_iff.1 hu).1]
  exact hu
theorem Src.half {w : World} {A : Option Addr} {n : Nat} (h : Src w A n) (c : Nat) : Src w (if c = n / 2 then A else Option.map (fun x => x.add (n / 2)) A) (n - n / 2) := by
  obtain ⟨l, h1, h2, h3, h4⟩ := h
  rcases Nat.eq_zero_or_pos n with h0 | h0
  · subst h0
    obtain rfl := List.length_eq_zero_iff.1 h1
    exact ⟨[], rfl, by omega, (fun x hx => (by cases hx)), byteE_len, Rd.none_ _ _ _⟩
  · split
    · exact ⟨l.take (n - n / 2), by rw [List.length_take]; omega, by omega, fun x hx => h3 x (List.mem_of_mem_take hx), h4.take13 _⟩
    · obtain ⟨b, o, rfl, _⟩ := h4.2.2 (by omega)
      have h5 := h4.sub (i := n / 2) (n := n - n / 2) (by omega)
      rw [Nat.mul_one] at h5
      have e5 : Option.map (fun x : Addr => x.add (n / 2)) (some (⟨b, o, none⟩ : Addr)) = some ⟨b, o + n / 2, none⟩ := by rw [Option.map_some, Go.WideShapes.add_plain]
      rw [e5]
      refine ⟨(l.drop (n / 2)).take (n - n / 2), by rw [List.length_take, List.length_drop]; omega, by omega, fun x hx => h3 x (List.mem_of_mem_drop (List.mem_of_mem_take hx)), h5⟩
theorem run_C {cut : ByteArray → Option Cut3} {n : Nat} (hc : ∀ p c, cut p = some c → c.1 = p) : ∀ (b : Nat) (S T : List ByteArray) (C : List Cut3), (∀ p ∈ S, p.size ≤ n) → (∀ c ∈ C, c.1.size ≤ n) → ∀ c ∈ (runF cut n b S T C).C, c.1.size ≤ n
  | 0, S, T, C, _, h, c, hm => h c hm
  | b + 1, [], T, C, _, h, c, hm => h c hm
  | b + 1, p :: S, T, C, hS, h, c, hm => by
    have hp := hS p (List.mem_cons_self ..)
    have hS' : ∀ q ∈ S, q.size ≤ n := fun q hq => hS q (List.mem_cons_of_mem _ hq)
    cases hx : cut p with
    | some x =>
      rw [run_cut hx] at hm
      refine run_C hc b S T _ hS' (fun y hy => ?_) c hm
      rcases List.mem_append.1 hy with q | q
      · exact h y q
      · rw [List.mem_singleton.1 q, hc p x hx]; exact hp
    | none =>
      by_cases hn : p.size = n
      · rw [run_touch hx hn] at hm
        exact run_C hc b S _ C hS' h c hm
      · rw [run_kids hx hn] at hm
        refine run_C hc b _ T C (fun q hq => ?_) h c hm
        rcases List.mem_append.1 hq with g | g
        · have := kid_size g; omega
        · exact hS' q g
theorem stR_C (nm : ByteArray) (st : Nat) (l : List ByteArray) (kb ks : ByteArray) (N bd : Nat) : ∀ c ∈ (stR nm st l kb ks N bd).C, c.1.size ≤ N := by
  intro c hc
  rw [stR] at hc
  split at hc
  · exact run_C (fun p c h => cut_fst p c h) _ _ _ _ (fun p hp => by rw [List.mem_singleton.1 hp]; exact Nat.zero_le _) (fun c hc => by cases hc) c hc
  · cases hc
set_option maxHeartbeats 16000000 in
set_option maxRecDepth 100000 in
theorem draw_IsCut {A : Option Addr} {n c : Nat} {w : World} (hS : Src w A n) :
    Calls Tryz.prog 9 #[.slice A n c] w fun e w' => ∃ (nm : ByteArray) (st : Nat) (A1 : Option Addr) (n1 c1 : Nat) (L : List ByteArray) (kb ks : ByteArray) (N : Nat) (s : ByteArray) (x y : Int), e = .returned (.tuple #[.agg #[.string nm, .int .i64 st, .slice A1 n1 c1], .agg #[.string kb, .string ks], .int .i64 N, .agg #[.string s, .int .i64 x, .int .i64 y]]) ∧ drM nm st L ∧ kb.size ≤ 8 ∧ ks.size ≤ 8 ∧ N ≤ 7 ∧ s.size ≤ 100 ∧ Owned strE 1 9 w' w.heap.size A1 n1 c1 L ∧ Below w.heap.size w w' := by
  have hn : n ≤ 9223372036854775807 := by obtain ⟨l, h1, h2, _⟩ := hS; exact h2
  have R := ((Blk.at_ w 25 [.string ⟨#[]⟩, .int .i64 0, .slice none 0 0] (b := w.heap.size) rfl).alloc (.cells #[.string ⟨#[]⟩, .string ⟨#[]⟩] 27)).alloc (.cells #[.string ⟨#[]⟩, .int .i64 0, .int .i64 0] 29)
  have Q := (Blk.at_ (w.alloc (.cells #[.string ⟨#[]⟩, .int .i64 0, .slice none 0 0] 25)) 27 [.string ⟨#[]⟩, .string ⟨#[]⟩] (b := w.heap.size + 1) (by simp)).alloc (.cells #[.string ⟨#[]⟩, .int .i64 0, .int .i64 0] 29)
  have X := Blk.at_ ((w.alloc (.cells #[.string ⟨#[]⟩, .int .i64 0, .slice none 0 0] 25)).alloc (.cells #[.string ⟨#[]⟩, .string ⟨#[]⟩] 27)) 29 [.string ⟨#[]⟩, .int .i64 0, .int .i64 0] (b := w.heap.size + 1 + 1) (by simp)
  have b0 : Below w.heap.size w (((w.alloc (.cells #[.string ⟨#[]⟩, .int .i64 0, .slice none 0 0] 25)).alloc (.cells #[.string ⟨#[]⟩, .string ⟨#[]⟩] 27)).alloc (.cells #[.string ⟨#[]⟩, .int .i64 0, .int .i64 0] 29)) := by (repeat' (first | (with_reducible exact Below.refl _ _) | (with_reducible assumption) | (with_reducible refine below_drewN ?_ _) | (with_reducible refine Below.drew ?_) | (with_reducible refine below_alloc ?_ _) | (with_reducible refine Below.alloc ?_ ?_ _) | (with_reducible refine Below.setCell ?_ ?_ _) | (with_reducible refine below_go ?_ (by with_reducible assumption)) | (with_reducible refine below_then (by with_reducible assumption) ?_ ?_) | go_size))
  have HSW := Lib.hid hS
  go_in
  go_wp2_with fail
  obtain ⟨w1, hw1⟩ : ∃ u, u = (((w.alloc (.cells #[.string ⟨#[]⟩, .int .i64 0, .slice none 0 0] 25)).alloc (.cells #[.string ⟨#[]⟩, .string ⟨#[]⟩] 27)).alloc (.cells #[.string ⟨#[]⟩, .int .i64 0, .int .i64 0] 29)) := ⟨_, rfl⟩
  have z1 : w1.heap.size = w.heap.size + 3 := by rw [hw1]; simp
  rw [← hw1] at b0 R Q X ⊢
  clear hw1
  refine (draw_SearchTouches (hS.over b0)).mono ?_; rintro e v ⟨nm, st, A2, m, c2, L, kb, ks, N, bd, rfl, hdr, zkb, zks, hN7, hbd, ho, hv⟩
  have HDR := Lib.hid hdr
  have hdf := drM_f13 hdr
  have HLl := Lib.hid ho.len
  have hcap := ho.cap.1
  have HLB := Lib.hid (fun k (hk : (Value.slice A2 m c2).ownBlock = some k) => (ho.blk hk).2)
  rw [z1] at ho
  have HO := Lib.hid ho
  have s1 := hv.size
  have HB := Lib.hid (below_go b0 hv)
  replace R := R.up hv
  replace Q := Q.up hv
  replace X := X.up hv
  clear hS ho hdr hv b0
  have htd : (n : Int).tdiv 2 = ((n / 2 : Nat) : Int) := by rw [Int.tdiv_eq_ediv_of_nonneg (by omega)]; rfl
  have hwr : IntKind.i64.wrap ((n / 2 : Nat) : Int) = ((n / 2 : Nat) : Int) := wrap_id (by omega)
  have hle : ((n / 2 : Nat) : Int) ≤ (n : Int) := by omega
  have HH := Lib.hid (HSW.out.half c)
  go_upto_region 3 with fail
  clear htd hwr hle
  obtain ⟨A5, hA5⟩ : ∃ u, u = (if c = n / 2 then A else Option.map (fun x => x.add (n / 2)) A) := ⟨_, rfl⟩
  obtain ⟨n5, hn5⟩ : ∃ u, u = n - n / 2 := ⟨_, rfl⟩
  obtain ⟨c5, hc5⟩ : ∃ u, u = c - n / 2 := ⟨_, rfl⟩
  rw [← hA5, ← hn5] at HH
  rw [← hA5, ← hn5, ← hc5]
  clear hA5 hn5 hc5
  obtain ⟨b, hbv⟩ : ∃ u, u = v.heap.size := ⟨_, rfl⟩
  have a1 : Below v.heap.size v ((v.alloc (.cells #[.string nm, .int .i64 (st : Int), .slice A2 m c2] 25)).alloc (.cells #[.string kb, .string ks] 27)) := by (repeat' (first | (with_reducible exact Below.refl _ _) | (with_reducible assumption) | (with_reducible refine below_drewN ?_ _) | (with_reducible refine Below.drew ?_) | (with_reducible refine below_alloc ?_ _) | (with_reducible refine Below.alloc ?_ ?_ _) | (with_reducible refine Below.setCell ?_ ?_ _) | (with_reducible refine below_go ?_ (by with_reducible assumption)) | (with_reducible refine below_then (by with_reducible assumption) ?_ ?_) | go_size))
  have K := ((Blk.at_ v 25 [.string nm, .int .i64 (st : Int), .slice A2 m c2] (b := v.heap.size) rfl).alloc (.cells #[.string kb, .string ks] 27))
  have J := (Blk.at_ (v.alloc (.cells #[.string nm, .int .i64 (st : Int), .slice A2 m c2] 25)) 27 [.string kb, .string ks] (b := v.heap.size + 1) (by simp))
  replace R := R.up a1
  replace Q := Q.up a1
  replace X := X.up a1
  replace HO := Lib.hid (HO.out.up a1)
  replace HB := Lib.hid (below_go HB.out a1)
  clear a1
  have hz2 : ((v.alloc (.cells #[.string nm, .int .i64 (st : Int), .slice A2 m c2] 25)).alloc (.cells #[.string kb, .string ks] 27)).heap.size = v.heap.size + 1 + 1 := by simp
  have HC := Lib.hid (cur_fresh ((v.alloc (.cells #[.string nm, .int .i64 (st : Int), .slice A2 m c2] 25)).alloc (.cells #[.string kb, .string ks] 27)) A5 n5 c5)
  rw [hz2] at HC
  obtain ⟨v2, hv2⟩ : ∃ u, u = ((v.alloc (.cells #[.string nm, .int .i64 (st : Int), .slice A2 m c2] 25)).alloc (.cells #[.string kb, .string ks] 27)) := ⟨_, rfl⟩
  rw [← hv2] at K J R Q X HO HB HC hz2 ⊢
  clear hv2
  have a2 : Below v2.heap.size v2 (v2.alloc (.cells #[.slice A5 n5 c5, .int .i64 0, .int .u64 0] 87)) := by (repeat' (first | (with_reducible exact Below.refl _ _) | (with_reducible assumption) | (with_reducible refine below_drewN ?_ _) | (with_reducible refine Below.drew ?_) | (with_reducible refine below_alloc ?_ _) | (with_reducible refine Below.alloc ?_ ?_ _) | (with_reducible refine Below.setCell ?_ ?_ _) | (with_reducible refine below_go ?_ (by with_reducible assumption)) | (with_reducible refine below_then (by with_reducible assumption) ?_ ?_) | go_size))
  replace K := K.up a2
  replace J := J.up a2
  replace R := R.up a2
  replace Q := Q.up a2
  replace X := X.up a2
  replace HO := Lib.hid (HO.out.up a2)
  replace HB := Lib.hid (below_go HB.out a2)
  clear a2
  have hz3 : (v2.alloc (.cells #[.slice A5 n5 c5, .int .i64 0, .int .u64 0] 87)).heap.size = v2.heap.size + 1 := by simp
  obtain ⟨v3, hv3⟩ : ∃ u, u = v2.alloc (.cells #[.slice A5 n5 c5, .int .i64 0, .int .u64 0] 87) := ⟨_, rfl⟩
  rw [← hv3] at K J R Q X HO HB HC hz3 ⊢
  clear hv3
  rw [← hbv] at K J HC hz2 HLB s1 ⊢
  rw [z1] at s1
  clear hbv z1
  have hbz : w.heap.size + 3 ≤ b := s1
  obtain ⟨p, hp⟩ : ∃ u, u = b + 1 + 1 := ⟨_, rfl⟩
  rw [← hp] at HC hz2 ⊢
  have hp0 : w.heap.size ≤ p := by omega
  have hpb : b + 1 < p := by omega
  have hpz : p < v3.heap.size := by omega
  clear hp hz2 hz3 s1
  have hl3 := lit_strs2 v3 9 [⟨#[]⟩, ⟨#[98]⟩, ⟨#[112, 112]⟩, ⟨#[115]⟩]
  have g3 : v3.grownBy (v3.alloc (.cells #[.string ⟨#[]⟩, .string ⟨#[98]⟩, .string ⟨#[112, 112]⟩, .string ⟨#[115]⟩] 9)) (some p) := World.grownBy_alloc _ _ _
  go_wp2_with fail
  refine (cur_of (l := [⟨#[]⟩, ⟨#[98]⟩, ⟨#[112, 112]⟩, ⟨#[115]⟩]) HH.out (grown_below HB.out hp0 g3) hp0 (HC.out.up ((Below.refl _ _).alloc (Nat.le_refl _) _)) (by omega) rfl hl3 (by decide) (by decide) (fun b o e => by injection e with e; injection e with e; omega)).mono ?_; rintro e u4 ⟨s, hsl, rfl, hc4, hg4⟩
  have hg4 := grownBy_trans g3 hg4
  have hs2 : s.size ≤ 9 := by
    simp only [List.mem_cons, List.not_mem_nil, or_false] at hsl
    rcases hsl with rfl | rfl | rfl | rfl <;> decide
  have s4 := hg4.size
  clear hl3 g3 hsl
  replace R := R.grown hg4 (fun e => by injection e with e; omega)
  replace Q := Q.grown hg4 (fun e => by injection e with e; omega)
  replace X := X.grown hg4 (fun e => by injection e with e; omega)
  replace K := K.grown hg4 (fun e => by injection e with e; omega)
  replace J := J.grown hg4 (fun e => by injection e with e; omega)
  replace HO := Lib.hid (HO.out.kept hg4 (fun k hk e => by injection e with e; have := HLB.out k hk; omega))
  replace HB := Lib.hid (grown_below HB.out hp0 hg4)
  replace HC := Lib.hid hc4
  clear hg4 hc4
  go_wp2_with fail
  refine (cur_pick HH.out HB.out hp0 HC.out (by omega) (by decide) (by decide)).mono ?_; rintro e u5 ⟨x, rfl, ⟨x0, x1⟩, hc5, hg5⟩
  have s5 := hg5.size
  replace R := R.grown hg5 (fun e => by injection e with e; omega)
  replace Q := Q.grown hg5 (fun e => by injection e with e; omega)
  replace X := X.grown hg5 (fun e => by injection e with e; omega)
  replace K := K.grown hg5 (fun e => by injection e with e; omega)
  replace J := J.grown hg5 (fun e => by injection e with e; omega)
  replace HO := Lib.hid (HO.out.kept hg5 (fun k hk e => by injection e with e; have := HLB.out k hk; omega))
  replace HB := Lib.hid (grown_below HB.out hp0 hg5)
  replace HC := Lib.hid hc5
  clear hg5 hc5
  obtain ⟨x5, hx5⟩ : ∃ q : Int, q = 1 + x := ⟨_, rfl⟩
  have hx5b : 0 ≤ x5 ∧ x5 ≤ 10 := by omega
  clear x0 x1
  go_upto_region 4 with fail
  rw [← hx5]
  clear hx5
  have D := Blk.at_ u5 29 [.string s, .int .i64 x5, .int .i64 0] (b := u5.heap.size) rfl
  have a5 : Below u5.heap.size u5 (u5.alloc (.cells #[.string s, .int .i64 x5, .int .i64 0] 29)) := by (repeat' (first | (with_reducible exact Below.refl _ _) | (with_reducible assumption) | (with_reducible refine below_drewN ?_ _) | (with_reducible refine Below.drew ?_) | (with_reducible refine below_alloc ?_ _) | (with_reducible refine Below.alloc ?_ ?_ _) | (with_reducible refine Below.setCell ?_ ?_ _) | (with_reducible refine below_go ?_ (by with_reducible assumption)) | (with_reducible refine below_then (by with_reducible assumption) ?_ ?_) | go_size))
  replace R := R.up a5
  replace Q := Q.up a5
  replace X := X.up a5
  replace K := K.up a5
  replace J := J.up a5
  replace HO := Lib.hid (HO.out.up a5)
  replace HB := Lib.hid (below_go HB.out a5)
  replace HC := Lib.hid (HC.out.up a5)
  clear a5
  obtain ⟨u6, hu6⟩ : ∃ u, u = u5.alloc (.cells #[.string s, .int .i64 x5, .int .i64 0] 29) := ⟨_, rfl⟩
  rw [← hu6] at K J R Q X D HO HB HC ⊢
  have z6 : u6.heap.size = u5.heap.size + 1 := by rw [hu6]; simp
  obtain ⟨dx, hdx⟩ : ∃ u, u = u5.heap.size := ⟨_, rfl⟩
  rw [← hdx] at D z6 ⊢
  have hdp : p < dx := by omega
  have hdz : dx < u6.heap.size := by omega
  clear hu6 hdx z6 s4 s5 hpz
  have kc0 := K.cell 0; have kc1 := K.cell 1; have kc2 := K.cell 2; have jc0 := J.cell 0; have jc1 := J.cell 1
  simp only [List.getElem?_cons_zero, List.getElem?_cons_succ] at kc0 kc1 kc2 jc0 jc1
  have HCS := Lib.hid (stR_C nm st L kb ks N 300)
  go_wp2_with fail
  refine (spec_SearchTouches (nm := nm) (bd := 300) HLl.out HO.out.recs (by have := HLl.out; omega) hdf.2.2.2.1 hdf.1 hdf.2.1 (by omega) (by omega) (by omega) (by omega) hcap).mono ?_; intro e u7 hx7
  obtain ⟨AT, nT, cT, AC, nC, cC, rfl, hoT, hoC, hnT, hnC, hb7⟩ := hx7
  clear kc0 kc1 kc2 jc0 jc1
  have HOC := Lib.hid hoC
  have s7 := hb7.size
  clear hoT hoC
  replace R := R.up hb7
  replace Q := Q.up hb7
  replace X := X.up hb7
  replace K := K.up hb7
  replace J := J.up hb7
  replace D := D.up hb7
  replace HO := Lib.hid (HO.out.up hb7)
  replace HB := Lib.hid (below_go HB.out hb7)
  replace HC := Lib.hid (HC.out.up hb7)
  clear hb7
  have HCL := Lib.hid HOC.out.len
  obtain ⟨RR, hRR⟩ : ∃ u, u = stR nm st L kb ks N 300 := ⟨_, rfl⟩
  rw [← hRR] at HOC HCS HCL ⊢
  clear hRR
  obtain ⟨ok, hok⟩ : ∃ u, u = stOk nm st L kb ks N 300 := ⟨_, rfl⟩
  rw [← hok]
  clear hok
  have F := Blk.at_ u7 75 [.slice AT nT cT, .slice AC nC cC, .bool RR.ok] (b := u7.heap.size) rfl
  have a7 : Below u7.heap.size u7 (u7.alloc (.cells #[.slice AT nT cT, .slice AC nC cC, .bool RR.ok] 75)) := by (repeat' (first | (with_reducible exact Below.refl _ _) | (with_reducible assumption) | (with_reducible refine below_drewN ?_ _) | (with_reducible refine Below.drew ?_) | (with_reducible refine below_alloc ?_ _) | (with_reducible refine Below.alloc ?_ ?_ _) | (with_reducible refine Below.setCell ?_ ?_ _) | (with_reducible refine below_go ?_ (by with_reducible assumption)) | (with_reducible refine below_then (by with_reducible assumption) ?_ ?_) | go_size))
  replace HOC := Lib.hid (HOC.out.up a7)
  replace R := R.up a7
  replace Q := Q.up a7
  replace X := X.up a7
  replace K := K.up a7
  replace J := J.up a7
  replace D := D.up a7
  replace HO := Lib.hid (HO.out.up a7)
  replace HB := Lib.hid (below_go HB.out a7)
  replace HC := Lib.hid (HC.out.up a7)
  clear a7
  go_upto_region 5 with fail
  obtain ⟨u8, hu8⟩ : ∃ u, u = u7.alloc (.cells #[.slice AT nT cT, .slice AC nC cC, .bool RR.ok] 75) := ⟨_, rfl⟩
  rw [← hu8] at K J R Q X D F HO HB HC HOC ⊢
  have z8 : u8.heap.size = u7.heap.size + 1 := by rw [hu8]; simp
  obtain ⟨fx, hfx⟩ : ∃ u, u = u7.heap.size := ⟨_, rfl⟩
  rw [← hfx] at F z8 ⊢
  have hfz : dx < fx := by omega
  clear hu8 hfx
  rcases ok
  · clear F
    go_wp2_with fail
    refine (cur_pick HH.out HB.out hp0 HC.out (by omega) (by decide) (by decide)).mono ?_; rintro e w1 ⟨k7, rfl, ⟨k70, k71⟩, hc9, hg9⟩
    replace R := R.grown hg9 (fun e => by injection e with e; omega)
    replace Q := Q.grown hg9 (fun e => by injection e with e; omega)
    replace X := X.grown hg9 (fun e => by injection e with e; omega)
    replace K := K.grown hg9 (fun e => by injection e with e; omega)
    replace J := J.grown hg9 (fun e => by injection e with e; omega)
    replace D := D.grown hg9 (fun e => by injection e with e; omega)
    replace HO := Lib.hid (HO.out.kept hg9 (fun k hk e => by injection e with e; have := HLB.out k hk; omega))
    replace HB := Lib.hid (grown_below HB.out hp0 hg9)
    replace HC := Lib.hid hc9
    clear hg9 hc9
    have h4 : k7 = 0 ∨ k7 = 1 ∨ k7 = 2 ∨ 3 ≤ k7 := by omega
    clear k71
    rcases h4 with rfl | rfl | rfl | h4
    · skip
      go_wp2_with fail
      refine (cur_pick HH.out HB.out hp0 HC.out (by omega) (by decide) (by decide)).mono ?_; rintro e w2 ⟨k8, rfl, ⟨k80, k81⟩, hc10, hg10⟩
      replace R := R.grown hg10 (fun e => by injection e with e; omega)
      replace Q := Q.grown hg10 (fun e => by injection e with e; omega)
      replace X := X.grown hg10 (fun e => by injection e with e; omega)
      replace K := K.grown hg10 (fun e => by injection e with e; omega)
      replace J := J.grown hg10 (fun e => by injection e with e; omega)
      replace D := D.grown hg10 (fun e => by injection e with e; omega)
      replace HO := Lib.hid (HO.out.kept hg10 (fun k hk e => by injection e with e; have := HLB.out k hk; omega))
      replace HB := Lib.hid (grown_below HB.out hp0 hg10)
      replace HC := Lib.hid hc10
      clear hg10 hc10
      have dc0 := D.cell 0; have dc1 := D.cell 1; have dc2 := D.cell 2
      simp only [List.getElem?_cons_zero, List.getElem?_cons_succ] at dc0 dc1 dc2
      have df0 := D.frozen 0; have df1 := D.frozen 1; have df2 := D.frozen 2
      have hwk : IntKind.i64.wrap (k8 - 1) = k8 - 1 := wrap_id (by omega)
      go_upto_region 14 with fail
      clear dc0 dc1 dc2 df0 df1 df2 hwk
      have gs : w2.grownBy (w2.setCell ⟨dx, 2, none⟩ (.int .i64 (k8 - 1))) (some dx) := only_set _ (p := ⟨dx, 2, none⟩) _
      replace K := K.grown gs (fun e => by injection e with e; omega)
      replace J := J.grown gs (fun e => by injection e with e; omega)
      replace R := R.grown gs (fun e => by injection e with e; omega)
      replace Q := Q.grown gs (fun e => by injection e with e; omega)
      replace X := X.grown gs (fun e => by injection e with e; omega)
      replace D := D.set_ 2 (.int .i64 (k8 - 1))
      simp only [List.set_cons_zero, List.set_cons_succ] at D
      replace HO := Lib.hid (HO.out.kept gs (fun k hk e => by injection e with e; have := HLB.out k hk; omega))
      replace HC := Lib.hid (HC.out.grown gs (fun e => by injection e with e; omega))
      replace HB := Lib.hid (HB.out.grown gs HB.out.size (fun k e => by injection e with e; omega))
      obtain ⟨w3, hw3⟩ : ∃ u, u = w2.setCell ⟨dx, 2, none⟩ (.int .i64 (k8 - 1)) := ⟨_, rfl⟩
      rw [← hw3] at K J R Q X D HO HC HB ⊢
      clear hw3 gs
      have aD : Below w3.heap.size w3 w3.drew := (Below.refl _ _).drew
      replace R := R.up aD
      replace Q := Q.up aD
      replace X := X.up aD
      replace K := K.up aD
      replace J := J.up aD
      replace D := D.up aD
      replace HO := Lib.hid (HO.out.up aD)
      replace HB := Lib.hid (below_go HB.out aD)
      replace HC := Lib.hid (HC.out.up aD)
      clear aD
      have cS : Hid (∀ u : World, Blk u b 25 [.string nm, .int .i64 (st : Int), .slice A2 m c2] → Blk u (b + 1) 27 [.string kb, .string ks] → Blk u dx 29 [.string s, .int .i64 x5, .int .i64 (k8 - 1)] → (u.cell? ⟨b, 0, none⟩ = some (.string nm) ∧ u.cell? ⟨b, 1, none⟩ = some (.int .i64 (st : Int)) ∧ u.cell? ⟨b, 2, none⟩ = some (.slice A2 m c2)) ∧ (u.cell? ⟨b + 1, 0, none⟩ = some (.string kb) ∧ u.cell? ⟨b + 1, 1, none⟩ = some (.string ks)) ∧ u.cell? ⟨dx, 0, none⟩ = some (.string s) ∧ u.cell? ⟨dx, 1, none⟩ = some (.int .i64 x5) ∧ u.cell? ⟨dx, 2, none⟩ = some (.int .i64 (k8 - 1))) := Lib.hid (fun u L0 L1 L2 => ⟨⟨by simpa using L0.cell 0, by simpa using L0.cell 1, by simpa using L0.cell 2⟩, ⟨by simpa using L1.cell 0, by simpa using L1.cell 1⟩, by simpa using L2.cell 0, by simpa using L2.cell 1, by simpa using L2.cell 2⟩)
      refine wp_region_held_drew (S := fun u => (u.cell? ⟨b, 0, none⟩ = some (.string nm) ∧ u.cell? ⟨b, 1, none⟩ = some (.int .i64 (st : Int)) ∧ u.cell? ⟨b, 2, none⟩ = some (.slice A2 m c2)) ∧ (u.cell? ⟨b + 1, 0, none⟩ = some (.string kb) ∧ u.cell? ⟨b + 1, 1, none⟩ = some (.string ks)) ∧ u.cell? ⟨dx, 0, none⟩ = some (.string s) ∧ u.cell? ⟨dx, 1, none⟩ = some (.int .i64 x5) ∧ u.cell? ⟨dx, 2, none⟩ = some (.int .i64 (k8 - 1))) (by kernel_rfl) (cS.out _ K J D) (fun hHeld => ?_)
      refine wpAnyH_take (i := 0) (oi := { dst := some 78, op := _, type := _, pos := _, after := _, guard := _ }) (v := ?_) rfl (by kernel_rfl) (by kernel_rfl) (by kernel_rfl) (fun _ _ _ h => h) (Or.inl ⟨by rfl, ?_⟩) (by assumption) ?_
      rotate_left
      · (intro w hSw; (try dsimp only at hSw); go_simp) <;> with_reducible rfl
      (try simp only [Act.put, List.setIfInBounds_toArray, List.set_cons_zero, List.set_cons_succ])
      refine wpAnyH_take (i := 1) (oi := { dst := some 79, op := _, type := _, pos := _, after := _, guard := _ }) (v := ?_) rfl (by kernel_rfl) (by kernel_rfl) (by kernel_rfl) (fun _ _ _ h => h) (Or.inl ⟨by rfl, ?_⟩) (by assumption) ?_
      rotate_left
      · (intro w hSw; (try dsimp only at hSw); go_simp) <;> with_reducible rfl
      (try simp only [Act.put, List.setIfInBounds_toArray, List.set_cons_zero, List.set_cons_succ])
      refine wpAnyH_take (i := 2) (oi := { dst := some 80, op := _, type := _, pos := _, after := _, guard := _ }) (v := ?_) rfl (by kernel_rfl) (by kernel_rfl) (by kernel_rfl) (fun _ _ _ h => h) (Or.inl ⟨by rfl, ?_⟩) (by assumption) ?_
      rotate_left
      · (intro w hSw; (try dsimp only at hSw); go_simp) <;> with_reducible rfl
      (try simp only [Act.put, List.setIfInBounds_toArray, List.set_cons_zero, List.set_cons_succ])
      refine wpAnyH_take (i := 3) (oi := { dst := some 81, op := _, type := _, pos := _, after := _, guard := _ }) (v := ?_) rfl (by kernel_rfl) (by kernel_rfl) (by kernel_rfl) (fun _ _ _ h => h) (Or.inl ⟨by rfl, ?_⟩) (by assumption) ?_
      rotate_left
      · (intro w hSw; (try dsimp only at hSw); go_simp) <;> with_reducible rfl
      (try simp only [Act.put, List.setIfInBounds_toArray, List.set_cons_zero, List.set_cons_succ])
      obtain ⟨wd, hwd⟩ : ∃ u, u = w3.drew := ⟨_, rfl⟩
      rw [← hwd] at K J R Q X D HO HC HB hHeld ⊢
      clear hwd
      have rc0 := R.cell 0; have rc1 := R.cell 1; have rc2 := R.cell 2
      have rf0 := R.frozen 0; have rf1 := R.frozen 1; have rf2 := R.frozen 2
      simp only [List.getElem?_cons_zero, List.getElem?_cons_succ] at rc0 rc1 rc2
      have q1 := sets3_grown wd w.heap.size (.string nm) (.int .i64 (st : Int)) (.slice A2 m c2)
      have R1 := ((R.set_ 0 (.string nm)).set_ 1 (.int .i64 (st : Int))).set_ 2 (.slice A2 m c2)
      have Y1 := Q.grown q1 (fun e => by injection e with e; omega)
      have X1 := X.grown q1 (fun e => by injection e with e; omega)
      have K1 := K.grown q1 (fun e => by injection e with e; omega)
      have J1 := J.grown q1 (fun e => by injection e with e; omega)
      have D1 := D.grown q1 (fun e => by injection e with e; omega)
      have hbs := HB.out.size
      have HB1 := Lib.hid (HB.out.grown q1 hbs (fun k e => by injection e with e; omega))
      have HO1 := Lib.hid (HO.out.past q1 (by omega))
      obtain ⟨wA, hwA⟩ : ∃ u, u = ((wd.setCell ⟨w.heap.size, 0, none⟩ (.string nm)).setCell ⟨w.heap.size, 1, none⟩ (.int .i64 (st : Int))).setCell ⟨w.heap.size, 2, none⟩ (.slice A2 m c2) := ⟨_, rfl⟩
      rw [← hwA] at R1 Y1 X1 K1 J1 D1 HB1 HO1
      refine wpAnyH_ready (rs := [4]) (by kernel_rfl) (by simp) ?_
      refine AllReadyH.cons (o := _) rfl (fun K0 hK0 => ?_) AllReadyH.nil
      go_simp
      try rw [← hwA]
      refine hK0.out _ _ (cS.out _ K1 J1 D1) (fun hHeld1 => ?_)
      clear hK0 K0 rc0 rc1 rc2 rf0 rf1 rf2 R Q X K J D hHeld hwA q1
      (try simp only [Act.put, List.setIfInBounds_toArray, List.set_cons_zero, List.set_cons_succ])
      have yc0 := Y1.cell 0; have yc1 := Y1.cell 1
      have yf0 := Y1.frozen 0; have yf1 := Y1.frozen 1
      simp only [List.getElem?_cons_zero, List.getElem?_cons_succ] at yc0 yc1
      have q2 := sets2_grown wA (w.heap.size + 1) (.string kb) (.string ks)
      have R2 := R1.grown q2 (fun e => by injection e with e; omega)
      have Y2 := (Y1.set_ 0 (.string kb)).set_ 1 (.string ks)
      have X2 := X1.grown q2 (fun e => by injection e with e; omega)
      have K2 := K1.grown q2 (fun e => by injection e with e; omega)
      have J2 := J1.grown q2 (fun e => by injection e with e; omega)
      have D2 := D1.grown q2 (fun e => by injection e with e; omega)
      have HB2 := Lib.hid (HB1.out.grown q2 HB1.out.size (fun k e => by injection e with e; omega))
      have HO2 := Lib.hid (HO1.out.past q2 (by omega))
      obtain ⟨wB, hwB⟩ : ∃ u, u = (wA.setCell ⟨w.heap.size + 1, 0, none⟩ (.string kb)).setCell ⟨w.heap.size + 1, 1, none⟩ (.string ks) := ⟨_, rfl⟩
      rw [← hwB] at R2 Y2 X2 K2 J2 D2 HB2 HO2
      refine wpAnyH_ready (rs := [5]) (by kernel_rfl) (by simp) ?_
      refine AllReadyH.cons (o := _) rfl (fun K0 hK0 => ?_) AllReadyH.nil
      go_simp
      try rw [← hwB]
      refine hK0.out _ _ (cS.out _ K2 J2 D2) (fun hHeld2 => ?_)
      clear hK0 K0 yc0 yc1 yf0 yf1 hHeld1 hwB q2 R1 Y1 X1 K1 J1 D1 HB1 HO1
      (try simp only [Act.put, List.setIfInBounds_toArray, List.set_cons_zero, List.set_cons_succ])
      refine wpAnyH_ready (rs := [6]) (by kernel_rfl) (by simp) ?_
      refine AllReadyH.cons (o := _) rfl (fun K0 hK0 => ?_) AllReadyH.nil
      go_simp
      refine hK0.out _ _ (cS.out _ K2 J2 D2) (fun hHeld3 => ?_)
      clear hK0 K0 hHeld2
      (try simp only [Act.put, List.setIfInBounds_toArray, List.set_cons_zero, List.set_cons_succ])
      have xc0 := X2.cell 0; have xc1 := X2.cell 1; have xc2 := X2.cell 2
      have xf0 := X2.frozen 0; have xf1 := X2.frozen 1; have xf2 := X2.frozen 2
      simp only [List.getElem?_cons_zero, List.getElem?_cons_succ] at xc0 xc1 xc2
      have q3 := sets3_grown wB (w.heap.size + 1 + 1) (.string s) (.int .i64 x5) (.int .i64 (k8 - 1))
      have R3 := R2.grown q3 (fun e => by injection e with e; omega)
      have Y3 := Y2.grown q3 (fun e => by injection e with e; omega)
      have X3 := ((X2.set_ 0 (.string s)).set_ 1 (.int .i64 x5)).set_ 2 (.int .i64 (k8 - 1))
      have K3 := K2.grown q3 (fun e => by injection e with e; omega)
      have J3 := J2.grown q3 (fun e => by injection e with e; omega)
      have D3 := D2.grown q3 (fun e => by injection e with e; omega)
      have HB3 := Lib.hid (HB2.out.grown q3 HB2.out.size (fun k e => by injection e with e; omega))
      have HO3 := Lib.hid (HO2.out.past q3 (by omega))
      obtain ⟨wC, hwC⟩ : ∃ u, u = ((wB.setCell ⟨w.heap.size + 1 + 1, 0, none⟩ (.string s)).setCell ⟨w.heap.size + 1 + 1, 1, none⟩ (.int .i64 x5)).setCell ⟨w.heap.size + 1 + 1, 2, none⟩ (.int .i64 (k8 - 1)) := ⟨_, rfl⟩
      rw [← hwC] at R3 Y3 X3 K3 J3 D3 HB3 HO3
      refine wpAnyH_ready (rs := [7]) (by kernel_rfl) (by simp) ?_
      refine AllReadyH.cons (o := _) rfl (fun K0 hK0 => ?_) AllReadyH.nil
      go_simp
      try rw [← hwC]
      refine hK0.out _ _ (cS.out _ K3 J3 D3) (fun hHeld4 => ?_)
      clear hK0 K0 xc0 xc1 xc2 xf0 xf1 xf2 hHeld3 hwC q3
      (try simp only [Act.put, List.setIfInBounds_toArray, List.set_cons_zero, List.set_cons_succ])
      refine wpAnyH_done (by kernel_rfl) ?_ _
      (try simp only [Act.put, List.setIfInBounds_toArray, List.set_cons_zero, List.set_cons_succ])
      have u0 := R3.cell 0; have u1 := R3.cell 1; have u2 := R3.cell 2
      have v0 := Y3.cell 0; have v1 := Y3.cell 1
      have t0 := X3.cell 0; have t1 := X3.cell 1; have t2 := X3.cell 2
      simp only [List.set_cons_zero, List.set_cons_succ, List.getElem?_cons_zero, List.getElem?_cons_succ] at u0 u1 u2 v0 v1 t0 t1 t2
      clear R2 Y2 X2 R3 Y3 X3 K2 J2 D2 K3 J3 D3 HC HB2 HO2 hHeld4
      rename_i aK
      refine aK _ _ ?_
      refine wp_ret ?_
      refine bodyPost_ret (v := .tuple #[.agg #[.string nm, .int .i64 (st : Int), .slice A2 m c2], .agg #[.string kb, .string ks], .int .i64 (N : Nat), .agg #[.string s, .int .i64 x5, .int .i64 (k8 - 1)]]) (by simp [results, Tryz.results9, go_sem, u0, u1, u2, v0, v1, t0, t1, t2]) rfl ?_
      exact ⟨nm, st, A2, m, c2, L, kb, ks, N, s, x5, (k8 - 1), rfl, HDR.out, zkb, zks, by omega, by omega, HO3.out.base_le (by omega), HB3.out⟩
    · skip
      go_wp2_with fail
      refine (cur_pick HH.out HB.out hp0 HC.out (by omega) (by decide) (by decide)).mono ?_; rintro e w2 ⟨k8, rfl, ⟨k80, k81⟩, hc10, hg10⟩
      replace R := R.grown hg10 (fun e => by injection e with e; omega)
      replace Q := Q.grown hg10 (fun e => by injection e with e; omega)
      replace X := X.grown hg10 (fun e => by injection e with e; omega)
      replace K := K.grown hg10 (fun e => by injection e with e; omega)
      replace J := J.grown hg10 (fun e => by injection e with e; omega)
      replace D := D.grown hg10 (fun e => by injection e with e; omega)
      replace HO := Lib.hid (HO.out.kept hg10 (fun k hk e => by injection e with e; have := HLB.out k hk; omega))
      replace HB := Lib.hid (grown_below HB.out hp0 hg10)
      replace HC := Lib.hid hc10
      clear hg10 hc10
      have dc0 := D.cell 0; have dc1 := D.cell 1; have dc2 := D.cell 2
      simp only [List.getElem?_cons_zero, List.getElem?_cons_succ] at dc0 dc1 dc2
      have df0 := D.frozen 0; have df1 := D.frozen 1; have df2 := D.frozen 2
      go_upto_region 14 with fail
      clear dc0 dc1 dc2 df0 df1 df2
      have gs : w2.grownBy (w2.setCell ⟨dx, 1, none⟩ (.int .i64 k8)) (some dx) := only_set _ (p := ⟨dx, 1, none⟩) _
      replace K := K.grown gs (fun e => by injection e with e; omega)
      replace J := J.grown gs (fun e => by injection e with e; omega)
      replace R := R.grown gs (fun e => by injection e with e; omega)
      replace Q := Q.grown gs (fun e => by injection e with e; omega)
      replace X := X.grown gs (fun e => by injection e with e; omega)
      replace D := D.set_ 1 (.int .i64 k8)
      simp only [List.set_cons_zero, List.set_cons_succ] at D
      replace HO := Lib.hid (HO.out.kept gs (fun k hk e => by injection e with e; have := HLB.out k hk; omega))
      replace HC := Lib.hid (HC.out.grown gs (fun e => by injection e with e; omega))
      replace HB := Lib.hid (HB.out.grown gs HB.out.size (fun k e => by injection e with e; omega))
      obtain ⟨w3, hw3⟩ : ∃ u, u = w2.setCell ⟨dx, 1, none⟩ (.int .i64 k8) := ⟨_, rfl⟩
      rw [← hw3] at K J R Q X D HO HC HB ⊢
      clear hw3 gs
      have aD : Below w3.heap.size w3 w3.drew := (Below.refl _ _).drew
      replace R := R.up aD
      replace Q := Q.up aD
      replace X := X.up aD
      replace K := K.up aD
      replace J := J.up aD
      replace D := D.up aD
      replace HO := Lib.hid (HO.out.up aD)
      replace HB := Lib.hid (below_go HB.out aD)
      replace HC := Lib.hid (HC.out.up aD)
      clear aD
      have cS : Hid (∀ u : World, Blk u b 25 [.string nm, .int .i64 (st : Int), .slice A2 m c2] → Blk u (b + 1) 27 [.string kb, .string ks] → Blk u dx 29 [.string s, .int .i64 k8, .int .i64 0] → (u.cell? ⟨b, 0, none⟩ = some (.string nm) ∧ u.cell? ⟨b, 1, none⟩ = some (.int .i64 (st : Int)) ∧ u.cell? ⟨b, 2, none⟩ = some (.slice A2 m c2)) ∧ (u.cell? ⟨b + 1, 0, none⟩ = some (.string kb) ∧ u.cell? ⟨b + 1, 1, none⟩ = some (.string ks)) ∧ u.cell? ⟨dx, 0, none⟩ = some (.string s) ∧ u.cell? ⟨dx, 1, none⟩ = some (.int .i64 k8) ∧ u.cell? ⟨dx, 2, none⟩ = some (.int .i64 0)) := Lib.hid (fun u L0 L1 L2 => ⟨⟨by simpa using L0.cell 0, by simpa using L0.cell 1, by simpa using L0.cell 2⟩, ⟨by simpa using L1.cell 0, by simpa using L1.cell 1⟩, by simpa using L2.cell 0, by simpa using L2.cell 1, by simpa using L2.cell 2⟩)
      refine wp_region_held_drew (S := fun u => (u.cell? ⟨b, 0, none⟩ = some (.string nm) ∧ u.cell? ⟨b, 1, none⟩ = some (.int .i64 (st : Int)) ∧ u.cell? ⟨b, 2, none⟩ = some (.slice A2 m c2)) ∧ (u.cell? ⟨b + 1, 0, none⟩ = some (.string kb) ∧ u.cell? ⟨b + 1, 1, none⟩ = some (.string ks)) ∧ u.cell? ⟨dx, 0, none⟩ = some (.string s) ∧ u.cell? ⟨dx, 1, none⟩ = some (.int .i64 k8) ∧ u.cell? ⟨dx, 2, none⟩ = some (.int .i64 0)) (by kernel_rfl) (cS.out _ K J D) (fun hHeld => ?_)
      refine wpAnyH_take (i := 0) (oi := { dst := some 78, op := _, type := _, pos := _, after := _, guard := _ }) (v := ?_) rfl (by kernel_rfl) (by kernel_rfl) (by kernel_rfl) (fun _ _ _ h => h) (Or.inl ⟨by rfl, ?_⟩) (by assumption) ?_
      rotate_left
      · (intro w hSw; (try dsimp only at hSw); go_simp) <;> with_reducible rfl
      (try simp only [Act.put, List.setIfInBounds_toArray, List.set_cons_zero, List.set_cons_succ])
      refine wpAnyH_take (i := 1) (oi := { dst := some 79, op := _, type := _, pos := _, after := _, guard := _ }) (v := ?_) rfl (by kernel_rfl) (by kernel_rfl) (by kernel_rfl) (fun _ _ _ h => h) (Or.inl ⟨by rfl, ?_⟩) (by assumption) ?_
      rotate_left
      · (intro w hSw; (try dsimp only at hSw); go_simp) <;> with_reducible rfl
      (try simp only [Act.put, List.setIfInBounds_toArray, List.set_cons_zero, List.set_cons_succ])
      refine wpAnyH_take (i := 2) (oi := { dst := some 80, op := _, type := _, pos := _, after := _, guard := _ }) (v := ?_) rfl (by kernel_rfl) (by kernel_rfl) (by kernel_rfl) (fun _ _ _ h => h) (Or.inl ⟨by rfl, ?_⟩) (by assumption) ?_
      rotate_left
      · (intro w hSw; (try dsimp only at hSw); go_simp) <;> with_reducible rfl
      (try simp only [Act.put, List.setIfInBounds_toArray, List.set_cons_zero, List.set_cons_succ])
      refine wpAnyH_take (i := 3) (oi := { dst := some 81, op := _, type := _, pos := _, after := _, guard := _ }) (v := ?_) rfl (by kernel_rfl) (by kernel_rfl) (by kernel_rfl) (fun _ _ _ h => h) (Or.inl ⟨by rfl, ?_⟩) (by assumption) ?_
      rotate_left
      · (intro w hSw; (try dsimp only at hSw); go_simp) <;> with_reducible rfl
      (try simp only [Act.put, List.setIfInBounds_toArray, List.set_cons_zero, List.set_cons_succ])
      obtain ⟨wd, hwd⟩ : ∃ u, u = w3.drew := ⟨_, rfl⟩
      rw [← hwd] at K J R Q X D HO HC HB hHeld ⊢
      clear hwd
      have rc0 := R.cell 0; have rc1 := R.cell 1; have rc2 := R.cell 2
      have rf0 := R.frozen 0; have rf1 := R.frozen 1; have rf2 := R.frozen 2
      simp only [List.getElem?_cons_zero, List.getElem?_cons_succ] at rc0 rc1 rc2
      have q1 := sets3_grown wd w.heap.size (.string nm) (.int .i64 (st : Int)) (.slice A2 m c2)
      have R1 := ((R.set_ 0 (.string nm)).set_ 1 (.int .i64 (st : Int))).set_ 2 (.slice A2 m c2)
      have Y1 := Q.grown q1 (fun e => by injection e with e; omega)
      have X1 := X.grown q1 (fun e => by injection e with e; omega)
      have K1 := K.grown q1 (fun e => by injection e with e; omega)
      have J1 := J.grown q1 (fun e => by injection e with e; omega)
      have D1 := D.grown q1 (fun e => by injection e with e; omega)
      have hbs := HB.out.size
      have HB1 := Lib.hid (HB.out.grown q1 hbs (fun k e => by injection e with e; omega))
      have HO1 := Lib.hid (HO.out.past q1 (by omega))
      obtain ⟨wA, hwA⟩ : ∃ u, u = ((wd.setCell ⟨w.heap.size, 0, none⟩ (.string nm)).setCell ⟨w.heap.size, 1, none⟩ (.int .i64 (st : Int))).setCell ⟨w.heap.size, 2, none⟩ (.slice A2 m c2) := ⟨_, rfl⟩
      rw [← hwA] at R1 Y1 X1 K1 J1 D1 HB1 HO1
      refine wpAnyH_ready (rs := [4]) (by kernel_rfl) (by simp) ?_
      refine AllReadyH.cons (o := _) rfl (fun K0 hK0 => ?_) AllReadyH.nil
      go_simp
      try rw [← hwA]
      refine hK0.out _ _ (cS.out _ K1 J1 D1) (fun hHeld1 => ?_)
      clear hK0 K0 rc0 rc1 rc2 rf0 rf1 rf2 R Q X K J D hHeld hwA q1
      (try simp only [Act.put, List.setIfInBounds_toArray, List.set_cons_zero, List.set_cons_succ])
      have yc0 := Y1.cell 0; have yc1 := Y1.cell 1
      have yf0 := Y1.frozen 0; have yf1 := Y1.frozen 1
      simp only [List.getElem?_cons_zero, List.getElem?_cons_succ] at yc0 yc1
      have q2 := sets2_grown wA (w.heap.size + 1) (.string kb) (.string ks)
      have R2 := R1.grown q2 (fun e => by injection e with e; omega)
      have Y2 := (Y1.set_ 0 (.string kb)).set_ 1 (.string ks)
      have X2 := X1.grown q2 (fun e => by injection e with e; omega)
      have K2 := K1.grown q2 (fun e => by injection e with e; omega)
      have J2 := J1.grown q2 (fun e => by injection e with e; omega)
      have D2 := D1.grown q2 (fun e => by injection e with e; omega)
      have HB2 := Lib.hid (HB1.out.grown q2 HB1.out.size (fun k e => by injection e with e; omega))
      have HO2 := Lib.hid (HO1.out.past q2 (by omega))
      obtain ⟨wB, hwB⟩ : ∃ u, u = (wA.setCell ⟨w.heap.size + 1, 0, none⟩ (.string kb)).setCell ⟨w.heap.size + 1, 1, none⟩ (.string ks) := ⟨_, rfl⟩
      rw [← hwB] at R2 Y2 X2 K2 J2 D2 HB2 HO2
      refine wpAnyH_ready (rs := [5]) (by kernel_rfl) (by simp) ?_
      refine AllReadyH.cons (o := _) rfl (fun K0 hK0 => ?_) AllReadyH.nil
      go_simp
      try rw [← hwB]
      refine hK0.out _ _ (cS.out _ K2 J2 D2) (fun hHeld2 => ?_)
      clear hK0 K0 yc0 yc1 yf0 yf1 hHeld1 hwB q2 R1 Y1 X1 K1 J1 D1 HB1 HO1
      (try simp only [Act.put, List.setIfInBounds_toArray, List.set_cons_zero, List.set_cons_succ])
      refine wpAnyH_ready (rs := [6]) (by kernel_rfl) (by simp) ?_
      refine AllReadyH.cons (o := _) rfl (fun K0 hK0 => ?_) AllReadyH.nil
      go_simp
      refine hK0.out _ _ (cS.out _ K2 J2 D2) (fun hHeld3 => ?_)
      clear hK0 K0 hHeld2
      (try simp only [Act.put, List.setIfInBounds_toArray, List.set_cons_zero, List.set_cons_succ])
      have xc0 := X2.cell 0; have xc1 := X2.cell 1; have xc2 := X2.cell 2
      have xf0 := X2.frozen 0; have xf1 := X2.frozen 1; have xf2 := X2.frozen 2
      simp only [List.getElem?_cons_zero, List.getElem?_cons_succ] at xc0 xc1 xc2
      have q3 := sets3_grown wB (w.heap.size + 1 + 1) (.string s) (.int .i64 k8) (.int .i64 0)
      have R3 := R2.grown q3 (fun e => by injection e with e; omega)
      have Y3 := Y2.grown q3 (fun e => by injection e with e; omega)
      have X3 := ((X2.set_ 0 (.string s)).set_ 1 (.int .i64 k8)).set_ 2 (.int .i64 0)
      have K3 := K2.grown q3 (fun e => by injection e with e; omega)
      have J3 := J2.grown q3 (fun e => by injection e with e; omega)
      have D3 := D2.grown q3 (fun e => by injection e with e; omega)
      have HB3 := Lib.hid (HB2.out.grown q3 HB2.out.size (fun k e => by injection e with e; omega))
      have HO3 := Lib.hid (HO2.out.past q3 (by omega))
      obtain ⟨wC, hwC⟩ : ∃ u, u = ((wB.setCell ⟨w.heap.size + 1 + 1, 0, none⟩ (.string s)).setCell ⟨w.heap.size + 1 + 1, 1, none⟩ (.int .i64 k8)).setCell ⟨w.heap.size + 1 + 1, 2, none⟩ (.int .i64 0) := ⟨_, rfl⟩
      rw [← hwC] at R3 Y3 X3 K3 J3 D3 HB3 HO3
      refine wpAnyH_ready (rs := [7]) (by kernel_rfl) (by simp) ?_
      refine AllReadyH.cons (o := _) rfl (fun K0 hK0 => ?_) AllReadyH.nil
      go_simp
      try rw [← hwC]
      refine hK0.out _ _ (cS.out _ K3 J3 D3) (fun hHeld4 => ?_)
      clear hK0 K0 xc0 xc1 xc2 xf0 xf1 xf2 hHeld3 hwC q3
      (try simp only [Act.put, List.setIfInBounds_toArray, List.set_cons_zero, List.set_cons_succ])
      refine wpAnyH_done (by kernel_rfl) ?_ _
      (try simp only [Act.put, List.setIfInBounds_toArray, List.set_cons_zero, List.set_cons_succ])
      have u0 := R3.cell 0; have u1 := R3.cell 1; have u2 := R3.cell 2
      have v0 := Y3.cell 0; have v1 := Y3.cell 1
      have t0 := X3.cell 0; have t1 := X3.cell 1; have t2 := X3.cell 2
      simp only [List.set_cons_zero, List.set_cons_succ, List.getElem?_cons_zero, List.getElem?_cons_succ] at u0 u1 u2 v0 v1 t0 t1 t2
      clear R2 Y2 X2 R3 Y3 X3 K2 J2 D2 K3 J3 D3 HC HB2 HO2 hHeld4
      rename_i aK
      refine aK _ _ ?_
      refine wp_ret ?_
      refine bodyPost_ret (v := .tuple #[.agg #[.string nm, .int .i64 (st : Int), .slice A2 m c2], .agg #[.string kb, .string ks], .int .i64 (N : Nat), .agg #[.string s, .int .i64 k8, .int .i64 0]]) (by simp [results, Tryz.results9, go_sem, u0, u1, u2, v0, v1, t0, t1, t2]) rfl ?_
      exact ⟨nm, st, A2, m, c2, L, kb, ks, N, s, k8, 0, rfl, HDR.out, zkb, zks, by omega, by omega, HO3.out.base_le (by omega), HB3.out⟩
    · skip
      have dc0 := D.cell 0; have dc1 := D.cell 1; have dc2 := D.cell 2
      simp only [List.getElem?_cons_zero, List.getElem?_cons_succ] at dc0 dc1 dc2
      have df0 := D.frozen 0; have df1 := D.frozen 1; have df2 := D.frozen 2
      go_wp2_with fail
      refine (cur_spoilt (t := s) (v := ⟨#[112, 98, 115, 120]⟩) (B := 10) HH.out HB.out hp0 HC.out (by omega) (by omega) (by decide) (by decide) (by decide)).mono ?_; rintro e w2 ⟨sp, rfl, hsp, hc10, hg10⟩
      clear dc0 dc1 dc2 df0 df1 df2
      replace R := R.grown hg10 (fun e => by injection e with e; omega)
      replace Q := Q.grown hg10 (fun e => by injection e with e; omega)
      replace X := X.grown hg10 (fun e => by injection e with e; omega)
      replace K := K.grown hg10 (fun e => by injection e with e; omega)
      replace J := J.grown hg10 (fun e => by injection e with e; omega)
      replace D := D.grown hg10 (fun e => by injection e with e; omega)
      replace HO := Lib.hid (HO.out.kept hg10 (fun k hk e => by injection e with e; have := HLB.out k hk; omega))
      replace HB := Lib.hid (grown_below HB.out hp0 hg10)
      replace HC := Lib.hid hc10
      clear hg10 hc10
      have dc0 := D.cell 0; have dc1 := D.cell 1; have dc2 := D.cell 2
      simp only [List.getElem?_cons_zero, List.getElem?_cons_succ] at dc0 dc1 dc2
      have df0 := D.frozen 0; have df1 := D.frozen 1; have df2 := D.frozen 2
      go_upto_region 14 with fail
      clear dc0 dc1 dc2 df0 df1 df2
      have gs : w2.grownBy (w2.setCell ⟨dx, 0, none⟩ (.string sp)) (some dx) := only_set _ (p := ⟨dx, 0, none⟩) _
      replace K := K.grown gs (fun e => by injection e with e; omega)
      replace J := J.grown gs (fun e => by injection e with e; omega)
      replace R := R.grown gs (fun e => by injection e with e; omega)
      replace Q := Q.grown gs (fun e => by injection e with e; omega)
      replace X := X.grown gs (fun e => by injection e with e; omega)
      replace D := D.set_ 0 (.string sp)
      simp only [List.set_cons_zero, List.set_cons_succ] at D
      replace HO := Lib.hid (HO.out.kept gs (fun k hk e => by injection e with e; have := HLB.out k hk; omega))
      replace HC := Lib.hid (HC.out.grown gs (fun e => by injection e with e; omega))
      replace HB := Lib.hid (HB.out.grown gs HB.out.size (fun k e => by injection e with e; omega))
      obtain ⟨w3, hw3⟩ : ∃ u, u = w2.setCell ⟨dx, 0, none⟩ (.string sp) := ⟨_, rfl⟩
      rw [← hw3] at K J R Q X D HO HC HB ⊢
      clear hw3 gs
      have aD : Below w3.heap.size w3 w3.drew := (Below.refl _ _).drew
      replace R := R.up aD
      replace Q := Q.up aD
      replace X := X.up aD
      replace K := K.up aD
      replace J := J.up aD
      replace D := D.up aD
      replace HO := Lib.hid (HO.out.up aD)
      replace HB := Lib.hid (below_go HB.out aD)
      replace HC := Lib.hid (HC.out.up aD)
      clear aD
      have cS : Hid (∀ u : World, Blk u b 25 [.string nm, .int .i64 (st : Int), .slice A2 m c2] → Blk u (b + 1) 27 [.string kb, .string ks] → Blk u dx 29 [.string sp, .int .i64 x5, .int .i64 0] → (u.cell? ⟨b, 0, none⟩ = some (.string nm) ∧ u.cell? ⟨b, 1, none⟩ = some (.int .i64 (st : Int)) ∧ u.cell? ⟨b, 2, none⟩ = some (.slice A2 m c2)) ∧ (u.cell? ⟨b + 1, 0, none⟩ = some (.string kb) ∧ u.cell? ⟨b + 1, 1, none⟩ = some (.string ks)) ∧ u.cell? ⟨dx, 0, none⟩ = some (.string sp) ∧ u.cell? ⟨dx, 1, none⟩ = some (.int .i64 x5) ∧ u.cell? ⟨dx, 2, none⟩ = some (.int .i64 0)) := Lib.hid (fun u L0 L1 L2 => ⟨⟨by simpa using L0.cell 0, by simpa using L0.cell 1, by simpa using L0.cell 2⟩, ⟨by simpa using L1.cell 0, by simpa using L1.cell 1⟩, by simpa using L2.cell 0, by simpa using L2.cell 1, by simpa using L2.cell 2⟩)
      refine wp_region_held_drew (S := fun u => (u.cell? ⟨b, 0, none⟩ = some (.string nm) ∧ u.cell? ⟨b, 1, none⟩ = some (.int .i64 (st : Int)) ∧ u.cell? ⟨b, 2, none⟩ = some (.slice A2 m c2)) ∧ (u.cell? ⟨b + 1, 0, none⟩ = some (.string kb) ∧ u.cell? ⟨b + 1, 1, none⟩ = some (.string ks)) ∧ u.cell? ⟨dx, 0, none⟩ = some (.string sp) ∧ u.cell? ⟨dx, 1, none⟩ = some (.int .i64 x5) ∧ u.cell? ⟨dx, 2, none⟩ = some (.int .i64 0)) (by kernel_rfl) (cS.out _ K J D) (fun hHeld => ?_)
      refine wpAnyH_take (i := 0) (oi := { dst := some 78, op := _, type := _, pos := _, after := _, guard := _ }) (v := ?_) rfl (by kernel_rfl) (by kernel_rfl) (by kernel_rfl) (fun _ _ _ h => h) (Or.inl ⟨by rfl, ?_⟩) (by assumption) ?_
      rotate_left
      · (intro w hSw; (try dsimp only at hSw); go_simp) <;> with_reducible rfl
      (try simp only [Act.put, List.setIfInBounds_toArray, List.set_cons_zero, List.set_cons_succ])
      refine wpAnyH_take (i := 1) (oi := { dst := some 79, op := _, type := _, pos := _, after := _, guard := _ }) (v := ?_) rfl (by kernel_rfl) (by kernel_rfl) (by kernel_rfl) (fun _ _ _ h => h) (Or.inl ⟨by rfl, ?_⟩) (by assumption) ?_
      rotate_left
      · (intro w hSw; (try dsimp only at hSw); go_simp) <;> with_reducible rfl
      (try simp only [Act.put, List.setIfInBounds_toArray, List.set_cons_zero, List.set_cons_succ])
      refine wpAnyH_take (i := 2) (oi := { dst := some 80, op := _, type := _, pos := _, after := _, guard := _ }) (v := ?_) rfl (by kernel_rfl) (by kernel_rfl) (by kernel_rfl) (fun _ _ _ h => h) (Or.inl ⟨by rfl, ?_⟩) (by assumption) ?_
      rotate_left
      · (intro w hSw; (try dsimp only at hSw); go_simp) <;> with_reducible rfl
      (try simp only [Act.put, List.setIfInBounds_toArray, List.set_cons_zero, List.set_cons_succ])
      refine wpAnyH_take (i := 3) (oi := { dst := some 81, op := _, type := _, pos := _, after := _, guard := _ }) (v := ?_) rfl (by kernel_rfl) (by kernel_rfl) (by kernel_rfl) (fun _ _ _ h => h) (Or.inl ⟨by rfl, ?_⟩) (by assumption) ?_
      rotate_left
      · (intro w hSw; (try dsimp only at hSw); go_simp) <;> with_reducible rfl
      (try simp only [Act.put, List.setIfInBounds_toArray, List.set_cons_zero, List.set_cons_succ])
      obtain ⟨wd, hwd⟩ : ∃ u, u = w3.drew := ⟨_, rfl⟩
      rw [← hwd] at K J R Q X D HO HC HB hHeld ⊢
      clear hwd
      have rc0 := R.cell 0; have rc1 := R.cell 1; have rc2 := R.cell 2
      have rf0 := R.frozen 0; have rf1 := R.frozen 1; have rf2 := R.frozen 2
      simp only [List.getElem?_cons_zero, List.getElem?_cons_succ] at rc0 rc1 rc2
      have q1 := sets3_grown wd w.heap.size (.string nm) (.int .i64 (st : Int)) (.slice A2 m c2)
      have R1 := ((R.set_ 0 (.string nm)).set_ 1 (.int .i64 (st : Int))).set_ 2 (.slice A2 m c2)
      have Y1 := Q.grown q1 (fun e => by injection e with e; omega)
      have X1 := X.grown q1 (fun e => by injection e with e; omega)
      have K1 := K.grown q1 (fun e => by injection e with e; omega)
      have J1 := J.grown q1 (fun e => by injection e with e; omega)
      have D1 := D.grown q1 (fun e => by injection e with e; omega)
      have hbs := HB.out.size
      have HB1 := Lib.hid (HB.out.grown q1 hbs (fun k e => by injection e with e; omega))
      have HO1 := Lib.hid (HO.out.past q1 (by omega))
      obtain ⟨wA, hwA⟩ : ∃ u, u = ((wd.setCell ⟨w.heap.size, 0, none⟩ (.string nm)).setCell ⟨w.heap.size, 1, none⟩ (.int .i64 (st : Int))).setCell ⟨w.heap.size, 2, none⟩ (.slice A2 m c2) := ⟨_, rfl⟩
      rw [← hwA] at R1 Y1 X1 K1 J1 D1 HB1 HO1
      refine wpAnyH_ready (rs := [4]) (by kernel_rfl) (by simp) ?_
      refine AllReadyH.cons (o := _) rfl (fun K0 hK0 => ?_) AllReadyH.nil
      go_simp
      try rw [← hwA]
      refine hK0.out _ _ (cS.out _ K1 J1 D1) (fun hHeld1 => ?_)
      clear hK0 K0 rc0 rc1 rc2 rf0 rf1 rf2 R Q X K J D hHeld hwA q1
      (try simp only [Act.put, List.setIfInBounds_toArray, List.set_cons_zero, List.set_cons_succ])
      have yc0 := Y1.cell 0; have yc1 := Y1.cell 1
      have yf0 := Y1.frozen 0; have yf1 := Y1.frozen 1
      simp only [List.getElem?_cons_zero, List.getElem?_cons_succ] at yc0 yc1
      have q2 := sets2_grown wA (w.heap.size + 1) (.string kb) (.string ks)
      have R2 := R1.grown q2 (fun e => by injection e with e; omega)
      have Y2 := (Y1.set_ 0 (.string kb)).set_ 1 (.string ks)
      have X2 := X1.grown q2 (fun e => by injection e with e; omega)
      have K2 := K1.grown q2 (fun e => by injection e with e; omega)
      have J2 := J1.grown q2 (fun e => by injection e with e; omega)
      have D2 := D1.grown q2 (fun e => by injection e with e; omega)
      have HB2 := Lib.hid (HB1.out.grown q2 HB1.out.size (fun k e => by injection e with e; omega))
      have HO2 := Lib.hid (HO1.out.past q2 (by omega))
      obtain ⟨wB, hwB⟩ : ∃ u, u = (wA.setCell ⟨w.heap.size + 1, 0, none⟩ (.string kb)).setCell ⟨w.heap.size + 1, 1, none⟩ (.string ks) := ⟨_, rfl⟩
      rw [← hwB] at R2 Y2 X2 K2 J2 D2 HB2 HO2
      refine wpAnyH_ready (rs := [5]) (by kernel_rfl) (by simp) ?_
      refine AllReadyH.cons (o := _) rfl (fun K0 hK0 => ?_) AllReadyH.nil
      go_simp
      try rw [← hwB]
      refine hK0.out _ _ (cS.out _ K2 J2 D2) (fun hHeld2 => ?_)
      clear hK0 K0 yc0 yc1 yf0 yf1 hHeld1 hwB q2 R1 Y1 X1 K1 J1 D1 HB1 HO1
      (try simp only [Act.put, List.setIfInBounds_toArray, List.set_cons_zero, List.set_cons_succ])
      refine wpAnyH_ready (rs := [6]) (by kernel_rfl) (by simp) ?_
      refine AllReadyH.cons (o := _) rfl (fun K0 hK0 => ?_) AllReadyH.nil
      go_simp
      refine hK0.out _ _ (cS.out _ K2 J2 D2) (fun hHeld3 => ?_)
      clear hK0 K0 hHeld2
      (try simp only [Act.put, List.setIfInBounds_toArray, List.set_cons_zero, List.set_cons_succ])
      have xc0 := X2.cell 0; have xc1 := X2.cell 1; have xc2 := X2.cell 2
      have xf0 := X2.frozen 0; have xf1 := X2.frozen 1; have xf2 := X2.frozen 2
      simp only [List.getElem?_cons_zero, List.getElem?_cons_succ] at xc0 xc1 xc2
      have q3 := sets3_grown wB (w.heap.size + 1 + 1) (.string sp) (.int .i64 x5) (.int .i64 0)
      have R3 := R2.grown q3 (fun e => by injection e with e; omega)
      have Y3 := Y2.grown q3 (fun e => by injection e with e; omega)
      have X3 := ((X2.set_ 0 (.string sp)).set_ 1 (.int .i64 x5)).set_ 2 (.int .i64 0)
      have K3 := K2.grown q3 (fun e => by injection e with e; omega)
      have J3 := J2.grown q3 (fun e => by injection e with e; omega)
      have D3 := D2.grown q3 (fun e => by injection e with e; omega)
      have HB3 := Lib.hid (HB2.out.grown q3 HB2.out.size (fun k e => by injection e with e; omega))
      have HO3 := Lib.hid (HO2.out.past q3 (by omega))
      obtain ⟨wC, hwC⟩ : ∃ u, u = ((wB.setCell ⟨w.heap.size + 1 + 1, 0, none⟩ (.string sp)).setCell ⟨w.heap.size + 1 + 1, 1, none⟩ (.int .i64 x5)).setCell ⟨w.heap.size + 1 + 1, 2, none⟩ (.int .i64 0) := ⟨_, rfl⟩
      rw [← hwC] at R3 Y3 X3 K3 J3 D3 HB3 HO3
      refine wpAnyH_ready (rs := [7]) (by kernel_rfl) (by simp) ?_
      refine AllReadyH.cons (o := _) rfl (fun K0 hK0 => ?_) AllReadyH.nil
      go_simp
      try rw [← hwC]
      refine hK0.out _ _ (cS.out _ K3 J3 D3) (fun hHeld4 => ?_)
      clear hK0 K0 xc0 xc1 xc2 xf0 xf1 xf2 hHeld3 hwC q3
      (try simp only [Act.put, List.setIfInBounds_toArray, List.set_cons_zero, List.set_cons_succ])
      refine wpAnyH_done (by kernel_rfl) ?_ _
      (try simp only [Act.put, List.setIfInBounds_toArray, List.set_cons_zero, List.set_cons_succ])
      have u0 := R3.cell 0; have u1 := R3.cell 1; have u2 := R3.cell 2
      have v0 := Y3.cell 0; have v1 := Y3.cell 1
      have t0 := X3.cell 0; have t1 := X3.cell 1; have t2 := X3.cell 2
      simp only [List.set_cons_zero, List.set_cons_succ, List.getElem?_cons_zero, List.getElem?_cons_succ] at u0 u1 u2 v0 v1 t0 t1 t2
      clear R2 Y2 X2 R3 Y3 X3 K2 J2 D2 K3 J3 D3 HC HB2 HO2 hHeld4
      rename_i aK
      refine aK _ _ ?_
      refine wp_ret ?_
      refine bodyPost_ret (v := .tuple #[.agg #[.string nm, .int .i64 (st : Int), .slice A2 m c2], .agg #[.string kb, .string ks], .int .i64 (N : Nat), .agg #[.string sp, .int .i64 x5, .int .i64 0]]) (by simp [results, Tryz.results9, go_sem, u0, u1, u2, v0, v1, t0, t1, t2]) rfl ?_
      exact ⟨nm, st, A2, m, c2, L, kb, ks, N, sp, x5, 0, rfl, HDR.out, zkb, zks, by omega, by omega, HO3.out.base_le (by omega), HB3.out⟩
    · skip
      have n0 : (k7 == 0) = false := by rw [beq_eq_false_iff_ne]; omega
      have n1 : (k7 == 1) = false := by rw [beq_eq_false_iff_ne]; omega
      have n2 : (k7 == 2) = false := by rw [beq_eq_false_iff_ne]; omega
      go_upto_region 14 with fail
      clear n0 n1 n2
      have aD : Below w1.heap.size w1 w1.drew := (Below.refl _ _).drew
      replace R := R.up aD
      replace Q := Q.up aD
      replace X := X.up aD
      replace K := K.up aD
      replace J := J.up aD
      replace D := D.up aD
      replace HO := Lib.hid (HO.out.up aD)
      replace HB := Lib.hid (below_go HB.out aD)
      replace HC := Lib.hid (HC.out.up aD)
      clear aD
      have cS : Hid (∀ u : World, Blk u b 25 [.string nm, .int .i64 (st : Int), .slice A2 m c2] → Blk u (b + 1) 27 [.string kb, .string ks] → Blk u dx 29 [.string s, .int .i64 x5, .int .i64 0] → (u.cell? ⟨b, 0, none⟩ = some (.string nm) ∧ u.cell? ⟨b, 1, none⟩ = some (.int .i64 (st : Int)) ∧ u.cell? ⟨b, 2, none⟩ = some (.slice A2 m c2)) ∧ (u.cell? ⟨b + 1, 0, none⟩ = some (.string kb) ∧ u.cell? ⟨b + 1, 1, none⟩ = some (.string ks)) ∧ u.cell? ⟨dx, 0, none⟩ = some (.string s) ∧ u.cell? ⟨dx, 1, none⟩ = some (.int .i64 x5) ∧ u.cell? ⟨dx, 2, none⟩ = some (.int .i64 0)) := Lib.hid (fun u L0 L1 L2 => ⟨⟨by simpa using L0.cell 0, by simpa using L0.cell 1, by simpa using L0.cell 2⟩, ⟨by simpa using L1.cell 0, by simpa using L1.cell 1⟩, by simpa using L2.cell 0, by simpa using L2.cell 1, by simpa using L2.cell 2⟩)
      refine wp_region_held_drew (S := fun u => (u.cell? ⟨b, 0, none⟩ = some (.string nm) ∧ u.cell? ⟨b, 1, none⟩ = some (.int .i64 (st : Int)) ∧ u.cell? ⟨b, 2, none⟩ = some (.slice A2 m c2)) ∧ (u.cell? ⟨b + 1, 0, none⟩ = some (.string kb) ∧ u.cell? ⟨b + 1, 1, none⟩ = some (.string ks)) ∧ u.cell? ⟨dx, 0, none⟩ = some (.string s) ∧ u.cell? ⟨dx, 1, none⟩ = some (.int .i64 x5) ∧ u.cell? ⟨dx, 2, none⟩ = some (.int .i64 0)) (by kernel_rfl) (cS.out _ K J D) (fun hHeld => ?_)
      refine wpAnyH_take (i := 0) (oi := { dst := some 78, op := _, type := _, pos := _, after := _, guard := _ }) (v := ?_) rfl (by kernel_rfl) (by kernel_rfl) (by kernel_rfl) (fun _ _ _ h => h) (Or.inl ⟨by rfl, ?_⟩) (by assumption) ?_
      rotate_left
      · (intro w hSw; (try dsimp only at hSw); go_simp) <;> with_reducible rfl
      (try simp only [Act.put, List.setIfInBounds_toArray, List.set_cons_zero, List.set_cons_succ])
      refine wpAnyH_take (i := 1) (oi := { dst := some 79, op := _, type := _, pos := _, after := _, guard := _ }) (v := ?_) rfl (by kernel_rfl) (by kernel_rfl) (by kernel_rfl) (fun _ _ _ h => h) (Or.inl ⟨by rfl, ?_⟩) (by assumption) ?_
      rotate_left
      · (intro w hSw; (try dsimp only at hSw); go_simp) <;> with_reducible rfl
      (try simp only [Act.put, List.setIfInBounds_toArray, List.set_cons_zero, List.set_cons_succ])
      refine wpAnyH_take (i := 2) (oi := { dst := some 80, op := _, type := _, pos := _, after := _, guard := _ }) (v := ?_) rfl (by kernel_rfl) (by kernel_rfl) (by kernel_rfl) (fun _ _ _ h => h) (Or.inl ⟨by rfl, ?_⟩) (by assumption) ?_
      rotate_left
      · (intro w hSw; (try dsimp only at hSw); go_simp) <;> with_reducible rfl
      (try simp only [Act.put, List.setIfInBounds_toArray, List.set_cons_zero, List.set_cons_succ])
      refine wpAnyH_take (i := 3) (oi := { dst := some 81, op := _, type := _, pos := _, after := _, guard := _ }) (v := ?_) rfl (by kernel_rfl) (by kernel_rfl) (by kernel_rfl) (fun _ _ _ h => h) (Or.inl ⟨by rfl, ?_⟩) (by assumption) ?_
      rotate_left
      · (intro w hSw; (try dsimp only at hSw); go_simp) <;> with_reducible rfl
      (try simp only [Act.put, List.setIfInBounds_toArray, List.set_cons_zero, List.set_cons_succ])
      obtain ⟨wd, hwd⟩ : ∃ u, u = w1.drew := ⟨_, rfl⟩
      rw [← hwd] at K J R Q X D HO HC HB hHeld ⊢
      clear hwd
      have rc0 := R.cell 0; have rc1 := R.cell 1; have rc2 := R.cell 2
      have rf0 := R.frozen 0; have rf1 := R.frozen 1; have rf2 := R.frozen 2
      simp only [List.getElem?_cons_zero, List.getElem?_cons_succ] at rc0 rc1 rc2
      have q1 := sets3_grown wd w.heap.size (.string nm) (.int .i64 (st : Int)) (.slice A2 m c2)
      have R1 := ((R.set_ 0 (.string nm)).set_ 1 (.int .i64 (st : Int))).set_ 2 (.slice A2 m c2)
      have Y1 := Q.grown q1 (fun e => by injection e with e; omega)
      have X1 := X.grown q1 (fun e => by injection e with e; omega)
      have K1 := K.grown q1 (fun e => by injection e with e; omega)
      have J1 := J.grown q1 (fun e => by injection e with e; omega)
      have D1 := D.grown q1 (fun e => by injection e with e; omega)
      have hbs := HB.out.size
      have HB1 := Lib.hid (HB.out.grown q1 hbs (fun k e => by injection e with e; omega))
      have HO1 := Lib.hid (HO.out.past q1 (by omega))
      obtain ⟨wA, hwA⟩ : ∃ u, u = ((wd.setCell ⟨w.heap.size, 0, none⟩ (.string nm)).setCell ⟨w.heap.size, 1, none⟩ (.int .i64 (st : Int))).setCell ⟨w.heap.size, 2, none⟩ (.slice A2 m c2) := ⟨_, rfl⟩
      rw [← hwA] at R1 Y1 X1 K1 J1 D1 HB1 HO1
      refine wpAnyH_ready (rs := [4]) (by kernel_rfl) (by simp) ?_
      refine AllReadyH.cons (o := _) rfl (fun K0 hK0 => ?_) AllReadyH.nil
      go_simp
      try rw [← hwA]
      refine hK0.out _ _ (cS.out _ K1 J1 D1) (fun hHeld1 => ?_)
      clear hK0 K0 rc0 rc1 rc2 rf0 rf1 rf2 R Q X K J D hHeld hwA q1
      (try simp only [Act.put, List.setIfInBounds_toArray, List.set_cons_zero, List.set_cons_succ])
      have yc0 := Y1.cell 0; have yc1 := Y1.cell 1
      have yf0 := Y1.frozen 0; have yf1 := Y1.frozen 1
      simp only [List.getElem?_cons_zero, List.getElem?_cons_succ] at yc0 yc1
      have q2 := sets2_grown wA (w.heap.size + 1) (.string kb) (.string ks)
      have R2 := R1.grown q2 (fun e => by injection e with e; omega)
      have Y2 := (Y1.set_ 0 (.string kb)).set_ 1 (.string ks)
      have X2 := X1.grown q2 (fun e => by injection e with e; omega)
      have K2 := K1.grown q2 (fun e => by injection e with e; omega)
      have J2 := J1.grown q2 (fun e => by injection e with e; omega)
      have D2 := D1.grown q2 (fun e => by injection e with e; omega)
      have HB2 := Lib.hid (HB1.out.grown q2 HB1.out.size (fun k e => by injection e with e; omega))
      have HO2 := Lib.hid (HO1.out.past q2 (by omega))
      obtain ⟨wB, hwB⟩ : ∃ u, u = (wA.setCell ⟨w.heap.size + 1, 0, none⟩ (.string kb)).setCell ⟨w.heap.size + 1, 1, none⟩ (.string ks) := ⟨_, rfl⟩
      rw [← hwB] at R2 Y2 X2 K2 J2 D2 HB2 HO2
      refine wpAnyH_ready (rs := [5]) (by kernel_rfl) (by simp) ?_
      refine AllReadyH.cons (o := _) rfl (fun K0 hK0 => ?_) AllReadyH.nil
      go_simp
      try rw [← hwB]
      refine hK0.out _ _ (cS.out _ K2 J2 D2) (fun hHeld2 => ?_)
      clear hK0 K0 yc0 yc1 yf0 yf1 hHeld1 hwB q2 R1 Y1 X1 K1 J1 D1 HB1 HO1
      (try simp only [Act.put, List.setIfInBounds_toArray, List.set_cons_zero, List.set_cons_succ])
      refine wpAnyH_ready (rs := [6]) (by kernel_rfl) (by simp) ?_
      refine AllReadyH.cons (o := _) rfl (fun K0 hK0 => ?_) AllReadyH.nil
      go_simp
      refine hK0.out _ _ (cS.out _ K2 J2 D2) (fun hHeld3 => ?_)
      clear hK0 K0 hHeld2
      (try simp only [Act.put, List.setIfInBounds_toArray, List.set_cons_zero, List.set_cons_succ])
      have xc0 := X2.cell 0; have xc1 := X2.cell 1; have xc2 := X2.cell 2
      have xf0 := X2.frozen 0; have xf1 := X2.frozen 1; have xf2 := X2.frozen 2
      simp only [List.getElem?_cons_zero, List.getElem?_cons_succ] at xc0 xc1 xc2
      have q3 := sets3_grown wB (w.heap.size + 1 + 1) (.string s) (.int .i64 x5) (.int .i64 0)
      have R3 := R2.grown q3 (fun e => by injection e with e; omega)
      have Y3 := Y2.grown q3 (fun e => by injection e with e; omega)
      have X3 := ((X2.set_ 0 (.string s)).set_ 1 (.int .i64 x5)).set_ 2 (.int .i64 0)
      have K3 := K2.grown q3 (fun e => by injection e with e; omega)
      have J3 := J2.grown q3 (fun e => by injection e with e; omega)
      have D3 := D2.grown q3 (fun e => by injection e with e; omega)
      have HB3 := Lib.hid (HB2.out.grown q3 HB2.out.size (fun k e => by injection e with e; omega))
      have HO3 := Lib.hid (HO2.out.past q3 (by omega))
      obtain ⟨wC, hwC⟩ : ∃ u, u = ((wB.setCell ⟨w.heap.size + 1 + 1, 0, none⟩ (.string s)).setCell ⟨w.heap.size + 1 + 1, 1, none⟩ (.int .i64 x5)).setCell ⟨w.heap.size + 1 + 1, 2, none⟩ (.int .i64 0) := ⟨_, rfl⟩
      rw [← hwC] at R3 Y3 X3 K3 J3 D3 HB3 HO3
      refine wpAnyH_ready (rs := [7]) (by kernel_rfl) (by simp) ?_
      refine AllReadyH.cons (o := _) rfl (fun K0 hK0 => ?_) AllReadyH.nil
      go_simp
      try rw [← hwC]
      refine hK0.out _ _ (cS.out _ K3 J3 D3) (fun hHeld4 => ?_)
      clear hK0 K0 xc0 xc1 xc2 xf0 xf1 xf2 hHeld3 hwC q3
      (try simp only [Act.put, List.setIfInBounds_toArray, List.set_cons_zero, List.set_cons_succ])
      refine wpAnyH_done (by kernel_rfl) ?_ _
      (try simp only [Act.put, List.setIfInBounds_toArray, List.set_cons_zero, List.set_cons_succ])
      have u0 := R3.cell 0; have u1 := R3.cell 1; have u2 := R3.cell 2
      have v0 := Y3.cell 0; have v1 := Y3.cell 1
      have t0 := X3.cell 0; have t1 := X3.cell 1; have t2 := X3.cell 2
      simp only [List.set_cons_zero, List.set_cons_succ, List.getElem?_cons_zero, List.getElem?_cons_succ] at u0 u1 u2 v0 v1 t0 t1 t2
      clear R2 Y2 X2 R3 Y3 X3 K2 J2 D2 K3 J3 D3 HC HB2 HO2 hHeld4
      rename_i aK
      refine aK _ _ ?_
      refine wp_ret ?_
      refine bodyPost_ret (v := .tuple #[.agg #[.string nm, .int .i64 (st : Int), .slice A2 m c2], .agg #[.string kb, .string ks], .int .i64 (N : Nat), .agg #[.string s, .int .i64 x5, .int .i64 0]]) (by simp [results, Tryz.results9, go_sem, u0, u1, u2, v0, v1, t0, t1, t2]) rfl ?_
      exact ⟨nm, st, A2, m, c2, L, kb, ks, N, s, x5, 0, rfl, HDR.out, zkb, zks, by omega, by omega, HO3.out.base_le (by omega), HB3.out⟩
  · skip
    by_cases h0 : nC = 0
    · have hI : ¬ (0 : Int) < (nC : Int) := by omega
      clear h0
      have fc1 := F.cell 1
      simp only [List.getElem?_cons_zero, List.getElem?_cons_succ] at fc1
      go_upto_region 7 with fail
      clear fc1 F hI
      go_wp2_with fail
      refine (cur_pick HH.out HB.out hp0 HC.out (by omega) (by decide) (by decide)).mono ?_; rintro e w1 ⟨k7, rfl, ⟨k70, k71⟩, hc9, hg9⟩
      replace R := R.grown hg9 (fun e => by injection e with e; omega)
      replace Q := Q.grown hg9 (fun e => by injection e with e; omega)
      replace X := X.grown hg9 (fun e => by injection e with e; omega)
      replace K := K.grown hg9 (fun e => by injection e with e; omega)
      replace J := J.grown hg9 (fun e => by injection e with e; omega)
      replace D := D.grown hg9 (fun e => by injection e with e; omega)
      replace HO := Lib.hid (HO.out.kept hg9 (fun k hk e => by injection e with e; have := HLB.out k hk; omega))
      replace HB := Lib.hid (grown_below HB.out hp0 hg9)
      replace HC := Lib.hid hc9
      clear hg9 hc9
      have h4 : k7 = 0 ∨ k7 = 1 ∨ k7 = 2 ∨ 3 ≤ k7 := by omega
      clear k71
      rcases h4 with rfl | rfl | rfl | h4
      · skip
        go_wp2_with fail
        refine (cur_pick HH.out HB.out hp0 HC.out (by omega) (by decide) (by decide)).mono ?_; rintro e w2 ⟨k8, rfl, ⟨k80, k81⟩, hc10, hg10⟩
        replace R := R.grown hg10 (fun e => by injection e with e; omega)
        replace Q := Q.grown hg10 (fun e => by injection e with e; omega)
        replace X := X.grown hg10 (fun e => by injection e with e; omega)
        replace K := K.grown hg10 (fun e => by injection e with e; omega)
        replace J := J.grown hg10 (fun e => by injection e with e; omega)
        replace D := D.grown hg10 (fun e => by injection e with e; omega)
        replace HO := Lib.hid (HO.out.kept hg10 (fun k hk e => by injection e with e; have := HLB.out k hk; omega))
        replace HB := Lib.hid (grown_below HB.out hp0 hg10)
        replace HC := Lib.hid hc10
        clear hg10 hc10
        have dc0 := D.cell 0; have dc1 := D.cell 1; have dc2 := D.cell 2
        simp only [List.getElem?_cons_zero, List.getElem?_cons_succ] at dc0 dc1 dc2
        have df0 := D.frozen 0; have df1 := D.frozen 1; have df2 := D.frozen 2
        have hwk : IntKind.i64.wrap (k8 - 1) = k8 - 1 := wrap_id (by omega)
        go_upto_region 14 with fail
        clear dc0 dc1 dc2 df0 df1 df2 hwk
        have gs : w2.grownBy (w2.setCell ⟨dx, 2, none⟩ (.int .i64 (k8 - 1))) (some dx) := only_set _ (p := ⟨dx, 2, none⟩) _
        replace K := K.grown gs (fun e => by injection e with e; omega)
        replace J := J.grown gs (fun e => by injection e with e; omega)
        replace R := R.grown gs (fun e => by injection e with e; omega)
        replace Q := Q.grown gs (fun e => by injection e with e; omega)
        replace X := X.grown gs (fun e => by injection e with e; omega)
        replace D := D.set_ 2 (.int .i64 (k8 - 1))
        simp only [List.set_cons_zero, List.set_cons_succ] at D
        replace HO := Lib.hid (HO.out.kept gs (fun k hk e => by injection e with e; have := HLB.out k hk; omega))
        replace HC := Lib.hid (HC.out.grown gs (fun e => by injection e with e; omega))
        replace HB := Lib.hid (HB.out.grown gs HB.out.size (fun k e => by injection e with e; omega))
        obtain ⟨w3, hw3⟩ : ∃ u, u = w2.setCell ⟨dx, 2, none⟩ (.int .i64 (k8 - 1)) := ⟨_, rfl⟩
        rw [← hw3] at K J R Q X D HO HC HB ⊢
        clear hw3 gs
        have aD : Below w3.heap.size w3 w3.drew := (Below.refl _ _).drew
        replace R := R.up aD
        replace Q := Q.up aD
        replace X := X.up aD
        replace K := K.up aD
        replace J := J.up aD
        replace D := D.up aD
        replace HO := Lib.hid (HO.out.up aD)
        replace HB := Lib.hid (below_go HB.out aD)
        replace HC := Lib.hid (HC.out.up aD)
        clear aD
        have cS : Hid (∀ u : World, Blk u b 25 [.string nm, .int .i64 (st : Int), .slice A2 m c2] → Blk u (b + 1) 27 [.string kb, .string ks] → Blk u dx 29 [.string s, .int .i64 x5, .int .i64 (k8 - 1)] → (u.cell? ⟨b, 0, none⟩ = some (.string nm) ∧ u.cell? ⟨b, 1, none⟩ = some (.int .i64 (st : Int)) ∧ u.cell? ⟨b, 2, none⟩ = some (.slice A2 m c2)) ∧ (u.cell? ⟨b + 1, 0, none⟩ = some (.string kb) ∧ u.cell? ⟨b + 1, 1, none⟩ = some (.string ks)) ∧ u.cell? ⟨dx, 0, none⟩ = some (.string s) ∧ u.cell? ⟨dx, 1, none⟩ = some (.int .i64 x5) ∧ u.cell? ⟨dx, 2, none⟩ = some (.int .i64 (k8 - 1))) := Lib.hid (fun u L0 L1 L2 => ⟨⟨by simpa using L0.cell 0, by simpa using L0.cell 1, by simpa using L0.cell 2⟩, ⟨by simpa using L1.cell 0, by simpa using L1.cell 1⟩, by simpa using L2.cell 0, by simpa using L2.cell 1, by simpa using L2.cell 2⟩)
        refine wp_region_held_drew (S := fun u => (u.cell? ⟨b, 0, none⟩ = some (.string nm) ∧ u.cell? ⟨b, 1, none⟩ = some (.int .i64 (st : Int)) ∧ u.cell? ⟨b, 2, none⟩ = some (.slice A2 m c2)) ∧ (u.cell? ⟨b + 1, 0, none⟩ = some (.string kb) ∧ u.cell? ⟨b + 1, 1, none⟩ = some (.string ks)) ∧ u.cell? ⟨dx, 0, none⟩ = some (.string s) ∧ u.cell? ⟨dx, 1, none⟩ = some (.int .i64 x5) ∧ u.cell? ⟨dx, 2, none⟩ = some (.int .i64 (k8 - 1))) (by kernel_rfl) (cS.out _ K J D) (fun hHeld => ?_)
        refine wpAnyH_take (i := 0) (oi := { dst := some 78, op := _, type := _, pos := _, after := _, guard := _ }) (v := ?_) rfl (by kernel_rfl) (by kernel_rfl) (by kernel_rfl) (fun _ _ _ h => h) (Or.inl ⟨by rfl, ?_⟩) (by assumption) ?_
        rotate_left
        · (intro w hSw; (try dsimp only at hSw); go_simp) <;> with_reducible rfl
        (try simp only [Act.put, List.setIfInBounds_toArray, List.set_cons_zero, List.set_cons_succ])
        refine wpAnyH_take (i := 1) (oi := { dst := some 79, op := _, type := _, pos := _, after := _, guard := _ }) (v := ?_) rfl (by kernel_rfl) (by kernel_rfl) (by kernel_rfl) (fun _ _ _ h => h) (Or.inl ⟨by rfl, ?_⟩) (by assumption) ?_
        rotate_left
        · (intro w hSw; (try dsimp only at hSw); go_simp) <;> with_reducible rfl
        (try simp only [Act.put, List.setIfInBounds_toArray, List.set_cons_zero, List.set_cons_succ])
        refine wpAnyH_take (i := 2) (oi := { dst := some 80, op := _, type := _, pos := _, after := _, guard := _ }) (v := ?_) rfl (by kernel_rfl) (by kernel_rfl) (by kernel_rfl) (fun _ _ _ h => h) (Or.inl ⟨by rfl, ?_⟩) (by assumption) ?_
        rotate_left
        · (intro w hSw; (try dsimp only at hSw); go_simp) <;> with_reducible rfl
        (try simp only [Act.put, List.setIfInBounds_toArray, List.set_cons_zero, List.set_cons_succ])
        refine wpAnyH_take (i := 3) (oi := { dst := some 81, op := _, type := _, pos := _, after := _, guard := _ }) (v := ?_) rfl (by kernel_rfl) (by kernel_rfl) (by kernel_rfl) (fun _ _ _ h => h) (Or.inl ⟨by rfl, ?_⟩) (by assumption) ?_
        rotate_left
        · (intro w hSw; (try dsimp only at hSw); go_simp) <;> with_reducible rfl
        (try simp only [Act.put, List.setIfInBounds_toArray, List.set_cons_zero, List.set_cons_succ])
        obtain ⟨wd, hwd⟩ : ∃ u, u = w3.drew := ⟨_, rfl⟩
        rw [← hwd] at K J R Q X D HO HC HB hHeld ⊢
        clear hwd
        have rc0 := R.cell 0; have rc1 := R.cell 1; have rc2 := R.cell 2
        have rf0 := R.frozen 0; have rf1 := R.frozen 1; have rf2 := R.frozen 2
        simp only [List.getElem?_cons_zero, List.getElem?_cons_succ] at rc0 rc1 rc2
        have q1 := sets3_grown wd w.heap.size (.string nm) (.int .i64 (st : Int)) (.slice A2 m c2)
        have R1 := ((R.set_ 0 (.string nm)).set_ 1 (.int .i64 (st : Int))).set_ 2 (.slice A2 m c2)
        have Y1 := Q.grown q1 (fun e => by injection e with e; omega)
        have X1 := X.grown q1 (fun e => by injection e with e; omega)
        have K1 := K.grown q1 (fun e => by injection e with e; omega)
        have J1 := J.grown q1 (fun e => by injection e with e; omega)
        have D1 := D.grown q1 (fun e => by injection e with e; omega)
        have hbs := HB.out.size
        have HB1 := Lib.hid (HB.out.grown q1 hbs (fun k e => by injection e with e; omega))
        have HO1 := Lib.hid (HO.out.past q1 (by omega))
        obtain ⟨wA, hwA⟩ : ∃ u, u = ((wd.setCell ⟨w.heap.size, 0, none⟩ (.string nm)).setCell ⟨w.heap.size, 1, none⟩ (.int .i64 (st : Int))).setCell ⟨w.heap.size, 2, none⟩ (.slice A2 m c2) := ⟨_, rfl⟩
        rw [← hwA] at R1 Y1 X1 K1 J1 D1 HB1 HO1
        refine wpAnyH_ready (rs := [4]) (by kernel_rfl) (by simp) ?_
        refine AllReadyH.cons (o := _) rfl (fun K0 hK0 => ?_) AllReadyH.nil
        go_simp
        try rw [← hwA]
        refine hK0.out _ _ (cS.out _ K1 J1 D1) (fun hHeld1 => ?_)
        clear hK0 K0 rc0 rc1 rc2 rf0 rf1 rf2 R Q X K J D hHeld hwA q1
        (try simp only [Act.put, List.setIfInBounds_toArray, List.set_cons_zero, List.set_cons_succ])
        have yc0 := Y1.cell 0; have yc1 := Y1.cell 1
        have yf0 := Y1.frozen 0; have yf1 := Y1.frozen 1
        simp only [List.getElem?_cons_zero, List.getElem?_cons_succ] at yc0 yc1
        have q2 := sets2_grown wA (w.heap.size + 1) (.string kb) (.string ks)
        have R2 := R1.grown q2 (fun e => by injection e with e; omega)
        have Y2 := (Y1.set_ 0 (.string kb)).set_ 1 (.string ks)
        have X2 := X1.grown q2 (fun e => by injection e with e; omega)
        have K2 := K1.grown q2 (fun e => by injection e with e; omega)
        have J2 := J1.grown q2 (fun e => by injection e with e; omega)
        have D2 := D1.grown q2 (fun e => by injection e with e; omega)
        have HB2 := Lib.hid (HB1.out.grown q2 HB1.out.size (fun k e => by injection e with e; omega))
        have HO2 := Lib.hid (HO1.out.past q2 (by omega))
        obtain ⟨wB, hwB⟩ : ∃ u, u = (wA.setCell ⟨w.heap.size + 1, 0, none⟩ (.string kb)).setCell ⟨w.heap.size + 1, 1, none⟩ (.string ks) := ⟨_, rfl⟩
        rw [← hwB] at R2 Y2 X2 K2 J2 D2 HB2 HO2
        refine wpAnyH_ready (rs := [5]) (by kernel_rfl) (by simp) ?_
        refine AllReadyH.cons (o := _) rfl (fun K0 hK0 => ?_) AllReadyH.nil
        go_simp
        try rw [← hwB]
        refine hK0.out _ _ (cS.out _ K2 J2 D2) (fun hHeld2 => ?_)
        clear hK0 K0 yc0 yc1 yf0 yf1 hHeld1 hwB q2 R1 Y1 X1 K1 J1 D1 HB1 HO1
        (try simp only [Act.put, List.setIfInBounds_toArray, List.set_cons_zero, List.set_cons_succ])
        refine wpAnyH_ready (rs := [6]) (by kernel_rfl) (by simp) ?_
        refine AllReadyH.cons (o := _) rfl (fun K0 hK0 => ?_) AllReadyH.nil
        go_simp
        refine hK0.out _ _ (cS.out _ K2 J2 D2) (fun hHeld3 => ?_)
        clear hK0 K0 hHeld2
        (try simp only [Act.put, List.setIfInBounds_toArray, List.set_cons_zero, List.set_cons_succ])
        have xc0 := X2.cell 0; have xc1 := X2.cell 1; have xc2 := X2.cell 2
        have xf0 := X2.frozen 0; have xf1 := X2.frozen 1; have xf2 := X2.frozen 2
        simp only [List.getElem?_cons_zero, List.getElem?_cons_succ] at xc0 xc1 xc2
        have q3 := sets3_grown wB (w.heap.size + 1 + 1) (.string s) (.int .i64 x5) (.int .i64 (k8 - 1))
        have R3 := R2.grown q3 (fun e => by injection e with e; omega)
        have Y3 := Y2.grown q3 (fun e => by injection e with e; omega)
        have X3 := ((X2.set_ 0 (.string s)).set_ 1 (.int .i64 x5)).set_ 2 (.int .i64 (k8 - 1))
        have K3 := K2.grown q3 (fun e => by injection e with e; omega)
        have J3 := J2.grown q3 (fun e => by injection e with e; omega)
        have D3 := D2.grown q3 (fun e => by injection e with e; omega)
        have HB3 := Lib.hid (HB2.out.grown q3 HB2.out.size (fun k e => by injection e with e; omega))
        have HO3 := Lib.hid (HO2.out.past q3 (by omega))
        obtain ⟨wC, hwC⟩ : ∃ u, u = ((wB.setCell ⟨w.heap.size + 1 + 1, 0, none⟩ (.string s)).setCell ⟨w.heap.size + 1 + 1, 1, none⟩ (.int .i64 x5)).setCell ⟨w.heap.size + 1 + 1, 2, none⟩ (.int .i64 (k8 - 1)) := ⟨_, rfl⟩
        rw [← hwC] at R3 Y3 X3 K3 J3 D3 HB3 HO3
        refine wpAnyH_ready (rs := [7]) (by kernel_rfl) (by simp) ?_
        refine AllReadyH.cons (o := _) rfl (fun K0 hK0 => ?_) AllReadyH.nil
        go_simp
        try rw [← hwC]
        refine hK0.out _ _ (cS.out _ K3 J3 D3) (fun hHeld4 => ?_)
        clear hK0 K0 xc0 xc1 xc2 xf0 xf1 xf2 hHeld3 hwC q3
        (try simp only [Act.put, List.setIfInBounds_toArray, List.set_cons_zero, List.set_cons_succ])
        refine wpAnyH_done (by kernel_rfl) ?_ _
        (try simp only [Act.put, List.setIfInBounds_toArray, List.set_cons_zero, List.set_cons_succ])
        have u0 := R3.cell 0; have u1 := R3.cell 1; have u2 := R3.cell 2
        have v0 := Y3.cell 0; have v1 := Y3.cell 1
        have t0 := X3.cell 0; have t1 := X3.cell 1; have t2 := X3.cell 2
        simp only [List.set_cons_zero, List.set_cons_succ, List.getElem?_cons_zero, List.getElem?_cons_succ] at u0 u1 u2 v0 v1 t0 t1 t2
        clear R2 Y2 X2 R3 Y3 X3 K2 J2 D2 K3 J3 D3 HC HB2 HO2 hHeld4
        rename_i aK
        refine aK _ _ ?_
        refine wp_ret ?_
        refine bodyPost_ret (v := .tuple #[.agg #[.string nm, .int .i64 (st : Int), .slice A2 m c2], .agg #[.string kb, .string ks], .int .i64 (N : Nat), .agg #[.string s, .int .i64 x5, .int .i64 (k8 - 1)]]) (by simp [results, Tryz.results9, go_sem, u0, u1, u2, v0, v1, t0, t1, t2]) rfl ?_
        exact ⟨nm, st, A2, m, c2, L, kb, ks, N, s, x5, (k8 - 1), rfl, HDR.out, zkb, zks, by omega, by omega, HO3.out.base_le (by omega), HB3.out⟩
      · skip
        go_wp2_with fail
        refine (cur_pick HH.out HB.out hp0 HC.out (by omega) (by decide) (by decide)).mono ?_; rintro e w2 ⟨k8, rfl, ⟨k80, k81⟩, hc10, hg10⟩
        replace R := R.grown hg10 (fun e => by injection e with e; omega)
        replace Q := Q.grown hg10 (fun e => by injection e with e; omega)
        replace X := X.grown hg10 (fun e => by injection e with e; omega)
        replace K := K.grown hg10 (fun e => by injection e with e; omega)
        replace J := J.grown hg10 (fun e => by injection e with e; omega)
        replace D := D.grown hg10 (fun e => by injection e with e; omega)
        replace HO := Lib.hid (HO.out.kept hg10 (fun k hk e => by injection e with e; have := HLB.out k hk; omega))
        replace HB := Lib.hid (grown_below HB.out hp0 hg10)
        replace HC := Lib.hid hc10
        clear hg10 hc10
        have dc0 := D.cell 0; have dc1 := D.cell 1; have dc2 := D.cell 2
        simp only [List.getElem?_cons_zero, List.getElem?_cons_succ] at dc0 dc1 dc2
        have df0 := D.frozen 0; have df1 := D.frozen 1; have df2 := D.frozen 2
        go_upto_region 14 with fail
        clear dc0 dc1 dc2 df0 df1 df2
        have gs : w2.grownBy (w2.setCell ⟨dx, 1, none⟩ (.int .i64 k8)) (some dx) := only_set _ (p := ⟨dx, 1, none⟩) _
        replace K := K.grown gs (fun e => by injection e with e; omega)
        replace J := J.grown gs (fun e => by injection e with e; omega)
        replace R := R.grown gs (fun e => by injection e with e; omega)
        replace Q := Q.grown gs (fun e => by injection e with e; omega)
        replace X := X.grown gs (fun e => by injection e with e; omega)
        replace D := D.set_ 1 (.int .i64 k8)
        simp only [List.set_cons_zero, List.set_cons_succ] at D
        replace HO := Lib.hid (HO.out.kept gs (fun k hk e => by injection e with e; have := HLB.out k hk; omega))
        replace HC := Lib.hid (HC.out.grown gs (fun e => by injection e with e; omega))
        replace HB := Lib.hid (HB.out.grown gs HB.out.size (fun k e => by injection e with e; omega))
        obtain ⟨w3, hw3⟩ : ∃ u, u = w2.setCell ⟨dx, 1, none⟩ (.int .i64 k8) := ⟨_, rfl⟩
        rw [← hw3] at K J R Q X D HO HC HB ⊢
        clear hw3 gs
        have aD : Below w3.heap.size w3 w3.drew := (Below.refl _ _).drew
        replace R := R.up aD
        replace Q := Q.up aD
        replace X := X.up aD
        replace K := K.up aD
        replace J := J.up aD
        replace D := D.up aD
        replace HO := Lib.hid (HO.out.up aD)
        replace HB := Lib.hid (below_go HB.out aD)
        replace HC := Lib.hid (HC.out.up aD)
        clear aD
        have cS : Hid (∀ u : World, Blk u b 25 [.string nm, .int .i64 (st : Int), .slice A2 m c2] → Blk u (b + 1) 27 [.string kb, .string ks] → Blk u dx 29 [.string s, .int .i64 k8, .int .i64 0] → (u.cell? ⟨b, 0, none⟩ = some (.string nm) ∧ u.cell? ⟨b, 1, none⟩ = some (.int .i64 (st : Int)) ∧ u.cell? ⟨b, 2, none⟩ = some (.slice A2 m c2)) ∧ (u.cell? ⟨b + 1, 0, none⟩ = some (.string kb) ∧ u.cell? ⟨b + 1, 1, none⟩ = some (.string ks)) ∧ u.cell? ⟨dx, 0, none⟩ = some (.string s) ∧ u.cell? ⟨dx, 1, none⟩ = some (.int .i64 k8) ∧ u.cell? ⟨dx, 2, none⟩ = some (.int .i64 0)) := Lib.hid (fun u L0 L1 L2 => ⟨⟨by simpa using L0.cell 0, by simpa using L0.cell 1, by simpa using L0.cell 2⟩, ⟨by simpa using L1.cell 0, by simpa using L1.cell 1⟩, by simpa using L2.cell 0, by simpa using L2.cell 1, by simpa using L2.cell 2⟩)
        refine wp_region_held_drew (S := fun u => (u.cell? ⟨b, 0, none⟩ = some (.string nm) ∧ u.cell? ⟨b, 1, none⟩ = some (.int .i64 (st : Int)) ∧ u.cell? ⟨b, 2, none⟩ = some (.slice A2 m c2)) ∧ (u.cell? ⟨b + 1, 0, none⟩ = some (.string kb) ∧ u.cell? ⟨b + 1, 1, none⟩ = some (.string ks)) ∧ u.cell? ⟨dx, 0, none⟩ = some (.string s) ∧ u.cell? ⟨dx, 1, none⟩ = some (.int .i64 k8) ∧ u.cell? ⟨dx, 2, none⟩ = some (.int .i64 0)) (by kernel_rfl) (cS.out _ K J D) (fun hHeld => ?_)
        refine wpAnyH_take (i := 0) (oi := { dst := some 78, op := _, type := _, pos := _, after := _, guard := _ }) (v := ?_) rfl (by kernel_rfl) (by kernel_rfl) (by kernel_rfl) (fun _ _ _ h => h) (Or.inl ⟨by rfl, ?_⟩) (by assumption) ?_
        rotate_left
        · (intro w hSw; (try dsimp only at hSw); go_simp) <;> with_reducible rfl
        (try simp only [Act.put, List.setIfInBounds_toArray, List.set_cons_zero, List.set_cons_succ])
        refine wpAnyH_take (i := 1) (oi := { dst := some 79, op := _, type := _, pos := _, after := _, guard := _ }) (v := ?_) rfl (by kernel_rfl) (by kernel_rfl) (by kernel_rfl) (fun _ _ _ h => h) (Or.inl ⟨by rfl, ?_⟩) (by assumption) ?_
        rotate_left
        · (intro w hSw; (try dsimp only at hSw); go_simp) <;> with_reducible rfl
        (try simp only [Act.put, List.setIfInBounds_toArray, List.set_cons_zero, List.set_cons_succ])
        refine wpAnyH_take (i := 2) (oi := { dst := some 80, op := _, type := _, pos := _, after := _, guard := _ }) (v := ?_) rfl (by kernel_rfl) (by kernel_rfl) (by kernel_rfl) (fun _ _ _ h => h) (Or.inl ⟨by rfl, ?_⟩) (by assumption) ?_
        rotate_left
        · (intro w hSw; (try dsimp only at hSw); go_simp) <;> with_reducible rfl
        (try simp only [Act.put, List.setIfInBounds_toArray, List.set_cons_zero, List.set_cons_succ])
        refine wpAnyH_take (i := 3) (oi := { dst := some 81, op := _, type := _, pos := _, after := _, guard := _ }) (v := ?_) rfl (by kernel_rfl) (by kernel_rfl) (by kernel_rfl) (fun _ _ _ h => h) (Or.inl ⟨by rfl, ?_⟩) (by assumption) ?_
        rotate_left
        · (intro w hSw; (try dsimp only at hSw); go_simp) <;> with_reducible rfl
        (try simp only [Act.put, List.setIfInBounds_toArray, List.set_cons_zero, List.set_cons_succ])
        obtain ⟨wd, hwd⟩ : ∃ u, u = w3.drew := ⟨_, rfl⟩
        rw [← hwd] at K J R Q X D HO HC HB hHeld ⊢
        clear hwd
        have rc0 := R.cell 0; have rc1 := R.cell 1; have rc2 := R.cell 2
        have rf0 := R.frozen 0; have rf1 := R.frozen 1; have rf2 := R.frozen 2
        simp only [List.getElem?_cons_zero, List.getElem?_cons_succ] at rc0 rc1 rc2
        have q1 := sets3_grown wd w.heap.size (.string nm) (.int .i64 (st : Int)) (.slice A2 m c2)
        have R1 := ((R.set_ 0 (.string nm)).set_ 1 (.int .i64 (st : Int))).set_ 2 (.slice A2 m c2)
        have Y1 := Q.grown q1 (fun e => by injection e with e; omega)
        have X1 := X.grown q1 (fun e => by injection e with e; omega)
        have K1 := K.grown q1 (fun e => by injection e with e; omega)
        have J1 := J.grown q1 (fun e => by injection e with e; omega)
        have D1 := D.grown q1 (fun e => by injection e with e; omega)
        have hbs := HB.out.size
        have HB1 := Lib.hid (HB.out.grown q1 hbs (fun k e => by injection e with e; omega))
        have HO1 := Lib.hid (HO.out.past q1 (by omega))
        obtain ⟨wA, hwA⟩ : ∃ u, u = ((wd.setCell ⟨w.heap.size, 0, none⟩ (.string nm)).setCell ⟨w.heap.size, 1, none⟩ (.int .i64 (st : Int))).setCell ⟨w.heap.size, 2, none⟩ (.slice A2 m c2) := ⟨_, rfl⟩
        rw [← hwA] at R1 Y1 X1 K1 J1 D1 HB1 HO1
        refine wpAnyH_ready (rs := [4]) (by kernel_rfl) (by simp) ?_
        refine AllReadyH.cons (o := _) rfl (fun K0 hK0 => ?_) AllReadyH.nil
        go_simp
        try rw [← hwA]
        refine hK0.out _ _ (cS.out _ K1 J1 D1) (fun hHeld1 => ?_)
        clear hK0 K0 rc0 rc1 rc2 rf0 rf1 rf2 R Q X K J D hHeld hwA q1
        (try simp only [Act.put, List.setIfInBounds_toArray, List.set_cons_zero, List.set_cons_succ])
        have yc0 := Y1.cell 0; have yc1 := Y1.cell 1
        have yf0 := Y1.frozen 0; have yf1 := Y1.frozen 1
        simp only [List.getElem?_cons_zero, List.getElem?_cons_succ] at yc0 yc1
        have q2 := sets2_grown wA (w.heap.size + 1) (.string kb) (.string ks)
        have R2 := R1.grown q2 (fun e => by injection e with e; omega)
        have Y2 := (Y1.set_ 0 (.string kb)).set_ 1 (.string ks)
        have X2 := X1.grown q2 (fun e => by injection e with e; omega)
        have K2 := K1.grown q2 (fun e => by injection e with e; omega)
        have J2 := J1.grown q2 (fun e => by injection e with e; omega)
        have D2 := D1.grown q2 (fun e => by injection e with e; omega)
        have HB2 := Lib.hid (HB1.out.grown q2 HB1.out.size (fun k e => by injection e with e; omega))
        have HO2 := Lib.hid (HO1.out.past q2 (by omega))
        obtain ⟨wB, hwB⟩ : ∃ u, u = (wA.setCell ⟨w.heap.size + 1, 0, none⟩ (.string kb)).setCell ⟨w.heap.size + 1, 1, none⟩ (.string ks) := ⟨_, rfl⟩
        rw [← hwB] at R2 Y2 X2 K2 J2 D2 HB2 HO2
        refine wpAnyH_ready (rs := [5]) (by kernel_rfl) (by simp) ?_
        refine AllReadyH.cons (o := _) rfl (fun K0 hK0 => ?_) AllReadyH.nil
        go_simp
        try rw [← hwB]
        refine hK0.out _ _ (cS.out _ K2 J2 D2) (fun hHeld2 => ?_)
        clear hK0 K0 yc0 yc1 yf0 yf1 hHeld1 hwB q2 R1 Y1 X1 K1 J1 D1 HB1 HO1
        (try simp only [Act.put, List.setIfInBounds_toArray, List.set_cons_zero, List.set_cons_succ])
        refine wpAnyH_ready (rs := [6]) (by kernel_rfl) (by simp) ?_
        refine AllReadyH.cons (o := _) rfl (fun K0 hK0 => ?_) AllReadyH.nil
        go_simp
        refine hK0.out _ _ (cS.out _ K2 J2 D2) (fun hHeld3 => ?_)
        clear hK0 K0 hHeld2
        (try simp only [Act.put, List.setIfInBounds_toArray, List.set_cons_zero, List.set_cons_succ])
        have xc0 := X2.cell 0; have xc1 := X2.cell 1; have xc2 := X2.cell 2
        have xf0 := X2.frozen 0; have xf1 := X2.frozen 1; have xf2 := X2.frozen 2
        simp only [List.getElem?_cons_zero, List.getElem?_cons_succ] at xc0 xc1 xc2
        have q3 := sets3_grown wB (w.heap.size + 1 + 1) (.string s) (.int .i64 k8) (.int .i64 0)
        have R3 := R2.grown q3 (fun e => by injection e with e; omega)
        have Y3 := Y2.grown q3 (fun e => by injection e with e; omega)
        have X3 := ((X2.set_ 0 (.string s)).set_ 1 (.int .i64 k8)).set_ 2 (.int .i64 0)
        have K3 := K2.grown q3 (fun e => by injection e with e; omega)
        have J3 := J2.grown q3 (fun e => by injection e with e; omega)
        have D3 := D2.grown q3 (fun e => by injection e with e; omega)
        have HB3 := Lib.hid (HB2.out.grown q3 HB2.out.size (fun k e => by injection e with e; omega))
        have HO3 := Lib.hid (HO2.out.past q3 (by omega))
        obtain ⟨wC, hwC⟩ : ∃ u, u = ((wB.setCell ⟨w.heap.size + 1 + 1, 0, none⟩ (.string s)).setCell ⟨w.heap.size + 1 + 1, 1, none⟩ (.int .i64 k8)).setCell ⟨w.heap.size + 1 + 1, 2, none⟩ (.int .i64 0) := ⟨_, rfl⟩
        rw [← hwC] at R3 Y3 X3 K3 J3 D3 HB3 HO3
        refine wpAnyH_ready (rs := [7]) (by kernel_rfl) (by simp) ?_
        refine AllReadyH.cons (o := _) rfl (fun K0 hK0 => ?_) AllReadyH.nil
        go_simp
        try rw [← hwC]
        refine hK0.out _ _ (cS.out _ K3 J3 D3) (fun hHeld4 => ?_)
        clear hK0 K0 xc0 xc1 xc2 xf0 xf1 xf2 hHeld3 hwC q3
        (try simp only [Act.put, List.setIfInBounds_toArray, List.set_cons_zero, List.set_cons_succ])
        refine wpAnyH_done (by kernel_rfl) ?_ _
        (try simp only [Act.put, List.setIfInBounds_toArray, List.set_cons_zero, List.set_cons_succ])
        have u0 := R3.cell 0; have u1 := R3.cell 1; have u2 := R3.cell 2
        have v0 := Y3.cell 0; have v1 := Y3.cell 1
        have t0 := X3.cell 0; have t1 := X3.cell 1; have t2 := X3.cell 2
        simp only [List.set_cons_zero, List.set_cons_succ, List.getElem?_cons_zero, List.getElem?_cons_succ] at u0 u1 u2 v0 v1 t0 t1 t2
        clear R2 Y2 X2 R3 Y3 X3 K2 J2 D2 K3 J3 D3 HC HB2 HO2 hHeld4
        rename_i aK
        refine aK _ _ ?_
        refine wp_ret ?_
        refine bodyPost_ret (v := .tuple #[.agg #[.string nm, .int .i64 (st : Int), .slice A2 m c2], .agg #[.string kb, .string ks], .int .i64 (N : Nat), .agg #[.string s, .int .i64 k8, .int .i64 0]]) (by simp [results, Tryz.results9, go_sem, u0, u1, u2, v0, v1, t0, t1, t2]) rfl ?_
        exact ⟨nm, st, A2, m, c2, L, kb, ks, N, s, k8, 0, rfl, HDR.out, zkb, zks, by omega, by omega, HO3.out.base_le (by omega), HB3.out⟩
      · skip
        have dc0 := D.cell 0; have dc1 := D.cell 1; have dc2 := D.cell 2
        simp only [List.getElem?_cons_zero, List.getElem?_cons_succ] at dc0 dc1 dc2
        have df0 := D.frozen 0; have df1 := D.frozen 1; have df2 := D.frozen 2
        go_wp2_with fail
        refine (cur_spoilt (t := s) (v := ⟨#[112, 98, 115, 120]⟩) (B := 10) HH.out HB.out hp0 HC.out (by omega) (by omega) (by decide) (by decide) (by decide)).mono ?_; rintro e w2 ⟨sp, rfl, hsp, hc10, hg10⟩
        clear dc0 dc1 dc2 df0 df1 df2
        replace R := R.grown hg10 (fun e => by injection e with e; omega)
        replace Q := Q.grown hg10 (fun e => by injection e with e; omega)
        replace X := X.grown hg10 (fun e => by injection e with e; omega)
        replace K := K.grown hg10 (fun e => by injection e with e; omega)
        replace J := J.grown hg10 (fun e => by injection e with e; omega)
        replace D := D.grown hg10 (fun e => by injection e with e; omega)
        replace HO := Lib.hid (HO.out.kept hg10 (fun k hk e => by injection e with e; have := HLB.out k hk; omega))
        replace HB := Lib.hid (grown_below HB.out hp0 hg10)
        replace HC := Lib.hid hc10
        clear hg10 hc10
        have dc0 := D.cell 0; have dc1 := D.cell 1; have dc2 := D.cell 2
        simp only [List.getElem?_cons_zero, List.getElem?_cons_succ] at dc0 dc1 dc2
        have df0 := D.frozen 0; have df1 := D.frozen 1; have df2 := D.frozen 2
        go_upto_region 14 with fail
        clear dc0 dc1 dc2 df0 df1 df2
        have gs : w2.grownBy (w2.setCell ⟨dx, 0, none⟩ (.string sp)) (some dx) := only_set _ (p := ⟨dx, 0, none⟩) _
        replace K := K.grown gs (fun e => by injection e with e; omega)
        replace J := J.grown gs (fun e => by injection e with e; omega)
        replace R := R.grown gs (fun e => by injection e with e; omega)
        replace Q := Q.grown gs (fun e => by injection e with e; omega)
        replace X := X.grown gs (fun e => by injection e with e; omega)
        replace D := D.set_ 0 (.string sp)
        simp only [List.set_cons_zero, List.set_cons_succ] at D
        replace HO := Lib.hid (HO.out.kept gs (fun k hk e => by injection e with e; have := HLB.out k hk; omega))
        replace HC := Lib.hid (HC.out.grown gs (fun e => by injection e with e; omega))
        replace HB := Lib.hid (HB.out.grown gs HB.out.size (fun k e => by injection e with e; omega))
        obtain ⟨w3, hw3⟩ : ∃ u, u = w2.setCell ⟨dx, 0, none⟩ (.string sp) := ⟨_, rfl⟩
        rw [← hw3] at K J R Q X D HO HC HB ⊢
        clear hw3 gs
        have aD : Below w3.heap.size w3 w3.drew := (Below.refl _ _).drew
        replace R := R.up aD
        replace Q := Q.up aD
        replace X := X.up aD
        replace K := K.up aD
        replace J := J.up aD
        replace D := D.up aD
        replace HO := Lib.hid (HO.out.up aD)
        replace HB := Lib.hid (below_go HB.out aD)
        replace HC := Lib.hid (HC.out.up aD)
        clear aD
        have cS : Hid (∀ u : World, Blk u b 25 [.string nm, .int .i64 (st : Int), .slice A2 m c2] → Blk u (b + 1) 27 [.string kb, .string ks] → Blk u dx 29 [.string sp, .int .i64 x5, .int .i64 0] → (u.cell? ⟨b, 0, none⟩ = some (.string nm) ∧ u.cell? ⟨b, 1, none⟩ = some (.int .i64 (st : Int)) ∧ u.cell? ⟨b, 2, none⟩ = some (.slice A2 m c2)) ∧ (u.cell? ⟨b + 1, 0, none⟩ = some (.string kb) ∧ u.cell? ⟨b + 1, 1, none⟩ = some (.string ks)) ∧ u.cell? ⟨dx, 0, none⟩ = some (.string sp) ∧ u.cell? ⟨dx, 1, none⟩ = some (.int .i64 x5) ∧ u.cell? ⟨dx, 2, none⟩ = some (.int .i64 0)) := Lib.hid (fun u L0 L1 L2 => ⟨⟨by simpa using L0.cell 0, by simpa using L0.cell 1, by simpa using L0.cell 2⟩, ⟨by simpa using L1.cell 0, by simpa using L1.cell 1⟩, by simpa using L2.cell 0, by simpa using L2.cell 1, by simpa using L2.cell 2⟩)
        refine wp_region_held_drew (S := fun u => (u.cell? ⟨b, 0, none⟩ = some (.string nm) ∧ u.cell? ⟨b, 1, none⟩ = some (.int .i64 (st : Int)) ∧ u.cell? ⟨b, 2, none⟩ = some (.slice A2 m c2)) ∧ (u.cell? ⟨b + 1, 0, none⟩ = some (.string kb) ∧ u.cell? ⟨b + 1, 1, none⟩ = some (.string ks)) ∧ u.cell? ⟨dx, 0, none⟩ = some (.string sp) ∧ u.cell? ⟨dx, 1, none⟩ = some (.int .i64 x5) ∧ u.cell? ⟨dx, 2, none⟩ = some (.int .i64 0)) (by kernel_rfl) (cS.out _ K J D) (fun hHeld => ?_)
        refine wpAnyH_take (i := 0) (oi := { dst := some 78, op := _, type := _, pos := _, after := _, guard := _ }) (v := ?_) rfl (by kernel_rfl) (by kernel_rfl) (by kernel_rfl) (fun _ _ _ h => h) (Or.inl ⟨by rfl, ?_⟩) (by assumption) ?_
        rotate_left
        · (intro w hSw; (try dsimp only at hSw); go_simp) <;> with_reducible rfl
        (try simp only [Act.put, List.setIfInBounds_toArray, List.set_cons_zero, List.set_cons_succ])
        refine wpAnyH_take (i := 1) (oi := { dst := some 79, op := _, type := _, pos := _, after := _, guard := _ }) (v := ?_) rfl (by kernel_rfl) (by kernel_rfl) (by kernel_rfl) (fun _ _ _ h => h) (Or.inl ⟨by rfl, ?_⟩) (by assumption) ?_
        rotate_left
        · (intro w hSw; (try dsimp only at hSw); go_simp) <;> with_reducible rfl
        (try simp only [Act.put, List.setIfInBounds_toArray, List.set_cons_zero, List.set_cons_succ])
        refine wpAnyH_take (i := 2) (oi := { dst := some 80, op := _, type := _, pos := _, after := _, guard := _ }) (v := ?_) rfl (by kernel_rfl) (by kernel_rfl) (by kernel_rfl) (fun _ _ _ h => h) (Or.inl ⟨by rfl, ?_⟩) (by assumption) ?_
        rotate_left
        · (intro w hSw; (try dsimp only at hSw); go_simp) <;> with_reducible rfl
        (try simp only [Act.put, List.setIfInBounds_toArray, List.set_cons_zero, List.set_cons_succ])
        refine wpAnyH_take (i := 3) (oi := { dst := some 81, op := _, type := _, pos := _, after := _, guard := _ }) (v := ?_) rfl (by kernel_rfl) (by kernel_rfl) (by kernel_rfl) (fun _ _ _ h => h) (Or.inl ⟨by rfl, ?_⟩) (by assumption) ?_
        rotate_left
        · (intro w hSw; (try dsimp only at hSw); go_simp) <;> with_reducible rfl
        (try simp only [Act.put, List.setIfInBounds_toArray, List.set_cons_zero, List.set_cons_succ])
        obtain ⟨wd, hwd⟩ : ∃ u, u = w3.drew := ⟨_, rfl⟩
        rw [← hwd] at K J R Q X D HO HC HB hHeld ⊢
        clear hwd
        have rc0 := R.cell 0; have rc1 := R.cell 1; have rc2 := R.cell 2
        have rf0 := R.frozen 0; have rf1 := R.frozen 1; have rf2 := R.frozen 2
        simp only [List.getElem?_cons_zero, List.getElem?_cons_succ] at rc0 rc1 rc2
        have q1 := sets3_grown wd w.heap.size (.string nm) (.int .i64 (st : Int)) (.slice A2 m c2)
        have R1 := ((R.set_ 0 (.string nm)).set_ 1 (.int .i64 (st : Int))).set_ 2 (.slice A2 m c2)
        have Y1 := Q.grown q1 (fun e => by injection e with e; omega)
        have X1 := X.grown q1 (fun e => by injection e with e; omega)
        have K1 := K.grown q1 (fun e => by injection e with e; omega)
        have J1 := J.grown q1 (fun e => by injection e with e; omega)
        have D1 := D.grown q1 (fun e => by injection e with e; omega)
        have hbs := HB.out.size
        have HB1 := Lib.hid (HB.out.grown q1 hbs (fun k e => by injection e with e; omega))
        have HO1 := Lib.hid (HO.out.past q1 (by omega))
        obtain ⟨wA, hwA⟩ : ∃ u, u = ((wd.setCell ⟨w.heap.size, 0, none⟩ (.string nm)).setCell ⟨w.heap.size, 1, none⟩ (.int .i64 (st : Int))).setCell ⟨w.heap.size, 2, none⟩ (.slice A2 m c2) := ⟨_, rfl⟩
        rw [← hwA] at R1 Y1 X1 K1 J1 D1 HB1 HO1
        refine wpAnyH_ready (rs := [4]) (by kernel_rfl) (by simp) ?_
        refine AllReadyH.cons (o := _) rfl (fun K0 hK0 => ?_) AllReadyH.nil
        go_simp
        try rw [← hwA]
        refine hK0.out _ _ (cS.out _ K1 J1 D1) (fun hHeld1 => ?_)
        clear hK0 K0 rc0 rc1 rc2 rf0 rf1 rf2 R Q X K J D hHeld hwA q1
        (try simp only [Act.put, List.setIfInBounds_toArray, List.set_cons_zero, List.set_cons_succ])
        have yc0 := Y1.cell 0; have yc1 := Y1.cell 1
        have yf0 := Y1.frozen 0; have yf1 := Y1.frozen 1
        simp only [List.getElem?_cons_zero, List.getElem?_cons_succ] at yc0 yc1
        have q2 := sets2_grown wA (w.heap.size + 1) (.string kb) (.string ks)
        have R2 := R1.grown q2 (fun e => by injection e with e; omega)
        have Y2 := (Y1.set_ 0 (.string kb)).set_ 1 (.string ks)
        have X2 := X1.grown q2 (fun e => by injection e with e; omega)
        have K2 := K1.grown q2 (fun e => by injection e with e; omega)
        have J2 := J1.grown q2 (fun e => by injection e with e; omega)
        have D2 := D1.grown q2 (fun e => by injection e with e; omega)
        have HB2 := Lib.hid (HB1.out.grown q2 HB1.out.size (fun k e => by injection e with e; omega))
        have HO2 := Lib.hid (HO1.out.past q2 (by omega))
        obtain ⟨wB, hwB⟩ : ∃ u, u = (wA.setCell ⟨w.heap.size + 1, 0, none⟩ (.string kb)).setCell ⟨w.heap.size + 1, 1, none⟩ (.string ks) := ⟨_, rfl⟩
        rw [← hwB] at R2 Y2 X2 K2 J2 D2 HB2 HO2
        refine wpAnyH_ready (rs := [5]) (by kernel_rfl) (by simp) ?_
        refine AllReadyH.cons (o := _) rfl (fun K0 hK0 => ?_) AllReadyH.nil
        go_simp
        try rw [← hwB]
        refine hK0.out _ _ (cS.out _ K2 J2 D2) (fun hHeld2 => ?_)
        clear hK0 K0 yc0 yc1 yf0 yf1 hHeld1 hwB q2 R1 Y1 X1 K1 J1 D1 HB1 HO1
        (try simp only [Act.put, List.setIfInBounds_toArray, List.set_cons_zero, List.set_cons_succ])
        refine wpAnyH_ready (rs := [6]) (by kernel_rfl) (by simp) ?_
        refine AllReadyH.cons (o := _) rfl (fun K0 hK0 => ?_) AllReadyH.nil
        go_simp
        refine hK0.out _ _ (cS.out _ K2 J2 D2) (fun hHeld3 => ?_)
        clear hK0 K0 hHeld2
        (try simp only [Act.put, List.setIfInBounds_toArray, List.set_cons_zero, List.set_cons_succ])
        have xc0 := X2.cell 0; have xc1 := X2.cell 1; have xc2 := X2.cell 2
        have xf0 := X2.frozen 0; have xf1 := X2.frozen 1; have xf2 := X2.frozen 2
        simp only [List.getElem?_cons_zero, List.getElem?_cons_succ] at xc0 xc1 xc2
        have q3 := sets3_grown wB (w.heap.size + 1 + 1) (.string sp) (.int .i64 x5) (.int .i64 0)
        have R3 := R2.grown q3 (fun e => by injection e with e; omega)
        have Y3 := Y2.grown q3 (fun e => by injection e with e; omega)
        have X3 := ((X2.set_ 0 (.string sp)).set_ 1 (.int .i64 x5)).set_ 2 (.int .i64 0)
        have K3 := K2.grown q3 (fun e => by injection e with e; omega)
        have J3 := J2.grown q3 (fun e => by injection e with e; omega)
        have D3 := D2.grown q3 (fun e => by injection e with e; omega)
        have HB3 := Lib.hid (HB2.out.grown q3 HB2.out.size (fun k e => by injection e with e; omega))
        have HO3 := Lib.hid (HO2.out.past q3 (by omega))
        obtain ⟨wC, hwC⟩ : ∃ u, u = ((wB.setCell ⟨w.heap.size + 1 + 1, 0, none⟩ (.string sp)).setCell ⟨w.heap.size + 1 + 1, 1, none⟩ (.int .i64 x5)).setCell ⟨w.heap.size + 1 + 1, 2, none⟩ (.int .i64 0) := ⟨_, rfl⟩
        rw [← hwC] at R3 Y3 X3 K3 J3 D3 HB3 HO3
        refine wpAnyH_ready (rs := [7]) (by kernel_rfl) (by simp) ?_
        refine AllReadyH.cons (o := _) rfl (fun K0 hK0 => ?_) AllReadyH.nil
        go_simp
        try rw [← hwC]
        refine hK0.out _ _ (cS.out _ K3 J3 D3) (fun hHeld4 => ?_)
        clear hK0 K0 xc0 xc1 xc2 xf0 xf1 xf2 hHeld3 hwC q3
        (try simp only [Act.put, List.setIfInBounds_toArray, List.set_cons_zero, List.set_cons_succ])
        refine wpAnyH_done (by kernel_rfl) ?_ _
        (try simp only [Act.put, List.setIfInBounds_toArray, List.set_cons_zero, List.set_cons_succ])
        have u0 := R3.cell 0; have u1 := R3.cell 1; have u2 := R3.cell 2
        have v0 := Y3.cell 0; have v1 := Y3.cell 1
        have t0 := X3.cell 0; have t1 := X3.cell 1; have t2 := X3.cell 2
        simp only [List.set_cons_zero, List.set_cons_succ, List.getElem?_cons_zero, List.getElem?_cons_succ] at u0 u1 u2 v0 v1 t0 t1 t2
        clear R2 Y2 X2 R3 Y3 X3 K2 J2 D2 K3 J3 D3 HC HB2 HO2 hHeld4
        rename_i aK
        refine aK _ _ ?_
        refine wp_ret ?_
        refine bodyPost_ret (v := .tuple #[.agg #[.string nm, .int .i64 (st : Int), .slice A2 m c2], .agg #[.string kb, .string ks], .int .i64 (N : Nat), .agg #[.string sp, .int .i64 x5, .int .i64 0]]) (by simp [results, Tryz.results9, go_sem, u0, u1, u2, v0, v1, t0, t1, t2]) rfl ?_
        exact ⟨nm, st, A2, m, c2, L, kb, ks, N, sp, x5, 0, rfl, HDR.out, zkb, zks, by omega, by omega, HO3.out.base_le (by omega), HB3.out⟩
      · skip
        have n0 : (k7 == 0) = false := by rw [beq_eq_false_iff_ne]; omega
        have n1 : (k7 == 1) = false := by rw [beq_eq_false_iff_ne]; omega
        have n2 : (k7 == 2) = false := by rw [beq_eq_false_iff_ne]; omega
        go_upto_region 14 with fail
        clear n0 n1 n2
        have aD : Below w1.heap.size w1 w1.drew := (Below.refl _ _).drew
        replace R := R.up aD
        replace Q := Q.up aD
        replace X := X.up aD
        replace K := K.up aD
        replace J := J.up aD
        replace D := D.up aD
        replace HO := Lib.hid (HO.out.up aD)
        replace HB := Lib.hid (below_go HB.out aD)
        replace HC := Lib.hid (HC.out.up aD)
        clear aD
        have cS : Hid (∀ u : World, Blk u b 25 [.string nm, .int .i64 (st : Int), .slice A2 m c2] → Blk u (b + 1) 27 [.string kb, .string ks] → Blk u dx 29 [.string s, .int .i64 x5, .int .i64 0] → (u.cell? ⟨b, 0, none⟩ = some (.string nm) ∧ u.cell? ⟨b, 1, none⟩ = some (.int .i64 (st : Int)) ∧ u.cell? ⟨b, 2, none⟩ = some (.slice A2 m c2)) ∧ (u.cell? ⟨b + 1, 0, none⟩ = some (.string kb) ∧ u.cell? ⟨b + 1, 1, none⟩ = some (.string ks)) ∧ u.cell? ⟨dx, 0, none⟩ = some (.string s) ∧ u.cell? ⟨dx, 1, none⟩ = some (.int .i64 x5) ∧ u.cell? ⟨dx, 2, none⟩ = some (.int .i64 0)) := Lib.hid (fun u L0 L1 L2 => ⟨⟨by simpa using L0.cell 0, by simpa using L0.cell 1, by simpa using L0.cell 2⟩, ⟨by simpa using L1.cell 0, by simpa using L1.cell 1⟩, by simpa using L2.cell 0, by simpa using L2.cell 1, by simpa using L2.cell 2⟩)
        refine wp_region_held_drew (S := fun u => (u.cell? ⟨b, 0, none⟩ = some (.string nm) ∧ u.cell? ⟨b, 1, none⟩ = some (.int .i64 (st : Int)) ∧ u.cell? ⟨b, 2, none⟩ = some (.slice A2 m c2)) ∧ (u.cell? ⟨b + 1, 0, none⟩ = some (.string kb) ∧ u.cell? ⟨b + 1, 1, none⟩ = some (.string ks)) ∧ u.cell? ⟨dx, 0, none⟩ = some (.string s) ∧ u.cell? ⟨dx, 1, none⟩ = some (.int .i64 x5) ∧ u.cell? ⟨dx, 2, none⟩ = some (.int .i64 0)) (by kernel_rfl) (cS.out _ K J D) (fun hHeld => ?_)
        refine wpAnyH_take (i := 0) (oi := { dst := some 78, op := _, type := _, pos := _, after := _, guard := _ }) (v := ?_) rfl (by kernel_rfl) (by kernel_rfl) (by kernel_rfl) (fun _ _ _ h => h) (Or.inl ⟨by rfl, ?_⟩) (by assumption) ?_
        rotate_left
        · (intro w hSw; (try dsimp only at hSw); go_simp) <;> with_reducible rfl
        (try simp only [Act.put, List.setIfInBounds_toArray, List.set_cons_zero, List.set_cons_succ])
        refine wpAnyH_take (i := 1) (oi := { dst := some 79, op := _, type := _, pos := _, after := _, guard := _ }) (v := ?_) rfl (by kernel_rfl) (by kernel_rfl) (by kernel_rfl) (fun _ _ _ h => h) (Or.inl ⟨by rfl, ?_⟩) (by assumption) ?_
        rotate_left
        · (intro w hSw; (try dsimp only at hSw); go_simp) <;> with_reducible rfl
        (try simp only [Act.put, List.setIfInBounds_toArray, List.set_cons_zero, List.set_cons_succ])
        refine wpAnyH_take (i := 2) (oi := { dst := some 80, op := _, type := _, pos := _, after := _, guard := _ }) (v := ?_) rfl (by kernel_rfl) (by kernel_rfl) (by kernel_rfl) (fun _ _ _ h => h) (Or.inl ⟨by rfl, ?_⟩) (by assumption) ?_
        rotate_left
        · (intro w hSw; (try dsimp only at hSw); go_simp) <;> with_reducible rfl
        (try simp only [Act.put, List.setIfInBounds_toArray, List.set_cons_zero, List.set_cons_succ])
        refine wpAnyH_take (i := 3) (oi := { dst := some 81, op := _, type := _, pos := _, after := _, guard := _ }) (v := ?_) rfl (by kernel_rfl) (by kernel_rfl) (by kernel_rfl) (fun _ _ _ h => h) (Or.inl ⟨by rfl, ?_⟩) (by assumption) ?_
        rotate_left
        · (intro w hSw; (try dsimp only at hSw); go_simp) <;> with_reducible rfl
        (try simp only [Act.put, List.setIfInBounds_toArray, List.set_cons_zero, List.set_cons_succ])
        obtain ⟨wd, hwd⟩ : ∃ u, u = w1.drew := ⟨_, rfl⟩
        rw [← hwd] at K J R Q X D HO HC HB hHeld ⊢
        clear hwd
        have rc0 := R.cell 0; have rc1 := R.cell 1; have rc2 := R.cell 2
        have rf0 := R.frozen 0; have rf1 := R.frozen 1; have rf2 := R.frozen 2
        simp only [List.getElem?_cons_zero, List.getElem?_cons_succ] at rc0 rc1 rc2
        have q1 := sets3_grown wd w.heap.size (.string nm) (.int .i64 (st : Int)) (.slice A2 m c2)
        have R1 := ((R.set_ 0 (.string nm)).set_ 1 (.int .i64 (st : Int))).set_ 2 (.slice A2 m c2)
        have Y1 := Q.grown q1 (fun e => by injection e with e; omega)
        have X1 := X.grown q1 (fun e => by injection e with e; omega)
        have K1 := K.grown q1 (fun e => by injection e with e; omega)
        have J1 := J.grown q1 (fun e => by injection e with e; omega)
        have D1 := D.grown q1 (fun e => by injection e with e; omega)
        have hbs := HB.out.size
        have HB1 := Lib.hid (HB.out.grown q1 hbs (fun k e => by injection e with e; omega))
        have HO1 := Lib.hid (HO.out.past q1 (by omega))
        obtain ⟨wA, hwA⟩ : ∃ u, u = ((wd.setCell ⟨w.heap.size, 0, none⟩ (.string nm)).setCell ⟨w.heap.size, 1, none⟩ (.int .i64 (st : Int))).setCell ⟨w.heap.size, 2, none⟩ (.slice A2 m c2) := ⟨_, rfl⟩
        rw [← hwA] at R1 Y1 X1 K1 J1 D1 HB1 HO1
        refine wpAnyH_ready (rs := [4]) (by kernel_rfl) (by simp) ?_
        refine AllReadyH.cons (o := _) rfl (fun K0 hK0 => ?_) AllReadyH.nil
        go_simp
        try rw [← hwA]
        refine hK0.out _ _ (cS.out _ K1 J1 D1) (fun hHeld1 => ?_)
        clear hK0 K0 rc0 rc1 rc2 rf0 rf1 rf2 R Q X K J D hHeld hwA q1
        (try simp only [Act.put, List.setIfInBounds_toArray, List.set_cons_zero, List.set_cons_succ])
        have yc0 := Y1.cell 0; have yc1 := Y1.cell 1
        have yf0 := Y1.frozen 0; have yf1 := Y1.frozen 1
        simp only [List.getElem?_cons_zero, List.getElem?_cons_succ] at yc0 yc1
        have q2 := sets2_grown wA (w.heap.size + 1) (.string kb) (.string ks)
        have R2 := R1.grown q2 (fun e => by injection e with e; omega)
        have Y2 := (Y1.set_ 0 (.string kb)).set_ 1 (.string ks)
        have X2 := X1.grown q2 (fun e => by injection e with e; omega)
        have K2 := K1.grown q2 (fun e => by injection e with e; omega)
        have J2 := J1.grown q2 (fun e => by injection e with e; omega)
        have D2 := D1.grown q2 (fun e => by injection e with e; omega)
        have HB2 := Lib.hid (HB1.out.grown q2 HB1.out.size (fun k e => by injection e with e; omega))
        have HO2 := Lib.hid (HO1.out.past q2 (by omega))
        obtain ⟨wB, hwB⟩ : ∃ u, u = (wA.setCell ⟨w.heap.size + 1, 0, none⟩ (.string kb)).setCell ⟨w.heap.size + 1, 1, none⟩ (.string ks) := ⟨_, rfl⟩
        rw [← hwB] at R2 Y2 X2 K2 J2 D2 HB2 HO2
        refine wpAnyH_ready (rs := [5]) (by kernel_rfl) (by simp) ?_
        refine AllReadyH.cons (o := _) rfl (fun K0 hK0 => ?_) AllReadyH.nil
        go_simp
        try rw [← hwB]
        refine hK0.out _ _ (cS.out _ K2 J2 D2) (fun hHeld2 => ?_)
        clear hK0 K0 yc0 yc1 yf0 yf1 hHeld1 hwB q2 R1 Y1 X1 K1 J1 D1 HB1 HO1
        (try simp only [Act.put, List.setIfInBounds_toArray, List.set_cons_zero, List.set_cons_succ])
        refine wpAnyH_ready (rs := [6]) (by kernel_rfl) (by simp) ?_
        refine AllReadyH.cons (o := _) rfl (fun K0 hK0 => ?_) AllReadyH.nil
        go_simp
        refine hK0.out _ _ (cS.out _ K2 J2 D2) (fun hHeld3 => ?_)
        clear hK0 K0 hHeld2
        (try simp only [Act.put, List.setIfInBounds_toArray, List.set_cons_zero, List.set_cons_succ])
        have xc0 := X2.cell 0; have xc1 := X2.cell 1; have xc2 := X2.cell 2
        have xf0 := X2.frozen 0; have xf1 := X2.frozen 1; have xf2 := X2.frozen 2
        simp only [List.getElem?_cons_zero, List.getElem?_cons_succ] at xc0 xc1 xc2
        have q3 := sets3_grown wB (w.heap.size + 1 + 1) (.string s) (.int .i64 x5) (.int .i64 0)
        have R3 := R2.grown q3 (fun e => by injection e with e; omega)
        have Y3 := Y2.grown q3 (fun e => by injection e with e; omega)
        have X3 := ((X2.set_ 0 (.string s)).set_ 1 (.int .i64 x5)).set_ 2 (.int .i64 0)
        have K3 := K2.grown q3 (fun e => by injection e with e; omega)
        have J3 := J2.grown q3 (fun e => by injection e with e; omega)
        have D3 := D2.grown q3 (fun e => by injection e with e; omega)
        have HB3 := Lib.hid (HB2.out.grown q3 HB2.out.size (fun k e => by injection e with e; omega))
        have HO3 := Lib.hid (HO2.out.past q3 (by omega))
        obtain ⟨wC, hwC⟩ : ∃ u, u = ((wB.setCell ⟨w.heap.size + 1 + 1, 0, none⟩ (.string s)).setCell ⟨w.heap.size + 1 + 1, 1, none⟩ (.int .i64 x5)).setCell ⟨w.heap.size + 1 + 1, 2, none⟩ (.int .i64 0) := ⟨_, rfl⟩
        rw [← hwC] at R3 Y3 X3 K3 J3 D3 HB3 HO3
        refine wpAnyH_ready (rs := [7]) (by kernel_rfl) (by simp) ?_
        refine AllReadyH.cons (o := _) rfl (fun K0 hK0 => ?_) AllReadyH.nil
        go_simp
        try rw [← hwC]
        refine hK0.out _ _ (cS.out _ K3 J3 D3) (fun hHeld4 => ?_)
        clear hK0 K0 xc0 xc1 xc2 xf0 xf1 xf2 hHeld3 hwC q3
        (try simp only [Act.put, List.setIfInBounds_toArray, List.set_cons_zero, List.set_cons_succ])
        refine wpAnyH_done (by kernel_rfl) ?_ _
        (try simp only [Act.put, List.setIfInBounds_toArray, List.set_cons_zero, List.set_cons_succ])
        have u0 := R3.cell 0; have u1 := R3.cell 1; have u2 := R3.cell 2
        have v0 := Y3.cell 0; have v1 := Y3.cell 1
        have t0 := X3.cell 0; have t1 := X3.cell 1; have t2 := X3.cell 2
        simp only [List.set_cons_zero, List.set_cons_succ, List.getElem?_cons_zero, List.getElem?_cons_succ] at u0 u1 u2 v0 v1 t0 t1 t2
        clear R2 Y2 X2 R3 Y3 X3 K2 J2 D2 K3 J3 D3 HC HB2 HO2 hHeld4
        rename_i aK
        refine aK _ _ ?_
        refine wp_ret ?_
        refine bodyPost_ret (v := .tuple #[.agg #[.string nm, .int .i64 (st : Int), .slice A2 m c2], .agg #[.string kb, .string ks], .int .i64 (N : Nat), .agg #[.string s, .int .i64 x5, .int .i64 0]]) (by simp [results, Tryz.results9, go_sem, u0, u1, u2, v0, v1, t0, t1, t2]) rfl ?_
        exact ⟨nm, st, A2, m, c2, L, kb, ks, N, s, x5, 0, rfl, HDR.out, zkb, zks, by omega, by omega, HO3.out.base_le (by omega), HB3.out⟩
    · have hI : (0 : Int) < (nC : Int) := by omega
      have fc1 := F.cell 1
      simp only [List.getElem?_cons_zero, List.getElem?_cons_succ] at fc1
      go_upto_region 6 with fail
      clear fc1
      have hcpC := HOC.out.cap.1
      obtain ⟨gC, rfl, gC0, gC1, gcc, _⟩ := HOC.out.at_ (by omega)
      have C0 : u8.grownBy u8.drew (some p) := grown_any (Below.refl _ _).drew _
      have carO : Hid (∀ u : World, u8.grownBy u (some p) → u.cell? ⟨fx, 1, none⟩ = some (.slice (some ⟨gC, 0, none⟩) nC cC)) := Lib.hid (fun u hu => by
        have L0 := F.grown hu (fun e => by injection e with e; omega)
        simpa using L0.cell 1)
      refine wp_region_held_drew (S := fun u => u.cell? ⟨fx, 1, none⟩ = some (.slice (some ⟨gC, 0, none⟩) nC cC)) (by kernel_rfl) (carO.out _ C0) (fun hHeld => ?_)
      refine wpAnyH_take (i := 0) (oi := { dst := some 49, op := _, type := _, pos := _, after := _, guard := _ }) (v := ?_) rfl (by kernel_rfl) (by kernel_rfl) (by kernel_rfl) (fun _ _ _ h => h) (Or.inl ⟨by rfl, ?_⟩) (by assumption) ?_
      rotate_left
      · (intro w hSw; (try dsimp only at hSw); go_simp) <;> with_reducible rfl
      (try simp only [Act.put, List.setIfInBounds_toArray, List.set_cons_zero, List.set_cons_succ])
      refine wpAnyH_take (i := 1) (oi := { dst := some 50, op := _, type := _, pos := _, after := _, guard := _ }) (v := ?_) rfl (by kernel_rfl) (by kernel_rfl) (by kernel_rfl) (fun _ _ _ h => h) (Or.inl ⟨by rfl, ?_⟩) (by assumption) ?_
      rotate_left
      · (intro w hSw; (try dsimp only at hSw); go_simp) <;> with_reducible rfl
      (try simp only [Act.put, List.setIfInBounds_toArray, List.set_cons_zero, List.set_cons_succ])
      refine wpAnyH_take (i := 2) (oi := { dst := some 51, op := _, type := _, pos := _, after := _, guard := _ }) (v := ?_) rfl (by kernel_rfl) (by kernel_rfl) (by kernel_rfl) (fun _ _ _ h => h) (Or.inl ⟨by rfl, ?_⟩) (by assumption) ?_
      rotate_left
      · (intro w hSw; (try dsimp only at hSw); go_simp) <;> with_reducible rfl
      (try simp only [Act.put, List.setIfInBounds_toArray, List.set_cons_zero, List.set_cons_succ])
      refine wpAnyH_take (i := 3) (oi := { dst := some 52, op := _, type := _, pos := _, after := _, guard := _ }) (v := ?_) rfl (by kernel_rfl) (by kernel_rfl) (by kernel_rfl) (fun _ _ _ h => h) (Or.inl ⟨by rfl, ?_⟩) (by assumption) ?_
      rotate_left
      · (intro w hSw; (try dsimp only at hSw); go_simp) <;> with_reducible rfl
      (try simp only [Act.put, List.setIfInBounds_toArray, List.set_cons_zero, List.set_cons_succ])
      refine wpAnyH_take (i := 4) (oi := { dst := some 53, op := _, type := _, pos := _, after := _, guard := _ }) (v := ?_) rfl (by kernel_rfl) (by kernel_rfl) (by kernel_rfl) (fun _ _ _ h => h) (Or.inl ⟨by rfl, ?_⟩) (by assumption) ?_
      rotate_left
      · (intro w hSw; (try dsimp only at hSw); go_simp) <;> with_reducible rfl
      (try simp only [Act.put, List.setIfInBounds_toArray, List.set_cons_zero, List.set_cons_succ])
      refine wpAnyH_take (i := 5) (oi := { dst := some 54, op := _, type := _, pos := _, after := _, guard := _ }) (v := ?_) rfl (by kernel_rfl) (by kernel_rfl) (by kernel_rfl) (fun _ _ _ h => h) (Or.inl ⟨by rfl, ?_⟩) (by assumption) ?_
      rotate_left
      · (intro w hSw; (try dsimp only at hSw); go_simp) <;> with_reducible rfl
      (try simp only [Act.put, List.setIfInBounds_toArray, List.set_cons_zero, List.set_cons_succ])
      refine wpAnyH_ready (rs := [6]) (by kernel_rfl) (by simp) ?_
      refine AllReadyH.cons (o := _) rfl (fun K hK => ?_) AllReadyH.nil
      go_simp
      refine (cur_pickL HH.out (grown_below HB.out hp0 C0) hp0 (HC.out.up (Below.refl _ _).drew) (by omega) (by omega) (by omega)).mono ?_; rintro e w9 ⟨q9, rfl, ⟨q90, q91⟩, hc9, hg9⟩
      have hg9 := grownBy_trans C0 hg9
      obtain ⟨qk, rfl⟩ := Int.eq_ofNat_of_zero_le q90
      have hqk : qk < nC := by omega
      have hqI : (qk : Int) < (nC : Int) := by omega
      try go_wp2_with fail
      refine hK.out _ _ (carO.out _ hg9) (fun hHeld => ?_)
      clear hK K
      (try simp only [Act.put, List.setIfInBounds_toArray, List.set_cons_zero, List.set_cons_succ])
      refine wpAnyH_take (i := 7) (oi := { dst := some 56, op := _, type := _, pos := _, after := _, guard := _ }) (v := ?_) rfl (by kernel_rfl) (by kernel_rfl) (by kernel_rfl) (fun _ _ _ h => h) (Or.inl ⟨by rfl, ?_⟩) (by assumption) ?_
      rotate_left
      · (intro w hSw; (try dsimp only at hSw); go_simp) <;> with_reducible rfl
      (try simp only [Act.put, List.setIfInBounds_toArray, List.set_cons_zero, List.set_cons_succ])
      obtain ⟨cx, hcx⟩ : ∃ x, RR.C[qk]? = some x := ⟨_, List.getElem?_eq_getElem (by rw [HCL.out]; exact hqk)⟩
      have hcz := HCS.out cx (List.mem_of_getElem? hcx)
      have gne : gC ≠ p := by omega
      have cc : ∀ (j : Nat) (u : Value), (cutE cx)[j]? = some u → w9.cell? ⟨gC, qk * 3 + j, none⟩ = some u := fun j u hu => (hg9.cell_far ⟨gC, _, none⟩ gC1 (fun e => by injection e with e; exact gne e)).trans (gcc qk cx j u hcx hu)
      obtain ⟨sx, ax, bx⟩ := cx
      have e0 := cc 0 _ rfl; have e1 := cc 1 _ rfl; have e2 := cc 2 _ rfl
      simp only [Nat.add_zero] at e0
      have e0' : w9.cell? ⟨gC, 3 * qk, none⟩ = some (.string sx) := by rw [Nat.mul_comm]; exact e0
      have e1' : w9.cell? ⟨gC, 3 * qk + 1, none⟩ = some (.int .i64 ax) := by rw [Nat.mul_comm]; exact e1
      have e2' : w9.cell? ⟨gC, 3 * qk + 2, none⟩ = some (.int .i64 bx) := by rw [Nat.mul_comm]; exact e2
      clear cc hcx
      refine wpAnyH_ready (rs := [8]) (by kernel_rfl) (by simp) ?_
      refine AllReadyH.cons (o := _) rfl (fun K0 hK0 => ?_) AllReadyH.nil
      go_simp
      refine hK0.out _ _ (carO.out _ hg9) (fun hHeld2 => ?_)
      clear hK0 K0 e0 e1 e2 e0' e1' e2'
      (try simp only [Act.put, List.setIfInBounds_toArray, List.set_cons_zero, List.set_cons_succ])
      have hg9c := hg9
      replace R := R.grown hg9 (fun e => by injection e with e; omega)
      replace Q := Q.grown hg9 (fun e => by injection e with e; omega)
      replace X := X.grown hg9 (fun e => by injection e with e; omega)
      replace K := K.grown hg9 (fun e => by injection e with e; omega)
      replace J := J.grown hg9 (fun e => by injection e with e; omega)
      replace D := D.grown hg9 (fun e => by injection e with e; omega)
      replace F := F.grown hg9 (fun e => by injection e with e; omega)
      replace HO := Lib.hid (HO.out.kept hg9 (fun k hk e => by injection e with e; have := HLB.out k hk; omega))
      replace HB := Lib.hid (grown_below HB.out hp0 hg9)
      replace HC := Lib.hid hc9
      clear hg9 hc9
      have dc0 := D.cell 0; have dc1 := D.cell 1; have dc2 := D.cell 2
      simp only [List.getElem?_cons_zero, List.getElem?_cons_succ] at dc0 dc1 dc2
      have df0 := D.frozen 0; have df1 := D.frozen 1; have df2 := D.frozen 2
      have gs := sets3_grown w9 dx (.string sx) (.int .i64 ax) (.int .i64 bx)
      refine wpAnyH_ready (rs := [9]) (by kernel_rfl) (by simp) ?_
      refine AllReadyH.cons (o := _) rfl (fun K0 hK0 => ?_) AllReadyH.nil
      go_simp
      refine hK0.out _ _ (by
        have L0 := F.grown gs (fun e => by injection e with e; omega)
        simpa using L0.cell 1) (fun hHeld3 => ?_)
      clear hK0 K0 dc0 dc1 dc2 df0 df1 df2
      (try simp only [Act.put, List.setIfInBounds_toArray, List.set_cons_zero, List.set_cons_succ])
      refine wpAnyH_done (by kernel_rfl) ?_ _
      (try simp only [Act.put, List.setIfInBounds_toArray, List.set_cons_zero, List.set_cons_succ])
      replace K := K.grown gs (fun e => by injection e with e; omega)
      replace J := J.grown gs (fun e => by injection e with e; omega)
      replace R := R.grown gs (fun e => by injection e with e; omega)
      replace Q := Q.grown gs (fun e => by injection e with e; omega)
      replace X := X.grown gs (fun e => by injection e with e; omega)
      replace D := ((D.set_ 0 (.string sx)).set_ 1 (.int .i64 ax)).set_ 2 (.int .i64 bx)
      simp only [List.set_cons_zero, List.set_cons_succ] at D
      replace HO := Lib.hid (HO.out.kept gs (fun k hk e => by injection e with e; have := HLB.out k hk; omega))
      replace HC := Lib.hid (HC.out.grown gs (fun e => by injection e with e; omega))
      replace HB := Lib.hid (HB.out.grown gs HB.out.size (fun k e => by injection e with e; omega))
      clear F HOC gcc carO C0 hg9c hHeld3 hHeld2
      obtain ⟨w10, hw10⟩ : ∃ u, u = ((w9.setCell ⟨dx, 0, none⟩ (.string sx)).setCell ⟨dx, 1, none⟩ (.int .i64 ax)).setCell ⟨dx, 2, none⟩ (.int .i64 bx) := ⟨_, rfl⟩
      rw [← hw10] at K J R Q X D HO HC HB ⊢
      clear hw10 gs
      go_wp2_with fail
      refine (cur_pick HH.out HB.out hp0 HC.out (by omega) (by decide) (by decide)).mono ?_; rintro e w1 ⟨k7, rfl, ⟨k70, k71⟩, hc9, hg9⟩
      replace R := R.grown hg9 (fun e => by injection e with e; omega)
      replace Q := Q.grown hg9 (fun e => by injection e with e; omega)
      replace X := X.grown hg9 (fun e => by injection e with e; omega)
      replace K := K.grown hg9 (fun e => by injection e with e; omega)
      replace J := J.grown hg9 (fun e => by injection e with e; omega)
      replace D := D.grown hg9 (fun e => by injection e with e; omega)
      replace HO := Lib.hid (HO.out.kept hg9 (fun k hk e => by injection e with e; have := HLB.out k hk; omega))
      replace HB := Lib.hid (grown_below HB.out hp0 hg9)
      replace HC := Lib.hid hc9
      clear hg9 hc9
      have h4 : k7 = 0 ∨ k7 = 1 ∨ k7 = 2 ∨ 3 ≤ k7 := by omega
      clear k71
      rcases h4 with rfl | rfl | rfl | h4
      · skip
        go_wp2_with fail
        refine (cur_pick HH.out HB.out hp0 HC.out (by omega) (by decide) (by decide)).mono ?_; rintro e w2 ⟨k8, rfl, ⟨k80, k81⟩, hc10, hg10⟩
        replace R := R.grown hg10 (fun e => by injection e with e; omega)
        replace Q := Q.grown hg10 (fun e => by injection e with e; omega)
        replace X := X.grown hg10 (fun e => by injection e with e; omega)
        replace K := K.grown hg10 (fun e => by injection e with e; omega)
        replace J := J.grown hg10 (fun e => by injection e with e; omega)
        replace D := D.grown hg10 (fun e => by injection e with e; omega)
        replace HO := Lib.hid (HO.out.kept hg10 (fun k hk e => by injection e with e; have := HLB.out k hk; omega))
        replace HB := Lib.hid (grown_below HB.out hp0 hg10)
        replace HC := Lib.hid hc10
        clear hg10 hc10
        have dc0 := D.cell 0; have dc1 := D.cell 1; have dc2 := D.cell 2
        simp only [List.getElem?_cons_zero, List.getElem?_cons_succ] at dc0 dc1 dc2
        have df0 := D.frozen 0; have df1 := D.frozen 1; have df2 := D.frozen 2
        have hwk : IntKind.i64.wrap (k8 - 1) = k8 - 1 := wrap_id (by omega)
        go_upto_region 14 with fail
        clear dc0 dc1 dc2 df0 df1 df2 hwk
        have gs : w2.grownBy (w2.setCell ⟨dx, 2, none⟩ (.int .i64 (k8 - 1))) (some dx) := only_set _ (p := ⟨dx, 2, none⟩) _
        replace K := K.grown gs (fun e => by injection e with e; omega)
        replace J := J.grown gs (fun e => by injection e with e; omega)
        replace R := R.grown gs (fun e => by injection e with e; omega)
        replace Q := Q.grown gs (fun e => by injection e with e; omega)
        replace X := X.grown gs (fun e => by injection e with e; omega)
        replace D := D.set_ 2 (.int .i64 (k8 - 1))
        simp only [List.set_cons_zero, List.set_cons_succ] at D
        replace HO := Lib.hid (HO.out.kept gs (fun k hk e => by injection e with e; have := HLB.out k hk; omega))
        replace HC := Lib.hid (HC.out.grown gs (fun e => by injection e with e; omega))
        replace HB := Lib.hid (HB.out.grown gs HB.out.size (fun k e => by injection e with e; omega))
        obtain ⟨w3, hw3⟩ : ∃ u, u = w2.setCell ⟨dx, 2, none⟩ (.int .i64 (k8 - 1)) := ⟨_, rfl⟩
        rw [← hw3] at K J R Q X D HO HC HB ⊢
        clear hw3 gs
        have aD : Below w3.heap.size w3 w3.drew := (Below.refl _ _).drew
        replace R := R.up aD
        replace Q := Q.up aD
        replace X := X.up aD
        replace K := K.up aD
        replace J := J.up aD
        replace D := D.up aD
        replace HO := Lib.hid (HO.out.up aD)
        replace HB := Lib.hid (below_go HB.out aD)
        replace HC := Lib.hid (HC.out.up aD)
        clear aD
        have cS : Hid (∀ u : World, Blk u b 25 [.string nm, .int .i64 (st : Int), .slice A2 m c2] → Blk u (b + 1) 27 [.string kb, .string ks] → Blk u dx 29 [.string sx, .int .i64 ax, .int .i64 (k8 - 1)] → (u.cell? ⟨b, 0, none⟩ = some (.string nm) ∧ u.cell? ⟨b, 1, none⟩ = some (.int .i64 (st : Int)) ∧ u.cell? ⟨b, 2, none⟩ = some (.slice A2 m c2)) ∧ (u.cell? ⟨b + 1, 0, none⟩ = some (.string kb) ∧ u.cell? ⟨b + 1, 1, none⟩ = some (.string ks)) ∧ u.cell? ⟨dx, 0, none⟩ = some (.string sx) ∧ u.cell? ⟨dx, 1, none⟩ = some (.int .i64 ax) ∧ u.cell? ⟨dx, 2, none⟩ = some (.int .i64 (k8 - 1))) := Lib.hid (fun u L0 L1 L2 => ⟨⟨by simpa using L0.cell 0, by simpa using L0.cell 1, by simpa using L0.cell 2⟩, ⟨by simpa using L1.cell 0, by simpa using L1.cell 1⟩, by simpa using L2.cell 0, by simpa using L2.cell 1, by simpa using L2.cell 2⟩)
        refine wp_region_held_drew (S := fun u => (u.cell? ⟨b, 0, none⟩ = some (.string nm) ∧ u.cell? ⟨b, 1, none⟩ = some (.int .i64 (st : Int)) ∧ u.cell? ⟨b, 2, none⟩ = some (.slice A2 m c2)) ∧ (u.cell? ⟨b + 1, 0, none⟩ = some (.string kb) ∧ u.cell? ⟨b + 1, 1, none⟩ = some (.string ks)) ∧ u.cell? ⟨dx, 0, none⟩ = some (.string sx) ∧ u.cell? ⟨dx, 1, none⟩ = some (.int .i64 ax) ∧ u.cell? ⟨dx, 2, none⟩ = some (.int .i64 (k8 - 1))) (by kernel_rfl) (cS.out _ K J D) (fun hHeld => ?_)
        refine wpAnyH_take (i := 0) (oi := { dst := some 78, op := _, type := _, pos := _, after := _, guard := _ }) (v := ?_) rfl (by kernel_rfl) (by kernel_rfl) (by kernel_rfl) (fun _ _ _ h => h) (Or.inl ⟨by rfl, ?_⟩) (by assumption) ?_
        rotate_left
        · (intro w hSw; (try dsimp only at hSw); go_simp) <;> with_reducible rfl
        (try simp only [Act.put, List.setIfInBounds_toArray, List.set_cons_zero, List.set_cons_succ])
        refine wpAnyH_take (i := 1) (oi := { dst := some 79, op := _, type := _, pos := _, after := _, guard := _ }) (v := ?_) rfl (by kernel_rfl) (by kernel_rfl) (by kernel_rfl) (fun _ _ _ h => h) (Or.inl ⟨by rfl, ?_⟩) (by assumption) ?_
        rotate_left
        · (intro w hSw; (try dsimp only at hSw); go_simp) <;> with_reducible rfl
        (try simp only [Act.put, List.setIfInBounds_toArray, List.set_cons_zero, List.set_cons_succ])
        refine wpAnyH_take (i := 2) (oi := { dst := some 80, op := _, type := _, pos := _, after := _, guard := _ }) (v := ?_) rfl (by kernel_rfl) (by kernel_rfl) (by kernel_rfl) (fun _ _ _ h => h) (Or.inl ⟨by rfl, ?_⟩) (by assumption) ?_
        rotate_left
        · (intro w hSw; (try dsimp only at hSw); go_simp) <;> with_reducible rfl
        (try simp only [Act.put, List.setIfInBounds_toArray, List.set_cons_zero, List.set_cons_succ])
        refine wpAnyH_take (i := 3) (oi := { dst := some 81, op := _, type := _, pos := _, after := _, guard := _ }) (v := ?_) rfl (by kernel_rfl) (by kernel_rfl) (by kernel_rfl) (fun _ _ _ h => h) (Or.inl ⟨by rfl, ?_⟩) (by assumption) ?_
        rotate_left
        · (intro w hSw; (try dsimp only at hSw); go_simp) <;> with_reducible rfl
        (try simp only [Act.put, List.setIfInBounds_toArray, List.set_cons_zero, List.set_cons_succ])
        obtain ⟨wd, hwd⟩ : ∃ u, u = w3.drew := ⟨_, rfl⟩
        rw [← hwd] at K J R Q X D HO HC HB hHeld ⊢
        clear hwd
        have rc0 := R.cell 0; have rc1 := R.cell 1; have rc2 := R.cell 2
        have rf0 := R.frozen 0; have rf1 := R.frozen 1; have rf2 := R.frozen 2
        simp only [List.getElem?_cons_zero, List.getElem?_cons_succ] at rc0 rc1 rc2
        have q1 := sets3_grown wd w.heap.size (.string nm) (.int .i64 (st : Int)) (.slice A2 m c2)
        have R1 := ((R.set_ 0 (.string nm)).set_ 1 (.int .i64 (st : Int))).set_ 2 (.slice A2 m c2)
        have Y1 := Q.grown q1 (fun e => by injection e with e; omega)
        have X1 := X.grown q1 (fun e => by injection e with e; omega)
        have K1 := K.grown q1 (fun e => by injection e with e; omega)
        have J1 := J.grown q1 (fun e => by injection e with e; omega)
        have D1 := D.grown q1 (fun e => by injection e with e; omega)
        have hbs := HB.out.size
        have HB1 := Lib.hid (HB.out.grown q1 hbs (fun k e => by injection e with e; omega))
        have HO1 := Lib.hid (HO.out.past q1 (by omega))
        obtain ⟨wA, hwA⟩ : ∃ u, u = ((wd.setCell ⟨w.heap.size, 0, none⟩ (.string nm)).setCell ⟨w.heap.size, 1, none⟩ (.int .i64 (st : Int))).setCell ⟨w.heap.size, 2, none⟩ (.slice A2 m c2) := ⟨_, rfl⟩
        rw [← hwA] at R1 Y1 X1 K1 J1 D1 HB1 HO1
        refine wpAnyH_ready (rs := [4]) (by kernel_rfl) (by simp) ?_
        refine AllReadyH.cons (o := _) rfl (fun K0 hK0 => ?_) AllReadyH.nil
        go_simp
        try rw [← hwA]
        refine hK0.out _ _ (cS.out _ K1 J1 D1) (fun hHeld1 => ?_)
        clear hK0 K0 rc0 rc1 rc2 rf0 rf1 rf2 R Q X K J D hHeld hwA q1
        (try simp only [Act.put, List.setIfInBounds_toArray, List.set_cons_zero, List.set_cons_succ])
        have yc0 := Y1.cell 0; have yc1 := Y1.cell 1
        have yf0 := Y1.frozen 0; have yf1 := Y1.frozen 1
        simp only [List.getElem?_cons_zero, List.getElem?_cons_succ] at yc0 yc1
        have q2 := sets2_grown wA (w.heap.size + 1) (.string kb) (.string ks)
        have R2 := R1.grown q2 (fun e => by injection e with e; omega)
        have Y2 := (Y1.set_ 0 (.string kb)).set_ 1 (.string ks)
        have X2 := X1.grown q2 (fun e => by injection e with e; omega)
        have K2 := K1.grown q2 (fun e => by injection e with e; omega)
        have J2 := J1.grown q2 (fun e => by injection e with e; omega)
        have D2 := D1.grown q2 (fun e => by injection e with e; omega)
        have HB2 := Lib.hid (HB1.out.grown q2 HB1.out.size (fun k e => by injection e with e; omega))
        have HO2 := Lib.hid (HO1.out.past q2 (by omega))
        obtain ⟨wB, hwB⟩ : ∃ u, u = (wA.setCell ⟨w.heap.size + 1, 0, none⟩ (.string kb)).setCell ⟨w.heap.size + 1, 1, none⟩ (.string ks) := ⟨_, rfl⟩
        rw [← hwB] at R2 Y2 X2 K2 J2 D2 HB2 HO2
        refine wpAnyH_ready (rs := [5]) (by kernel_rfl) (by simp) ?_
        refine AllReadyH.cons (o := _) rfl (fun K0 hK0 => ?_) AllReadyH.nil
        go_simp
        try rw [← hwB]
        refine hK0.out _ _ (cS.out _ K2 J2 D2) (fun hHeld2 => ?_)
        clear hK0 K0 yc0 yc1 yf0 yf1 hHeld1 hwB q2 R1 Y1 X1 K1 J1 D1 HB1 HO1
        (try simp only [Act.put, List.setIfInBounds_toArray, List.set_cons_zero, List.set_cons_succ])
        refine wpAnyH_ready (rs := [6]) (by kernel_rfl) (by simp) ?_
        refine AllReadyH.cons (o := _) rfl (fun K0 hK0 => ?_) AllReadyH.nil
        go_simp
        refine hK0.out _ _ (cS.out _ K2 J2 D2) (fun hHeld3 => ?_)
        clear hK0 K0 hHeld2
        (try simp only [Act.put, List.setIfInBounds_toArray, List.set_cons_zero, List.set_cons_succ])
        have xc0 := X2.cell 0; have xc1 := X2.cell 1; have xc2 := X2.cell 2
        have xf0 := X2.frozen 0; have xf1 := X2.frozen 1; have xf2 := X2.frozen 2
        simp only [List.getElem?_cons_zero, List.getElem?_cons_succ] at xc0 xc1 xc2
        have q3 := sets3_grown wB (w.heap.size + 1 + 1) (.string sx) (.int .i64 ax) (.int .i64 (k8 - 1))
        have R3 := R2.grown q3 (fun e => by injection e with e; omega)
        have Y3 := Y2.grown q3 (fun e => by injection e with e; omega)
        have X3 := ((X2.set_ 0 (.string sx)).set_ 1 (.int .i64 ax)).set_ 2 (.int .i64 (k8 - 1))
        have K3 := K2.grown q3 (fun e => by injection e with e; omega)
        have J3 := J2.grown q3 (fun e => by injection e with e; omega)
        have D3 := D2.grown q3 (fun e => by injection e with e; omega)
        have HB3 := Lib.hid (HB2.out.grown q3 HB2.out.size (fun k e => by injection e with e; omega))
        have HO3 := Lib.hid (HO2.out.past q3 (by omega))
        obtain ⟨wC, hwC⟩ : ∃ u, u = ((wB.setCell ⟨w.heap.size + 1 + 1, 0, none⟩ (.string sx)).setCell ⟨w.heap.size + 1 + 1, 1, none⟩ (.int .i64 ax)).setCell ⟨w.heap.size + 1 + 1, 2, none⟩ (.int .i64 (k8 - 1)) := ⟨_, rfl⟩
        rw [← hwC] at R3 Y3 X3 K3 J3 D3 HB3 HO3
        refine wpAnyH_ready (rs := [7]) (by kernel_rfl) (by simp) ?_
        refine AllReadyH.cons (o := _) rfl (fun K0 hK0 => ?_) AllReadyH.nil
        go_simp
        try rw [← hwC]
        refine hK0.out _ _ (cS.out _ K3 J3 D3) (fun hHeld4 => ?_)
        clear hK0 K0 xc0 xc1 xc2 xf0 xf1 xf2 hHeld3 hwC q3
        (try simp only [Act.put, List.setIfInBounds_toArray, List.set_cons_zero, List.set_cons_succ])
        refine wpAnyH_done (by kernel_rfl) ?_ _
        (try simp only [Act.put, List.setIfInBounds_toArray, List.set_cons_zero, List.set_cons_succ])
        have u0 := R3.cell 0; have u1 := R3.cell 1; have u2 := R3.cell 2
        have v0 := Y3.cell 0; have v1 := Y3.cell 1
        have t0 := X3.cell 0; have t1 := X3.cell 1; have t2 := X3.cell 2
        simp only [List.set_cons_zero, List.set_cons_succ, List.getElem?_cons_zero, List.getElem?_cons_succ] at u0 u1 u2 v0 v1 t0 t1 t2
        clear R2 Y2 X2 R3 Y3 X3 K2 J2 D2 K3 J3 D3 HC HB2 HO2 hHeld4
        rename_i aK
        refine aK _ _ ?_
        refine wp_ret ?_
        refine bodyPost_ret (v := .tuple #[.agg #[.string nm, .int .i64 (st : Int), .slice A2 m c2], .agg #[.string kb, .string ks], .int .i64 (N : Nat), .agg #[.string sx, .int .i64 ax, .int .i64 (k8 - 1)]]) (by simp [results, Tryz.results9, go_sem, u0, u1, u2, v0, v1, t0, t1, t2]) rfl ?_
        exact ⟨nm, st, A2, m, c2, L, kb, ks, N, sx, ax, (k8 - 1), rfl, HDR.out, zkb, zks, by omega, by omega, HO3.out.base_le (by omega), HB3.out⟩
      · skip
        go_wp2_with fail
        refine (cur_pick HH.out HB.out hp0 HC.out (by omega) (by decide) (by decide)).mono ?_; rintro e w2 ⟨k8, rfl, ⟨k80, k81⟩, hc10, hg10⟩
        replace R := R.grown hg10 (fun e => by injection e with e; omega)
        replace Q := Q.grown hg10 (fun e => by injection e with e; omega)
        replace X := X.grown hg10 (fun e => by injection e with e; omega)
        replace K := K.grown hg10 (fun e => by injection e with e; omega)
        replace J := J.grown hg10 (fun e => by injection e with e; omega)
        replace D := D.grown hg10 (fun e => by injection e with e; omega)
        replace HO := Lib.hid (HO.out.kept hg10 (fun k hk e => by injection e with e; have := HLB.out k hk; omega))
        replace HB := Lib.hid (grown_below HB.out hp0 hg10)
        replace HC := Lib.hid hc10
        clear hg10 hc10
        have dc0 := D.cell 0; have dc1 := D.cell 1; have dc2 := D.cell 2
        simp only [List.getElem?_cons_zero, List.getElem?_cons_succ] at dc0 dc1 dc2
        have df0 := D.frozen 0; have df1 := D.frozen 1; have df2 := D.frozen 2
        go_upto_region 14 with fail
        clear dc0 dc1 dc2 df0 df1 df2
        have gs : w2.grownBy (w2.setCell ⟨dx, 1, none⟩ (.int .i64 k8)) (some dx) := only_set _ (p := ⟨dx, 1, none⟩) _
        replace K := K.grown gs (fun e => by injection e with e; omega)
        replace J := J.grown gs (fun e => by injection e with e; omega)
        replace R := R.grown gs (fun e => by injection e with e; omega)
        replace Q := Q.grown gs (fun e => by injection e with e; omega)
        replace X := X.grown gs (fun e => by injection e with e; omega)
        replace D := D.set_ 1 (.int .i64 k8)
        simp only [List.set_cons_zero, List.set_cons_succ] at D
        replace HO := Lib.hid (HO.out.kept gs (fun k hk e => by injection e with e; have := HLB.out k hk; omega))
        replace HC := Lib.hid (HC.out.grown gs (fun e => by injection e with e; omega))
        replace HB := Lib.hid (HB.out.grown gs HB.out.size (fun k e => by injection e with e; omega))
        obtain ⟨w3, hw3⟩ : ∃ u, u = w2.setCell ⟨dx, 1, none⟩ (.int .i64 k8) := ⟨_, rfl⟩
        rw [← hw3] at K J R Q X D HO HC HB ⊢
        clear hw3 gs
        have aD : Below w3.heap.size w3 w3.drew := (Below.refl _ _).drew
        replace R := R.up aD
        replace Q := Q.up aD
        replace X := X.up aD
        replace K := K.up aD
        replace J := J.up aD
        replace D := D.up aD
        replace HO := Lib.hid (HO.out.up aD)
        replace HB := Lib.hid (below_go HB.out aD)
        replace HC := Lib.hid (HC.out.up aD)
        clear aD
        have cS : Hid (∀ u : World, Blk u b 25 [.string nm, .int .i64 (st : Int), .slice A2 m c2] → Blk u (b + 1) 27 [.string kb, .string ks] → Blk u dx 29 [.string sx, .int .i64 k8, .int .i64 bx] → (u.cell? ⟨b, 0, none⟩ = some (.string nm) ∧ u.cell? ⟨b, 1, none⟩ = some (.int .i64 (st : Int)) ∧ u.cell? ⟨b, 2, none⟩ = some (.slice A2 m c2)) ∧ (u.cell? ⟨b + 1, 0, none⟩ = some (.string kb) ∧ u.cell? ⟨b + 1, 1, none⟩ = some (.string ks)) ∧ u.cell? ⟨dx, 0, none⟩ = some (.string sx) ∧ u.cell? ⟨dx, 1, none⟩ = some (.int .i64 k8) ∧ u.cell? ⟨dx, 2, none⟩ = some (.int .i64 bx)) := Lib.hid (fun u L0 L1 L2 => ⟨⟨by simpa using L0.cell 0, by simpa using L0.cell 1, by simpa using L0.cell 2⟩, ⟨by simpa using L1.cell 0, by simpa using L1.cell 1⟩, by simpa using L2.cell 0, by simpa using L2.cell 1, by simpa using L2.cell 2⟩)
        refine wp_region_held_drew (S := fun u => (u.cell? ⟨b, 0, none⟩ = some (.string nm) ∧ u.cell? ⟨b, 1, none⟩ = some (.int .i64 (st : Int)) ∧ u.cell? ⟨b, 2, none⟩ = some (.slice A2 m c2)) ∧ (u.cell? ⟨b + 1, 0, none⟩ = some (.string kb) ∧ u.cell? ⟨b + 1, 1, none⟩ = some (.string ks)) ∧ u.cell? ⟨dx, 0, none⟩ = some (.string sx) ∧ u.cell? ⟨dx, 1, none⟩ = some (.int .i64 k8) ∧ u.cell? ⟨dx, 2, none⟩ = some (.int .i64 bx)) (by kernel_rfl) (cS.out _ K J D) (fun hHeld => ?_)
        refine wpAnyH_take (i := 0) (oi := { dst := some 78, op := _, type := _, pos := _, after := _, guard := _ }) (v := ?_) rfl (by kernel_rfl) (by kernel_rfl) (by kernel_rfl) (fun _ _ _ h => h) (Or.inl ⟨by rfl, ?_⟩) (by assumption) ?_
        rotate_left
        · (intro w hSw; (try dsimp only at hSw); go_simp) <;> with_reducible rfl
        (try simp only [Act.put, List.setIfInBounds_toArray, List.set_cons_zero, List.set_cons_succ])
        refine wpAnyH_take (i := 1) (oi := { dst := some 79, op := _, type := _, pos := _, after := _, guard := _ }) (v := ?_) rfl (by kernel_rfl) (by kernel_rfl) (by kernel_rfl) (fun _ _ _ h => h) (Or.inl ⟨by rfl, ?_⟩) (by assumption) ?_
        rotate_left
        · (intro w hSw; (try dsimp only at hSw); go_simp) <;> with_reducible rfl
        (try simp only [Act.put, List.setIfInBounds_toArray, List.set_cons_zero, List.set_cons_succ])
        refine wpAnyH_take (i := 2) (oi := { dst := some 80, op := _, type := _, pos := _, after := _, guard := _ }) (v := ?_) rfl (by kernel_rfl) (by kernel_rfl) (by kernel_rfl) (fun _ _ _ h => h) (Or.inl ⟨by rfl, ?_⟩) (by assumption) ?_
        rotate_left
        · (intro w hSw; (try dsimp only at hSw); go_simp) <;> with_reducible rfl
        (try simp only [Act.put, List.setIfInBounds_toArray, List.set_cons_zero, List.set_cons_succ])
        refine wpAnyH_take (i := 3) (oi := { dst := some 81, op := _, type := _, pos := _, after := _, guard := _ }) (v := ?_) rfl (by kernel_rfl) (by kernel_rfl) (by kernel_rfl) (fun _ _ _ h => h) (Or.inl ⟨by rfl, ?_⟩) (by assumption) ?_
        rotate_left
        · (intro w hSw; (try dsimp only at hSw); go_simp) <;> with_reducible rfl
        (try simp only [Act.put, List.setIfInBounds_toArray, List.set_cons_zero, List.set_cons_succ])
        obtain ⟨wd, hwd⟩ : ∃ u, u = w3.drew := ⟨_, rfl⟩
        rw [← hwd] at K J R Q X D HO HC HB hHeld ⊢
        clear hwd
        have rc0 := R.cell 0; have rc1 := R.cell 1; have rc2 := R.cell 2
        have rf0 := R.frozen 0; have rf1 := R.frozen 1; have rf2 := R.frozen 2
        simp only [List.getElem?_cons_zero, List.getElem?_cons_succ] at rc0 rc1 rc2
        have q1 := sets3_grown wd w.heap.size (.string nm) (.int .i64 (st : Int)) (.slice A2 m c2)
        have R1 := ((R.set_ 0 (.string nm)).set_ 1 (.int .i64 (st : Int))).set_ 2 (.slice A2 m c2)
        have Y1 := Q.grown q1 (fun e => by injection e with e; omega)
        have X1 := X.grown q1 (fun e => by injection e with e; omega)
        have K1 := K.grown q1 (fun e => by injection e with e; omega)
        have J1 := J.grown q1 (fun e => by injection e with e; omega)
        have D1 := D.grown q1 (fun e => by injection e with e; omega)
        have hbs := HB.out.size
        have HB1 := Lib.hid (HB.out.grown q1 hbs (fun k e => by injection e with e; omega))
        have HO1 := Lib.hid (HO.out.past q1 (by omega))
        obtain ⟨wA, hwA⟩ : ∃ u, u = ((wd.setCell ⟨w.heap.size, 0, none⟩ (.string nm)).setCell ⟨w.heap.size, 1, none⟩ (.int .i64 (st : Int))).setCell ⟨w.heap.size, 2, none⟩ (.slice A2 m c2) := ⟨_, rfl⟩
        rw [← hwA] at R1 Y1 X1 K1 J1 D1 HB1 HO1
        refine wpAnyH_ready (rs := [4]) (by kernel_rfl) (by simp) ?_
        refine AllReadyH.cons (o := _) rfl (fun K0 hK0 => ?_) AllReadyH.nil
        go_simp
        try rw [← hwA]
        refine hK0.out _ _ (cS.out _ K1 J1 D1) (fun hHeld1 => ?_)
        clear hK0 K0 rc0 rc1 rc2 rf0 rf1 rf2 R Q X K J D hHeld hwA q1
        (try simp only [Act.put, List.setIfInBounds_toArray, List.set_cons_zero, List.set_cons_succ])
        have yc0 := Y1.cell 0; have yc1 := Y1.cell 1
        have yf0 := Y1.frozen 0; have yf1 := Y1.frozen 1
        simp only [List.getElem?_cons_zero, List.getElem?_cons_succ] at yc0 yc1
        have q2 := sets2_grown wA (w.heap.size + 1) (.string kb) (.string ks)
        have R2 := R1.grown q2 (fun e => by injection e with e; omega)
        have Y2 := (Y1.set_ 0 (.string kb)).set_ 1 (.string ks)
        have X2 := X1.grown q2 (fun e => by injection e with e; omega)
        have K2 := K1.grown q2 (fun e => by injection e with e; omega)
        have J2 := J1.grown q2 (fun e => by injection e with e; omega)
        have D2 := D1.grown q2 (fun e => by injection e with e; omega)
        have HB2 := Lib.hid (HB1.out.grown q2 HB1.out.size (fun k e => by injection e with e; omega))
        have HO2 := Lib.hid (HO1.out.past q2 (by omega))
        obtain ⟨wB, hwB⟩ : ∃ u, u = (wA.setCell ⟨w.heap.size + 1, 0, none⟩ (.string kb)).setCell ⟨w.heap.size + 1, 1, none⟩ (.string ks) := ⟨_, rfl⟩
        rw [← hwB] at R2 Y2 X2 K2 J2 D2 HB2 HO2
        refine wpAnyH_ready (rs := [5]) (by kernel_rfl) (by simp) ?_
        refine AllReadyH.cons (o := _) rfl (fun K0 hK0 => ?_) AllReadyH.nil
        go_simp
        try rw [← hwB]
        refine hK0.out _ _ (cS.out _ K2 J2 D2) (fun hHeld2 => ?_)
        clear hK0 K0 yc0 yc1 yf0 yf1 hHeld1 hwB q2 R1 Y1 X1 K1 J1 D1 HB1 HO1
        (try simp only [Act.put, List.setIfInBounds_toArray, List.set_cons_zero, List.set_cons_succ])
        refine wpAnyH_ready (rs := [6]) (by kernel_rfl) (by simp) ?_
        refine AllReadyH.cons (o := _) rfl (fun K0 hK0 => ?_) AllReadyH.nil
        go_simp
        refine hK0.out _ _ (cS.out _ K2 J2 D2) (fun hHeld3 => ?_)
        clear hK0 K0 hHeld2
        (try simp only [Act.put, List.setIfInBounds_toArray, List.set_cons_zero, List.set_cons_succ])
        have xc0 := X2.cell 0; have xc1 := X2.cell 1; have xc2 := X2.cell 2
        have xf0 := X2.frozen 0; have xf1 := X2.frozen 1; have xf2 := X2.frozen 2
        simp only [List.getElem?_cons_zero, List.getElem?_cons_succ] at xc0 xc1 xc2
        have q3 := sets3_grown wB (w.heap.size + 1 + 1) (.string sx) (.int .i64 k8) (.int .i64 bx)
        have R3 := R2.grown q3 (fun e => by injection e with e; omega)
        have Y3 := Y2.grown q3 (fun e => by injection e with e; omega)
        have X3 := ((X2.set_ 0 (.string sx)).set_ 1 (.int .i64 k8)).set_ 2 (.int .i64 bx)
        have K3 := K2.grown q3 (fun e => by injection e with e; omega)
        have J3 := J2.grown q3 (fun e => by injection e with e; omega)
        have D3 := D2.grown q3 (fun e => by injection e with e; omega)
        have HB3 := Lib.hid (HB2.out.grown q3 HB2.out.size (fun k e => by injection e with e; omega))
        have HO3 := Lib.hid (HO2.out.past q3 (by omega))
        obtain ⟨wC, hwC⟩ : ∃ u, u = ((wB.setCell ⟨w.heap.size + 1 + 1, 0, none⟩ (.string sx)).setCell ⟨w.heap.size + 1 + 1, 1, none⟩ (.int .i64 k8)).setCell ⟨w.heap.size + 1 + 1, 2, none⟩ (.int .i64 bx) := ⟨_, rfl⟩
        rw [← hwC] at R3 Y3 X3 K3 J3 D3 HB3 HO3
        refine wpAnyH_ready (rs := [7]) (by kernel_rfl) (by simp) ?_
        refine AllReadyH.cons (o := _) rfl (fun K0 hK0 => ?_) AllReadyH.nil
        go_simp
        try rw [← hwC]
        refine hK0.out _ _ (cS.out _ K3 J3 D3) (fun hHeld4 => ?_)
        clear hK0 K0 xc0 xc1 xc2 xf0 xf1 xf2 hHeld3 hwC q3
        (try simp only [Act.put, List.setIfInBounds_toArray, List.set_cons_zero, List.set_cons_succ])
        refine wpAnyH_done (by kernel_rfl) ?_ _
        (try simp only [Act.put, List.setIfInBounds_toArray, List.set_cons_zero, List.set_cons_succ])
        have u0 := R3.cell 0; have u1 := R3.cell 1; have u2 := R3.cell 2
        have v0 := Y3.cell 0; have v1 := Y3.cell 1
        have t0 := X3.cell 0; have t1 := X3.cell 1; have t2 := X3.cell 2
        simp only [List.set_cons_zero, List.set_cons_succ, List.getElem?_cons_zero, List.getElem?_cons_succ] at u0 u1 u2 v0 v1 t0 t1 t2
        clear R2 Y2 X2 R3 Y3 X3 K2 J2 D2 K3 J3 D3 HC HB2 HO2 hHeld4
        rename_i aK
        refine aK _ _ ?_
        refine wp_ret ?_
        refine bodyPost_ret (v := .tuple #[.agg #[.string nm, .int .i64 (st : Int), .slice A2 m c2], .agg #[.string kb, .string ks], .int .i64 (N : Nat), .agg #[.string sx, .int .i64 k8, .int .i64 bx]]) (by simp [results, Tryz.results9, go_sem, u0, u1, u2, v0, v1, t0, t1, t2]) rfl ?_
        exact ⟨nm, st, A2, m, c2, L, kb, ks, N, sx, k8, bx, rfl, HDR.out, zkb, zks, by omega, by omega, HO3.out.base_le (by omega), HB3.out⟩
      · skip
        have dc0 := D.cell 0; have dc1 := D.cell 1; have dc2 := D.cell 2
        simp only [List.getElem?_cons_zero, List.getElem?_cons_succ] at dc0 dc1 dc2
        have df0 := D.frozen 0; have df1 := D.frozen 1; have df2 := D.frozen 2
        go_wp2_with fail
        refine (cur_spoilt (t := sx) (v := ⟨#[112, 98, 115, 120]⟩) (B := 10) HH.out HB.out hp0 HC.out (by omega) (by omega) (by decide) (by decide) (by decide)).mono ?_; rintro e w2 ⟨sp, rfl, hsp, hc10, hg10⟩
        clear dc0 dc1 dc2 df0 df1 df2
        replace R := R.grown hg10 (fun e => by injection e with e; omega)
        replace Q := Q.grown hg10 (fun e => by injection e with e; omega)
        replace X := X.grown hg10 (fun e => by injection e with e; omega)
        replace K := K.grown hg10 (fun e => by injection e with e; omega)
        replace J := J.grown hg10 (fun e => by injection e with e; omega)
        replace D := D.grown hg10 (fun e => by injection e with e; omega)
        replace HO := Lib.hid (HO.out.kept hg10 (fun k hk e => by injection e with e; have := HLB.out k hk; omega))
        replace HB := Lib.hid (grown_below HB.out hp0 hg10)
        replace HC := Lib.hid hc10
        clear hg10 hc10
        have dc0 := D.cell 0; have dc1 := D.cell 1; have dc2 := D.cell 2
        simp only [List.getElem?_cons_zero, List.getElem?_cons_succ] at dc0 dc1 dc2
        have df0 := D.frozen 0; have df1 := D.frozen 1; have df2 := D.frozen 2
        go_upto_region 14 with fail
        clear dc0 dc1 dc2 df0 df1 df2
        have gs : w2.grownBy (w2.setCell ⟨dx, 0, none⟩ (.string sp)) (some dx) := only_set _ (p := ⟨dx, 0, none⟩) _
        replace K := K.grown gs (fun e => by injection e with e; omega)
        replace J := J.grown gs (fun e => by injection e with e; omega)
        replace R := R.grown gs (fun e => by injection e with e; omega)
        replace Q := Q.grown gs (fun e => by injection e with e; omega)
        replace X := X.grown gs (fun e => by injection e with e; omega)
        replace D := D.set_ 0 (.string sp)
        simp only [List.set_cons_zero, List.set_cons_succ] at D
        replace HO := Lib.hid (HO.out.kept gs (fun k hk e => by injection e with e; have := HLB.out k hk; omega))
        replace HC := Lib.hid (HC.out.grown gs (fun e => by injection e with e; omega))
        replace HB := Lib.hid (HB.out.grown gs HB.out.size (fun k e => by injection e with e; omega))
        obtain ⟨w3, hw3⟩ : ∃ u, u = w2.setCell ⟨dx, 0, none⟩ (.string sp) := ⟨_, rfl⟩
        rw [← hw3] at K J R Q X D HO HC HB ⊢
        clear hw3 gs
        have aD : Below w3.heap.size w3 w3.drew := (Below.refl _ _).drew
        replace R := R.up aD
        replace Q := Q.up aD
        replace X := X.up aD
        replace K := K.up aD
        replace J := J.up aD
        replace D := D.up aD
        replace HO := Lib.hid (HO.out.up aD)
        replace HB := Lib.hid (below_go HB.out aD)
        replace HC := Lib.hid (HC.out.up aD)
        clear aD
        have cS : Hid (∀ u : World, Blk u b 25 [.string nm, .int .i64 (st : Int), .slice A2 m c2] → Blk u (b + 1) 27 [.string kb, .string ks] → Blk u dx 29 [.string sp, .int .i64 ax, .int .i64 bx] → (u.cell? ⟨b, 0, none⟩ = some (.string nm) ∧ u.cell? ⟨b, 1, none⟩ = some (.int .i64 (st : Int)) ∧ u.cell? ⟨b, 2, none⟩ = some (.slice A2 m c2)) ∧ (u.cell? ⟨b + 1, 0, none⟩ = some (.string kb) ∧ u.cell? ⟨b + 1, 1, none⟩ = some (.string ks)) ∧ u.cell? ⟨dx, 0, none⟩ = some (.string sp) ∧ u.cell? ⟨dx, 1, none⟩ = some (.int .i64 ax) ∧ u.cell? ⟨dx, 2, none⟩ = some (.int .i64 bx)) := Lib.hid (fun u L0 L1 L2 => ⟨⟨by simpa using L0.cell 0, by simpa using L0.cell 1, by simpa using L0.cell 2⟩, ⟨by simpa using L1.cell 0, by simpa using L1.cell 1⟩, by simpa using L2.cell 0, by simpa using L2.cell 1, by simpa using L2.cell 2⟩)
        refine wp_region_held_drew (S := fun u => (u.cell? ⟨b, 0, none⟩ = some (.string nm) ∧ u.cell? ⟨b, 1, none⟩ = some (.int .i64 (st : Int)) ∧ u.cell? ⟨b, 2, none⟩ = some (.slice A2 m c2)) ∧ (u.cell? ⟨b + 1, 0, none⟩ = some (.string kb) ∧ u.cell? ⟨b + 1, 1, none⟩ = some (.string ks)) ∧ u.cell? ⟨dx, 0, none⟩ = some (.string sp) ∧ u.cell? ⟨dx, 1, none⟩ = some (.int .i64 ax) ∧ u.cell? ⟨dx, 2, none⟩ = some (.int .i64 bx)) (by kernel_rfl) (cS.out _ K J D) (fun hHeld => ?_)
        refine wpAnyH_take (i := 0) (oi := { dst := some 78, op := _, type := _, pos := _, after := _, guard := _ }) (v := ?_) rfl (by kernel_rfl) (by kernel_rfl) (by kernel_rfl) (fun _ _ _ h => h) (Or.inl ⟨by rfl, ?_⟩) (by assumption) ?_
        rotate_left
        · (intro w hSw; (try dsimp only at hSw); go_simp) <;> with_reducible rfl
        (try simp only [Act.put, List.setIfInBounds_toArray, List.set_cons_zero, List.set_cons_succ])
        refine wpAnyH_take (i := 1) (oi := { dst := some 79, op := _, type := _, pos := _, after := _, guard := _ }) (v := ?_) rfl (by kernel_rfl) (by kernel_rfl) (by kernel_rfl) (fun _ _ _ h => h) (Or.inl ⟨by rfl, ?_⟩) (by assumption) ?_
        rotate_left
        · (intro w hSw; (try dsimp only at hSw); go_simp) <;> with_reducible rfl
        (try simp only [Act.put, List.setIfInBounds_toArray, List.set_cons_zero, List.set_cons_succ])
        refine wpAnyH_take (i := 2) (oi := { dst := some 80, op := _, type := _, pos := _, after := _, guard := _ }) (v := ?_) rfl (by kernel_rfl) (by kernel_rfl) (by kernel_rfl) (fun _ _ _ h => h) (Or.inl ⟨by rfl, ?_⟩) (by assumption) ?_
        rotate_left
        · (intro w hSw; (try dsimp only at hSw); go_simp) <;> with_reducible rfl
        (try simp only [Act.put, List.setIfInBounds_toArray, List.set_cons_zero, List.set_cons_succ])
        refine wpAnyH_take (i := 3) (oi := { dst := some 81, op := _, type := _, pos := _, after := _, guard := _ }) (v := ?_) rfl (by kernel_rfl) (by kernel_rfl) (by kernel_rfl) (fun _ _ _ h => h) (Or.inl ⟨by rfl, ?_⟩) (by assumption) ?_
        rotate_left
        · (intro w hSw; (try dsimp only at hSw); go_simp) <;> with_reducible rfl
        (try simp only [Act.put, List.setIfInBounds_toArray, List.set_cons_zero, List.set_cons_succ])
        obtain ⟨wd, hwd⟩ : ∃ u, u = w3.drew := ⟨_, rfl⟩
        rw [← hwd] at K J R Q X D HO HC HB hHeld ⊢
        clear hwd
        have rc0 := R.cell 0; have rc1 := R.cell 1; have rc2 := R.cell 2
        have rf0 := R.frozen 0; have rf1 := R.frozen 1; have rf2 := R.frozen 2
        simp only [List.getElem?_cons_zero, List.getElem?_cons_succ] at rc0 rc1 rc2
        have q1 := sets3_grown wd w.heap.size (.string nm) (.int .i64 (st : Int)) (.slice A2 m c2)
        have R1 := ((R.set_ 0 (.string nm)).set_ 1 (.int .i64 (st : Int))).set_ 2 (.slice A2 m c2)
        have Y1 := Q.grown q1 (fun e => by injection e with e; omega)
        have X1 := X.grown q1 (fun e => by injection e with e; omega)
        have K1 := K.grown q1 (fun e => by injection e with e; omega)
        have J1 := J.grown q1 (fun e => by injection e with e; omega)
        have D1 := D.grown q1 (fun e => by injection e with e; omega)
        have hbs := HB.out.size
        have HB1 := Lib.hid (HB.out.grown q1 hbs (fun k e => by injection e with e; omega))
        have HO1 := Lib.hid (HO.out.past q1 (by omega))
        obtain ⟨wA, hwA⟩ : ∃ u, u = ((wd.setCell ⟨w.heap.size, 0, none⟩ (.string nm)).setCell ⟨w.heap.size, 1, none⟩ (.int .i64 (st : Int))).setCell ⟨w.heap.size, 2, none⟩ (.slice A2 m c2) := ⟨_, rfl⟩
        rw [← hwA] at R1 Y1 X1 K1 J1 D1 HB1 HO1
        refine wpAnyH_ready (rs := [4]) (by kernel_rfl) (by simp) ?_
        refine AllReadyH.cons (o := _) rfl (fun K0 hK0 => ?_) AllReadyH.nil
        go_simp
        try rw [← hwA]
        refine hK0.out _ _ (cS.out _ K1 J1 D1) (fun hHeld1 => ?_)
        clear hK0 K0 rc0 rc1 rc2 rf0 rf1 rf2 R Q X K J D hHeld hwA q1
        (try simp only [Act.put, List.setIfInBounds_toArray, List.set_cons_zero, List.set_cons_succ])
        have yc0 := Y1.cell 0; have yc1 := Y1.cell 1
        have yf0 := Y1.frozen 0; have yf1 := Y1.frozen 1
        simp only [List.getElem?_cons_zero, List.getElem?_cons_succ] at yc0 yc1
        have q2 := sets2_grown wA (w.heap.size + 1) (.string kb) (.string ks)
        have R2 := R1.grown q2 (fun e => by injection e with e; omega)
        have Y2 := (Y1.set_ 0 (.string kb)).set_ 1 (.string ks)
        have X2 := X1.grown q2 (fun e => by injection e with e; omega)
        have K2 := K1.grown q2 (fun e => by injection e with e; omega)
        have J2 := J1.grown q2 (fun e => by injection e with e; omega)
        have D2 := D1.grown q2 (fun e => by injection e with e; omega)
        have HB2 := Lib.hid (HB1.out.grown q2 HB1.out.size (fun k e => by injection e with e; omega))
        have HO2 := Lib.hid (HO1.out.past q2 (by omega))
        obtain ⟨wB, hwB⟩ : ∃ u, u = (wA.setCell ⟨w.heap.size + 1, 0, none⟩ (.string kb)).setCell ⟨w.heap.size + 1, 1, none⟩ (.string ks) := ⟨_, rfl⟩
        rw [← hwB] at R2 Y2 X2 K2 J2 D2 HB2 HO2
        refine wpAnyH_ready (rs := [5]) (by kernel_rfl) (by simp) ?_
        refine AllReadyH.cons (o := _) rfl (fun K0 hK0 => ?_) AllReadyH.nil
        go_simp
        try rw [← hwB]
        refine hK0.out _ _ (cS.out _ K2 J2 D2) (fun hHeld2 => ?_)
        clear hK0 K0 yc0 yc1 yf0 yf1 hHeld1 hwB q2 R1 Y1 X1 K1 J1 D1 HB1 HO1
        (try simp only [Act.put, List.setIfInBounds_toArray, List.set_cons_zero, List.set_cons_succ])
        refine wpAnyH_ready (rs := [6]) (by kernel_rfl) (by simp) ?_
        refine AllReadyH.cons (o := _) rfl (fun K0 hK0 => ?_) AllReadyH.nil
        go_simp
        refine hK0.out _ _ (cS.out _ K2 J2 D2) (fun hHeld3 => ?_)
        clear hK0 K0 hHeld2
        (try simp only [Act.put, List.setIfInBounds_toArray, List.set_cons_zero, List.set_cons_succ])
        have xc0 := X2.cell 0; have xc1 := X2.cell 1; have xc2 := X2.cell 2
        have xf0 := X2.frozen 0; have xf1 := X2.frozen 1; have xf2 := X2.frozen 2
        simp only [List.getElem?_cons_zero, List.getElem?_cons_succ] at xc0 xc1 xc2
        have q3 := sets3_grown wB (w.heap.size + 1 + 1) (.string sp) (.int .i64 ax) (.int .i64 bx)
        have R3 := R2.grown q3 (fun e => by injection e with e; omega)
        have Y3 := Y2.grown q3 (fun e => by injection e with e; omega)
        have X3 := ((X2.set_ 0 (.string sp)).set_ 1 (.int .i64 ax)).set_ 2 (.int .i64 bx)
        have K3 := K2.grown q3 (fun e => by injection e with e; omega)
        have J3 := J2.grown q3 (fun e => by injection e with e; omega)
        have D3 := D2.grown q3 (fun e => by injection e with e; omega)
        have HB3 := Lib.hid (HB2.out.grown q3 HB2.out.size (fun k e => by injection e with e; omega))
        have HO3 := Lib.hid (HO2.out.past q3 (by omega))
        obtain ⟨wC, hwC⟩ : ∃ u, u = ((wB.setCell ⟨w.heap.size + 1 + 1, 0, none⟩ (.string sp)).setCell ⟨w.heap.size + 1 + 1, 1, none⟩ (.int .i64 ax)).setCell ⟨w.heap.size + 1 + 1, 2, none⟩ (.int .i64 bx) := ⟨_, rfl⟩
        rw [← hwC] at R3 Y3 X3 K3 J3 D3 HB3 HO3
        refine wpAnyH_ready (rs := [7]) (by kernel_rfl) (by simp) ?_
        refine AllReadyH.cons (o := _) rfl (fun K0 hK0 => ?_) AllReadyH.nil
        go_simp
        try rw [← hwC]
        refine hK0.out _ _ (cS.out _ K3 J3 D3) (fun hHeld4 => ?_)
        clear hK0 K0 xc0 xc1 xc2 xf0 xf1 xf2 hHeld3 hwC q3
        (try simp only [Act.put, List.setIfInBounds_toArray, List.set_cons_zero, List.set_cons_succ])
        refine wpAnyH_done (by kernel_rfl) ?_ _
        (try simp only [Act.put, List.setIfInBounds_toArray, List.set_cons_zero, List.set_cons_succ])
        have u0 := R3.cell 0; have u1 := R3.cell 1; have u2 := R3.cell 2
        have v0 := Y3.cell 0; have v1 := Y3.cell 1
        have t0 := X3.cell 0; have t1 := X3.cell 1; have t2 := X3.cell 2
        simp only [List.set_cons_zero, List.set_cons_succ, List.getElem?_cons_zero, List.getElem?_cons_succ] at u0 u1 u2 v0 v1 t0 t1 t2
        clear R2 Y2 X2 R3 Y3 X3 K2 J2 D2 K3 J3 D3 HC HB2 HO2 hHeld4
        rename_i aK
        refine aK _ _ ?_
        refine wp_ret ?_
        refine bodyPost_ret (v := .tuple #[.agg #[.string nm, .int .i64 (st : Int), .slice A2 m c2], .agg #[.string kb, .string ks], .int .i64 (N : Nat), .agg #[.string sp, .int .i64 ax, .int .i64 bx]]) (by simp [results, Tryz.results9, go_sem, u0, u1, u2, v0, v1, t0, t1, t2]) rfl ?_
        exact ⟨nm, st, A2, m, c2, L, kb, ks, N, sp, ax, bx, rfl, HDR.out, zkb, zks, by omega, by omega, HO3.out.base_le (by omega), HB3.out⟩
      · skip
        have n0 : (k7 == 0) = false := by rw [beq_eq_false_iff_ne]; omega
        have n1 : (k7 == 1) = false := by rw [beq_eq_false_iff_ne]; omega
        have n2 : (k7 == 2) = false := by rw [beq_eq_false_iff_ne]; omega
        go_upto_region 14 with fail
        clear n0 n1 n2
        have aD : Below w1.heap.size w1 w1.drew := (Below.refl _ _).drew
        replace R := R.up aD
        replace Q := Q.up aD
        replace X := X.up aD
        replace K := K.up aD
        replace J := J.up aD
        replace D := D.up aD
        replace HO := Lib.hid (HO.out.up aD)
        replace HB := Lib.hid (below_go HB.out aD)
        replace HC := Lib.hid (HC.out.up aD)
        clear aD
        have cS : Hid (∀ u : World, Blk u b 25 [.string nm, .int .i64 (st : Int), .slice A2 m c2] → Blk u (b + 1) 27 [.string kb, .string ks] → Blk u dx 29 [.string sx, .int .i64 ax, .int .i64 bx] → (u.cell? ⟨b, 0, none⟩ = some (.string nm) ∧ u.cell? ⟨b, 1, none⟩ = some (.int .i64 (st : Int)) ∧ u.cell? ⟨b, 2, none⟩ = some (.slice A2 m c2)) ∧ (u.cell? ⟨b + 1, 0, none⟩ = some (.string kb) ∧ u.cell? ⟨b + 1, 1, none⟩ = some (.string ks)) ∧ u.cell? ⟨dx, 0, none⟩ = some (.string sx) ∧ u.cell? ⟨dx, 1, none⟩ = some (.int .i64 ax) ∧ u.cell? ⟨dx, 2, none⟩ = some (.int .i64 bx)) := Lib.hid (fun u L0 L1 L2 => ⟨⟨by simpa using L0.cell 0, by simpa using L0.cell 1, by simpa using L0.cell 2⟩, ⟨by simpa using L1.cell 0, by simpa using L1.cell 1⟩, by simpa using L2.cell 0, by simpa using L2.cell 1, by simpa using L2.cell 2⟩)
        refine wp_region_held_drew (S := fun u => (u.cell? ⟨b, 0, none⟩ = some (.string nm) ∧ u.cell? ⟨b, 1, none⟩ = some (.int .i64 (st : Int)) ∧ u.cell? ⟨b, 2, none⟩ = some (.slice A2 m c2)) ∧ (u.cell? ⟨b + 1, 0, none⟩ = some (.string kb) ∧ u.cell? ⟨b + 1, 1, none⟩ = some (.string ks)) ∧ u.cell? ⟨dx, 0, none⟩ = some (.string sx) ∧ u.cell? ⟨dx, 1, none⟩ = some (.int .i64 ax) ∧ u.cell? ⟨dx, 2, none⟩ = some (.int .i64 bx)) (by kernel_rfl) (cS.out _ K J D) (fun hHeld => ?_)
        refine wpAnyH_take (i := 0) (oi := { dst := some 78, op := _, type := _, pos := _, after := _, guard := _ }) (v := ?_) rfl (by kernel_rfl) (by kernel_rfl) (by kernel_rfl) (fun _ _ _ h => h) (Or.inl ⟨by rfl, ?_⟩) (by assumption) ?_
        rotate_left
        · (intro w hSw; (try dsimp only at hSw); go_simp) <;> with_reducible rfl
        (try simp only [Act.put, List.setIfInBounds_toArray, List.set_cons_zero, List.set_cons_succ])
        refine wpAnyH_take (i := 1) (oi := { dst := some 79, op := _, type := _, pos := _, after := _, guard := _ }) (v := ?_) rfl (by kernel_rfl) (by kernel_rfl) (by kernel_rfl) (fun _ _ _ h => h) (Or.inl ⟨by rfl, ?_⟩) (by assumption) ?_
        rotate_left
        · (intro w hSw; (try dsimp only at hSw); go_simp) <;> with_reducible rfl
        (try simp only [Act.put, List.setIfInBounds_toArray, List.set_cons_zero, List.set_cons_succ])
        refine wpAnyH_take (i := 2) (oi := { dst := some 80, op := _, type := _, pos := _, after := _, guard := _ }) (v := ?_) rfl (by kernel_rfl) (by kernel_rfl) (by kernel_rfl) (fun _ _ _ h => h) (Or.inl ⟨by rfl, ?_⟩) (by assumption) ?_
        rotate_left
        · (intro w hSw; (try dsimp only at hSw); go_simp) <;> with_reducible rfl
        (try simp only [Act.put, List.setIfInBounds_toArray, List.set_cons_zero, List.set_cons_succ])
        refine wpAnyH_take (i := 3) (oi := { dst := some 81, op := _, type := _, pos := _, after := _, guard := _ }) (v := ?_) rfl (by kernel_rfl) (by kernel_rfl) (by kernel_rfl) (fun _ _ _ h => h) (Or.inl ⟨by rfl, ?_⟩) (by assumption) ?_
        rotate_left
        · (intro w hSw; (try dsimp only at hSw); go_simp) <;> with_reducible rfl
        (try simp only [Act.put, List.setIfInBounds_toArray, List.set_cons_zero, List.set_cons_succ])
        obtain ⟨wd, hwd⟩ : ∃ u, u = w1.drew := ⟨_, rfl⟩
        rw [← hwd] at K J R Q X D HO HC HB hHeld ⊢
        clear hwd
        have rc0 := R.cell 0; have rc1 := R.cell 1; have rc2 := R.cell 2
        have rf0 := R.frozen 0; have rf1 := R.frozen 1; have rf2 := R.frozen 2
        simp only [List.getElem?_cons_zero, List.getElem?_cons_succ] at rc0 rc1 rc2
        have q1 := sets3_grown wd w.heap.size (.string nm) (.int .i64 (st : Int)) (.slice A2 m c2)
        have R1 := ((R.set_ 0 (.string nm)).set_ 1 (.int .i64 (st : Int))).set_ 2 (.slice A2 m c2)
        have Y1 := Q.grown q1 (fun e => by injection e with e; omega)
        have X1 := X.grown q1 (fun e => by injection e with e; omega)
        have K1 := K.grown q1 (fun e => by injection e with e; omega)
        have J1 := J.grown q1 (fun e => by injection e with e; omega)
        have D1 := D.grown q1 (fun e => by injection e with e; omega)
        have hbs := HB.out.size
        have HB1 := Lib.hid (HB.out.grown q1 hbs (fun k e => by injection e with e; omega))
        have HO1 := Lib.hid (HO.out.past q1 (by omega))
        obtain ⟨wA, hwA⟩ : ∃ u, u = ((wd.setCell ⟨w.heap.size, 0, none⟩ (.string nm)).setCell ⟨w.heap.size, 1, none⟩ (.int .i64 (st : Int))).setCell ⟨w.heap.size, 2, none⟩ (.slice A2 m c2) := ⟨_, rfl⟩
        rw [← hwA] at R1 Y1 X1 K1 J1 D1 HB1 HO1
        refine wpAnyH_ready (rs := [4]) (by kernel_rfl) (by simp) ?_
        refine AllReadyH.cons (o := _) rfl (fun K0 hK0 => ?_) AllReadyH.nil
        go_simp
        try rw [← hwA]
        refine hK0.out _ _ (cS.out _ K1 J1 D1) (fun hHeld1 => ?_)
        clear hK0 K0 rc0 rc1 rc2 rf0 rf1 rf2 R Q X K J D hHeld hwA q1
        (try simp only [Act.put, List.setIfInBounds_toArray, List.set_cons_zero, List.set_cons_succ])
        have yc0 := Y1.cell 0; have yc1 := Y1.cell 1
        have yf0 := Y1.frozen 0; have yf1 := Y1.frozen 1
        simp only [List.getElem?_cons_zero, List.getElem?_cons_succ] at yc0 yc1
        have q2 := sets2_grown wA (w.heap.size + 1) (.string kb) (.string ks)
        have R2 := R1.grown q2 (fun e => by injection e with e; omega)
        have Y2 := (Y1.set_ 0 (.string kb)).set_ 1 (.string ks)
        have X2 := X1.grown q2 (fun e => by injection e with e; omega)
        have K2 := K1.grown q2 (fun e => by injection e with e; omega)
        have J2 := J1.grown q2 (fun e => by injection e with e; omega)
        have D2 := D1.grown q2 (fun e => by injection e with e; omega)
        have HB2 := Lib.hid (HB1.out.grown q2 HB1.out.size (fun k e => by injection e with e; omega))
        have HO2 := Lib.hid (HO1.out.past q2 (by omega))
        obtain ⟨wB, hwB⟩ : ∃ u, u = (wA.setCell ⟨w.heap.size + 1, 0, none⟩ (.string kb)).setCell ⟨w.heap.size + 1, 1, none⟩ (.string ks) := ⟨_, rfl⟩
        rw [← hwB] at R2 Y2 X2 K2 J2 D2 HB2 HO2
        refine wpAnyH_ready (rs := [5]) (by kernel_rfl) (by simp) ?_
        refine AllReadyH.cons (o := _) rfl (fun K0 hK0 => ?_) AllReadyH.nil
        go_simp
        try rw [← hwB]
        refine hK0.out _ _ (cS.out _ K2 J2 D2) (fun hHeld2 => ?_)
        clear hK0 K0 yc0 yc1 yf0 yf1 hHeld1 hwB q2 R1 Y1 X1 K1 J1 D1 HB1 HO1
        (try simp only [Act.put, List.setIfInBounds_toArray, List.set_cons_zero, List.set_cons_succ])
        refine wpAnyH_ready (rs := [6]) (by kernel_rfl) (by simp) ?_
        refine AllReadyH.cons (o := _) rfl (fun K0 hK0 => ?_) AllReadyH.nil
        go_simp
        refine hK0.out _ _ (cS.out _ K2 J2 D2) (fun hHeld3 => ?_)
        clear hK0 K0 hHeld2
        (try simp only [Act.put, List.setIfInBounds_toArray, List.set_cons_zero, List.set_cons_succ])
        have xc0 := X2.cell 0; have xc1 := X2.cell 1; have xc2 := X2.cell 2
        have xf0 := X2.frozen 0; have xf1 := X2.frozen 1; have xf2 := X2.frozen 2
        simp only [List.getElem?_cons_zero, List.getElem?_cons_succ] at xc0 xc1 xc2
        have q3 := sets3_grown wB (w.heap.size + 1 + 1) (.string sx) (.int .i64 ax) (.int .i64 bx)
        have R3 := R2.grown q3 (fun e => by injection e with e; omega)
        have Y3 := Y2.grown q3 (fun e => by injection e with e; omega)
        have X3 := ((X2.set_ 0 (.string sx)).set_ 1 (.int .i64 ax)).set_ 2 (.int .i64 bx)
        have K3 := K2.grown q3 (fun e => by injection e with e; omega)
        have J3 := J2.grown q3 (fun e => by injection e with e; omega)
        have D3 := D2.grown q3 (fun e => by injection e with e; omega)
        have HB3 := Lib.hid (HB2.out.grown q3 HB2.out.size (fun k e => by injection e with e; omega))
        have HO3 := Lib.hid (HO2.out.past q3 (by omega))
        obtain ⟨wC, hwC⟩ : ∃ u, u = ((wB.setCell ⟨w.heap.size + 1 + 1, 0, none⟩ (.string sx)).setCell ⟨w.heap.size + 1 + 1, 1, none⟩ (.int .i64 ax)).setCell ⟨w.heap.size + 1 + 1, 2, none⟩ (.int .i64 bx) := ⟨_, rfl⟩
        rw [← hwC] at R3 Y3 X3 K3 J3 D3 HB3 HO3
        refine wpAnyH_ready (rs := [7]) (by kernel_rfl) (by simp) ?_
        refine AllReadyH.cons (o := _) rfl (fun K0 hK0 => ?_) AllReadyH.nil
        go_simp
        try rw [← hwC]
        refine hK0.out _ _ (cS.out _ K3 J3 D3) (fun hHeld4 => ?_)
        clear hK0 K0 xc0 xc1 xc2 xf0 xf1 xf2 hHeld3 hwC q3
        (try simp only [Act.put, List.setIfInBounds_toArray, List.set_cons_zero, List.set_cons_succ])
        refine wpAnyH_done (by kernel_rfl) ?_ _
        (try simp only [Act.put, List.setIfInBounds_toArray, List.set_cons_zero, List.set_cons_succ])
        have u0 := R3.cell 0; have u1 := R3.cell 1; have u2 := R3.cell 2
        have v0 := Y3.cell 0; have v1 := Y3.cell 1
        have t0 := X3.cell 0; have t1 := X3.cell 1; have t2 := X3.cell 2
        simp only [List.set_cons_zero, List.set_cons_succ, List.getElem?_cons_zero, List.getElem?_cons_succ] at u0 u1 u2 v0 v1 t0 t1 t2
        clear R2 Y2 X2 R3 Y3 X3 K2 J2 D2 K3 J3 D3 HC HB2 HO2 hHeld4
        rename_i aK
        refine aK _ _ ?_
        refine wp_ret ?_
        refine bodyPost_ret (v := .tuple #[.agg #[.string nm, .int .i64 (st : Int), .slice A2 m c2], .agg #[.string kb, .string ks], .int .i64 (N : Nat), .agg #[.string sx, .int .i64 ax, .int .i64 bx]]) (by simp [results, Tryz.results9, go_sem, u0, u1, u2, v0, v1, t0, t1, t2]) rfl ?_
        exact ⟨nm, st, A2, m, c2, L, kb, ks, N, sx, ax, bx, rfl, HDR.out, zkb, zks, by omega, by omega, HO3.out.base_le (by omega), HB3.out⟩
end Go.Proofs.YtidolgonmimicaaGreat
namespace Go.Proofs.YtidolgonmimicaaGreat
open Go.ChangeShapes Go.WideShapes Go.ChangeAt Go.RowKit Go.Deep
set_option maxHeartbeats 1000000 in
set_option maxRecDepth 100000 in
theorem laws_qNumber {A : Option Addr} {n c : Nat} {w0 w : World} (hS : Src w0 A n) (hb : Below w0.heap.size w0 w) :
    Calls Tryz.prog 18 #[.slice A n c] w fun e w' => ∃ q : Nat, e = .returned (.int .i64 (q : Int)) ∧ q ≤ 1000002 ∧ w = w' := by
  obtain ⟨l, rfl, hn, hlb, hR⟩ := hS
  have HLB := Lib.hid hlb
  have HRR := Lib.hid (hR.below hb (Nat.le_refl _))
  clear hlb hR
  go_in
  go_wp2
  go_loopw [3, 8] (fun v i wr => ∃ k q : Nat, k ≤ l.length ∧ v = .int .i64 q ∧ i = .int .i64 k ∧ q ≤ 1000002 ∧ w = wr) (fun _ i _ => l.length - (intOf i).toNat)
  case atStart => exact ⟨0, 0, Nat.zero_le _, rfl, rfl, by omega, rfl⟩
  case round =>
    obtain ⟨k, q, hk, rfl, rfl, hq, rfl⟩ := hrel
    by_cases hlt : k < l.length
    · have hI : (k : Int) < (l.length : Int) := by omega
      have hwk : IntKind.i64.wrap ((k : Int) + 1) = ((k + 1 : Nat) : Int) := by rw [wrap_id (by omega)]; omega
      obtain ⟨b, o, x, e, _, hx, hc⟩ := HRR.out.at_byte hlt
      subst e
      obtain ⟨x0, x1⟩ := HLB.out x (List.mem_of_getElem? hx)
      obtain ⟨X, rfl⟩ := Int.eq_ofNat_of_zero_le x0
      have hX : X ≤ 255 := by omega
      have hw1 : IntKind.i64.wrap (31 * (q : Int)) = 31 * (q : Int) := wrap_id (by omega)
      have hw2 : IntKind.i64.wrap (31 * (q : Int) + (X : Int)) = 31 * (q : Int) + (X : Int) := wrap_id (by omega)
      have hwx : IntKind.i64.wrap (X : Int) = (X : Int) := wrap_id (by omega)
      have hm : (31 * (q : Int) + (X : Int)).tmod 1000003 = (((31 * q + X) % 1000003 : Nat) : Int) := by
        rw [Int.tmod_eq_emod_of_nonneg (by omega)]; omega
      have hm2 : (31 * (q : Int) + (X : Int)) % 1000003 = (((31 * q + X) % 1000003 : Nat) : Int) := by omega
      have hwm : IntKind.i64.wrap (((31 * q + X) % 1000003 : Nat) : Int) = (((31 * q + X) % 1000003 : Nat) : Int) := wrap_id (by omega)
      obtain ⟨z, hz⟩ : ∃ z, z = (31 * q + X) % 1000003 := ⟨_, rfl⟩
      have hzl : z ≤ 1000002 := by omega
      rw [← hz] at hm hm2 hwm
      clear hx hz
      go_wp2
      go_roundw
      case rel => exact ⟨k + 1, z, by omega, by first | rfl | go_num, by go_num, hzl, trivial⟩
      case measure => simp [intOf]; omega
    · obtain rfl : k = l.length := by omega
      have hI : ¬ (l.length : Int) < (l.length : Int) := by omega
      go_wp2
      go_ret
      exact ⟨q, rfl, hq, rfl⟩
end Go.Proofs.YtidolgonmimicaaGreat
namespace Go.Proofs.YtidolgonmimicaaGreat
open Go.ChangeShapes Go.WideShapes Go.ChangeAt Go.RowKit Go.Deep
set_option maxHeartbeats 8000000 in
set_option maxRecDepth 100000 in
theorem law_Cuts (A0 : Option Addr) (c0 : Nat) (l0 : List Int) (A1 : Option Addr) (c1 : Nat) (l1 : List Int) (w : World) (h0 : Recs byteE 1 w A0 l0) (hm0 : l0.length ≤ 9223372036854775807) (hb0 : ∀ x ∈ l0, 0 ≤ x ∧ x ≤ 255)
    (h1 : Recs byteE 1 w A1 l1) (hm1 : l1.length ≤ 9223372036854775807) (hb1 : ∀ x ∈ l1, 0 ≤ x ∧ x ≤ 255) :
    Calls Tryz.prog 3 #[.slice A0 l0.length c0, .slice A1 l1.length c1] w fun e w' => e = .returned (.bool true) ∧ Below w.heap.size w w' := by
  have S0 := Lib.hid (show Src w A0 l0.length from ⟨l0, rfl, hm0, hb0, h0⟩)
  have S1 := Lib.hid (show Src w A1 l1.length from ⟨l1, rfl, hm1, hb1, h1⟩)
  clear h0 hb0 h1 hb1
  by_cases hz : wrap64 ((l0.length : Int) + (l1.length : Int)) ≤ 1048576
  · have hI : ¬ 1048576 < wrap64 ((l0.length : Int) + (l1.length : Int)) := by omega
    clear hz
    go_in
    go_wp2_with fail
    clear hI
    refine (draw_IsCut S0.out).mono ?_; rintro e v ⟨nm, st, B, m, d, L, kb, ks, N, s, x, y, rfl, hdr, zk, zs, hN7, hs100, ho, hv⟩
    have hdf := drM_f13 hdr
    have HL := Lib.hid ho.len
    have hcap := ho.cap.1
    have z : m ≤ 1048576 := by have := HL.out; omega
    have zk2 : kb.size ≤ 16777216 := by omega
    have zs2 : ks.size ≤ 16777216 := by omega
    have zt2 : s.size ≤ 16777216 := by omega
    have hN : N ≤ 1000 := by omega
    have a1 : Below v.heap.size v (((v.alloc (.cells #[.string nm, .int .i64 (st : Int), .slice B m d] 25)).alloc (.cells #[.string kb, .string ks] 27)).alloc (.cells #[.string s, .int .i64 x, .int .i64 y] 29)) := by (repeat' (first | (with_reducible exact Below.refl _ _) | (with_reducible assumption) | (with_reducible refine below_drewN ?_ _) | (with_reducible refine Below.drew ?_) | (with_reducible refine below_alloc ?_ _) | (with_reducible refine Below.alloc ?_ ?_ _) | (with_reducible refine Below.setCell ?_ ?_ _) | (with_reducible refine below_go ?_ (by with_reducible assumption)) | (with_reducible refine below_then (by with_reducible assumption) ?_ ?_) | go_size))
    have K := ((Blk.at_ v 25 [.string nm, .int .i64 (st : Int), .slice B m d] (b := v.heap.size) rfl).alloc (.cells #[.string kb, .string ks] 27)).alloc (.cells #[.string s, .int .i64 x, .int .i64 y] 29)
    have J := (Blk.at_ (v.alloc (.cells #[.string nm, .int .i64 (st : Int), .slice B m d] 25)) 27 [.string kb, .string ks] (b := v.heap.size + 1) (by simp)).alloc (.cells #[.string s, .int .i64 x, .int .i64 y] 29)
    have D := Blk.at_ ((v.alloc (.cells #[.string nm, .int .i64 (st : Int), .slice B m d] 25)).alloc (.cells #[.string kb, .string ks] 27)) 29 [.string s, .int .i64 x, .int .i64 y] (b := v.heap.size + 1 + 1) (by simp)
    have R := Lib.hid (ho.recs.up a1)
    have HW := Lib.hid (below_go hv a1)
    clear hv a1 hdr ho
    go_upto_region 4 with fail
    obtain ⟨u, hu⟩ : ∃ u, u = ((v.alloc (.cells #[.string nm, .int .i64 (st : Int), .slice B m d] 25)).alloc (.cells #[.string kb, .string ks] 27)).alloc (.cells #[.string s, .int .i64 x, .int .i64 y] 29) := ⟨_, rfl⟩
    rw [← hu] at K J D R HW ⊢
    obtain ⟨p, hp⟩ : ∃ u, u = v.heap.size := ⟨_, rfl⟩
    rw [← hp] at K J D ⊢
    clear hu hp
    obtain ⟨ak, hak⟩ : ∃ u, u = askS nm st L kb ks N := ⟨_, rfl⟩
    have HAK := Lib.hid hak
    obtain ⟨ic, hic⟩ : ∃ u, u = icV nm st L kb ks N (s, x, y) := ⟨_, rfl⟩
    have HIC := Lib.hid hic
    clear hak hic
    have kc0 := K.cell 0; have kc1 := K.cell 1; have kc2 := K.cell 2; have jc0 := J.cell 0; have jc1 := J.cell 1; have dc0 := D.cell 0; have dc1 := D.cell 1; have dc2 := D.cell 2
    simp only [List.getElem?_cons_zero, List.getElem?_cons_succ] at kc0 kc1 kc2 jc0 jc1 dc0 dc1 dc2
    go_wp2_with fail
    refine (impl_IsCut (nm := nm) (s := s) (x := x) (y := y) HL.out R.out z hdf.2.2.2.1 hdf.1 hdf.2.1 zk2 zs2 hN zt2).mono ?_; rw [← HAK.out, ← HIC.out]; rintro e y2 ⟨rfl, hy⟩
    clear kc0 kc1 kc2 jc0 jc1 dc0 dc1 dc2
    replace K := K.up hy
    replace J := J.up hy
    replace D := D.up hy
    replace R := Lib.hid (R.out.up hy)
    replace HW := Lib.hid (below_go HW.out hy)
    clear hy
    have kc0 := K.cell 0; have kc1 := K.cell 1; have kc2 := K.cell 2; have jc0 := J.cell 0; have jc1 := J.cell 1; have dc0 := D.cell 0; have dc1 := D.cell 1; have dc2 := D.cell 2
    simp only [List.getElem?_cons_zero, List.getElem?_cons_succ] at kc0 kc1 kc2 jc0 jc1 dc0 dc1 dc2
    go_wp2_with fail
    refine (spec_IsCut (nm := nm) (s := s) (x := x) (y := y) HL.out R.out z hdf.2.2.2.1 hdf.1 hdf.2.1 zk2 zs2 hN zt2 hcap).mono ?_; rw [← HAK.out, ← HIC.out]; rintro e y2 ⟨rfl, hy⟩
    clear kc0 kc1 kc2 jc0 jc1 dc0 dc1 dc2
    replace K := K.up hy
    replace J := J.up hy
    replace D := D.up hy
    replace R := Lib.hid (R.out.up hy)
    replace HW := Lib.hid (below_go HW.out hy)
    clear hy
    go_wp2_with fail
    refine (impl_AllTouches hN).mono ?_; rintro e y2 ⟨A3, m3, c3, rfl, ho3, hm3, hy⟩
    have Q1 := Lib.hid ho3.len
    have Q2 := Lib.hid ho3.recs
    clear ho3
    replace K := K.up hy
    replace J := J.up hy
    replace D := D.up hy
    replace R := Lib.hid (R.out.up hy)
    replace HW := Lib.hid (below_go HW.out hy)
    clear hy
    go_wp2_with fail
    refine (spec_AllTouches hN).mono ?_; rintro e y2 ⟨A4, m4, c4, rfl, ho4, hm4, hy⟩
    have Q3 := Lib.hid ho4.recs
    obtain rfl : m4 = m3 := by rw [← ho4.len, ← Q1.out]
    clear ho4
    replace K := K.up hy
    replace J := J.up hy
    replace D := D.up hy
    replace R := Lib.hid (R.out.up hy)
    replace HW := Lib.hid (below_go HW.out hy)
    replace Q2 := Lib.hid (Q2.out.up hy)
    clear hy
    obtain ⟨ab, hab⟩ : ∃ u, u = inB (N : Int) 1 6 := ⟨_, rfl⟩
    rw [← hab]
    clear hab
    go_wp2_with fail
    refine (draw_NextTouch (S1.out.over HW.out)).mono ?_; rintro e y2 ⟨t, rfl, ht61, hy⟩
    replace K := K.up hy
    replace J := J.up hy
    replace D := D.up hy
    replace R := Lib.hid (R.out.up hy)
    replace HW := Lib.hid (below_go HW.out hy)
    replace Q2 := Lib.hid (Q2.out.up hy)
    replace Q3 := Lib.hid (Q3.out.up hy)
    clear hy
    have ht16 : t.size ≤ 16777216 := by omega
    go_wp2_with fail
    refine (impl_NextTouch ht16).mono ?_; intro e y2 hx
    obtain ⟨yt, nk, rfl, hn1, hy⟩ := hx
    have HN1 := Lib.hid hn1
    clear hn1
    replace K := K.up hy
    replace J := J.up hy
    replace D := D.up hy
    replace R := Lib.hid (R.out.up hy)
    replace HW := Lib.hid (below_go HW.out hy)
    replace Q2 := Lib.hid (Q2.out.up hy)
    replace Q3 := Lib.hid (Q3.out.up hy)
    clear hy
    go_wp2_with fail
    refine (spec_NextTouch ht16).mono ?_; intro e y2 hx
    obtain ⟨yt2, nk2, rfl, hn2, hy⟩ := hx
    obtain ⟨rfl, rfl⟩ := HN1.out.uniq hn2
    clear hn2
    replace K := K.up hy
    replace J := J.up hy
    replace D := D.up hy
    replace R := Lib.hid (R.out.up hy)
    replace HW := Lib.hid (below_go HW.out hy)
    replace Q2 := Lib.hid (Q2.out.up hy)
    replace Q3 := Lib.hid (Q3.out.up hy)
    clear hy
    rcases nk
    · skip
      go_wp2_with fail
      refine (laws_qSameS Q1.out Q2.out Q3.out (by omega)).mono ?_; rintro e y2 ⟨rfl, hy⟩
      replace K := K.up hy
      replace J := J.up hy
      replace D := D.up hy
      replace R := Lib.hid (R.out.up hy)
      replace HW := Lib.hid (below_go HW.out hy)
      clear hy
      rcases ak
      · go_wp2
        go_ret
        exact ⟨rfl, HW.out⟩
      · rcases ic
        · go_wp2
          go_ret
          exact ⟨rfl, HW.out⟩
        · skip
          obtain ⟨hask, hsN, hpre, hcut⟩ := ic_t HIC.out.symm
          have HASK := Lib.hid hask
          have hN16 := (askS_t hask).2
          have HIC2 := Lib.hid HIC.out.symm
          have hsI : ¬ (N : Int) < (s.size : Int) := by omega
          have hsI2 : ¬ N < s.size := by omega
          clear hcut hask
          have kc0 := K.cell 0; have kc1 := K.cell 1; have kc2 := K.cell 2; have jc0 := J.cell 0; have jc1 := J.cell 1; have dc0 := D.cell 0; have dc1 := D.cell 1; have dc2 := D.cell 2
          simp only [List.getElem?_cons_zero, List.getElem?_cons_succ] at kc0 kc1 kc2 jc0 jc1 dc0 dc1 dc2
          go_wp2
          have HWL := HW
          go_loopw [22, 23] (fun tv iv wr => ∃ (t : ByteArray) (k : Nat), tv = .string t ∧ iv = .int .i64 k ∧ k ≤ 10 ∧ t.size = s.size + k ∧ t.size ≤ N ∧ Hid (Pre s t) ∧ Hid (preT t) ∧ Hid (Below y2.heap.size y2 wr)) (fun _ iv _ => 11 - (intOf iv).toNat)
          case atStart => exact ⟨s, 0, rfl, rfl, by omega, by omega, hsN, Lib.hid (Pre.refl s), Lib.hid hpre, Lib.hid (Below.refl _ _)⟩
          case round =>
            obtain ⟨t2, k, rfl, rfl, hk10, htk, htN, HPR, HPT, HBR⟩ := hrel
            rename World => wr
            by_cases hlt : t2.size < N
            · have hI : (t2.size : Int) < (N : Int) := by omega
              have hwk : IntKind.i64.wrap ((k : Int) + 1) = ((k + 1 : Nat) : Int) := by rw [wrap_id (by omega)]; omega
              have HBW := Lib.hid (below_go HWL.out HBR.out)
              have a8 : Below wr.heap.size wr (wr.alloc (.cells #[.string ⟨#[98]⟩, .string ⟨#[112]⟩, .string ⟨#[115]⟩] 9)) := by (repeat' (first | (with_reducible exact Below.refl _ _) | (with_reducible assumption) | (with_reducible refine below_drewN ?_ _) | (with_reducible refine Below.drew ?_) | (with_reducible refine below_alloc ?_ _) | (with_reducible refine Below.alloc ?_ ?_ _) | (with_reducible refine Below.setCell ?_ ?_ _) | (with_reducible refine below_go ?_ (by with_reducible assumption)) | (with_reducible refine below_then (by with_reducible assumption) ?_ ?_) | go_size))
              go_wp2_with fail
              refine (laws_qNumber S1.out (below_go HBW.out a8)).mono ?_; rintro e w9 ⟨q, rfl, hq, rfl⟩
              have hw1 : IntKind.i64.wrap (7 * (k : Int)) = 7 * (k : Int) := wrap_id (by omega)
              have hw2 : IntKind.i64.wrap ((q : Int) + 7 * (k : Int)) = (q : Int) + 7 * (k : Int) := wrap_id (by omega)
              have htm : ((q : Int) + 7 * (k : Int)).tmod 3 = (((q + 7 * k) % 3 : Nat) : Int) := by
                rw [Int.tmod_eq_emod_of_nonneg (by omega)]; omega
              have htm2 : ((q : Int) + 7 * (k : Int)) % 3 = (((q + 7 * k) % 3 : Nat) : Int) := by omega
              obtain ⟨r, hr⟩ : ∃ r, r = (q + 7 * k) % 3 := ⟨_, rfl⟩
              have hr3 : r < 3 := by omega
              rw [← hr] at htm htm2
              clear hr
              have hrI : (r : Int) < 3 := by omega
              have hwr : IntKind.i64.wrap (r : Int) = (r : Int) := wrap_id (by omega)
              obtain ⟨ch, hcm, hcz, hgl⟩ : ∃ ch : ByteArray, t2 ++ ch ∈ kids t2 ∧ ch.size = 1 ∧ ∀ h : r < [Value.string (⟨#[98]⟩ : ByteArray), Value.string ⟨#[112]⟩, Value.string ⟨#[115]⟩].length, [Value.string (⟨#[98]⟩ : ByteArray), Value.string ⟨#[112]⟩, Value.string ⟨#[115]⟩][r]'h = Value.string ch := by
                rcases r with _ | _ | _ | r
                · exact ⟨⟨#[98]⟩, by simp [kids, lB], rfl, fun _ => rfl⟩
                · exact ⟨⟨#[112]⟩, by simp [kids, lP], rfl, fun _ => rfl⟩
                · exact ⟨⟨#[115]⟩, by simp [kids, lS], rfl, fun _ => rfl⟩
                · omega
              have hkid := hcm
              have HPT2 := Lib.hid (pre_kidT HPT.out (by omega) hkid)
              have HPR2 := Lib.hid (HPR.out.trans (pre_kid hkid))
              have hts : (t2 ++ ch).size = t2.size + 1 := by rw [ByteArray.size_append, hcz]
              have hov : ¬ 9223372036854775807 < t2.size + ch.size := by omega
              have HB8 := Lib.hid (HBR.out.trans (a8.mono HBR.out.size))
              clear hcm hkid a8
              go_wp2
              go_roundw
              case rel => exact ⟨t2 ++ ch, k + 1, rfl, by go_num, by omega, by omega, by omega, HPR2, HPT2, HB8⟩
              case measure => simp [intOf]; omega
            · have hI : ¬ (t2.size : Int) < (N : Int) := by omega
              have htE : t2.size = N := by omega
              have hfact := cuts_fact HIC2.out HPR.out htE
              have HGF := Lib.hid (goodF_of HASK.out HPT.out htE)
              have HTV := Lib.hid (thV_t HGF.out)
              have hy := HBR.out
              have hz16 : t2.size ≤ 16777216 := by omega
              clear hpre
              replace K := K.up hy
              replace J := J.up hy
              replace D := D.up hy
              replace R := Lib.hid (R.out.up hy)
              replace HW := Lib.hid (below_go HW.out hy)
              clear hy
              try clear kc0 kc1 kc2 jc0 jc1 dc0 dc1 dc2
              obtain ⟨rd, hrd⟩ : ∃ u, u = decide (hdAt st L kb ks t2 t2.size = roundsS st) := ⟨_, rfl⟩
              obtain ⟨tr, htr⟩ : ∃ u, u = trueH st L kb ks t2 := ⟨_, rfl⟩
              rw [← hrd, ← htr] at hfact
              have HRD := Lib.hid hrd
              have HTR := Lib.hid htr
              have HFA := Lib.hid hfact
              clear hrd htr hfact
              have kc0 := K.cell 0; have kc1 := K.cell 1; have kc2 := K.cell 2; have jc0 := J.cell 0; have jc1 := J.cell 1
              simp only [List.getElem?_cons_zero, List.getElem?_cons_succ] at kc0 kc1 kc2 jc0 jc1
              go_wp2_with fail
              refine (spec_IsRound (nm := nm) (t := t2) HL.out R.out z hdf.2.2.2.1 hdf.1 hdf.2.1 zk2 zs2 hz16 hcap).mono ?_; rw [HGF.out, ← HRD.out, Bool.true_and]; rintro e y3 ⟨rfl, hy⟩
              clear kc0 kc1 kc2 jc0 jc1
              replace K := K.up hy
              replace J := J.up hy
              replace D := D.up hy
              replace R := Lib.hid (R.out.up hy)
              replace HW := Lib.hid (below_go HW.out hy)
              clear hy
              have kc0 := K.cell 0; have kc1 := K.cell 1; have kc2 := K.cell 2; have jc0 := J.cell 0; have jc1 := J.cell 1
              simp only [List.getElem?_cons_zero, List.getElem?_cons_succ] at kc0 kc1 kc2 jc0 jc1
              go_wp2_with fail
              refine (spec_TrueByHeads (nm := nm) (t := t2) HL.out R.out z hdf.2.2.2.1 hdf.1 hdf.2.1 zk2 zs2 hz16 hcap).mono ?_; rw [HTV.out, HGF.out, ← HTR.out]; rintro e y3 ⟨rfl, hy⟩
              clear kc0 kc1 kc2 jc0 jc1
              replace K := K.up hy
              replace J := J.up hy
              replace D := D.up hy
              replace R := Lib.hid (R.out.up hy)
              replace HW := Lib.hid (below_go HW.out hy)
              clear hy
              rcases rd
              · go_wp2
                go_ret
                exact ⟨rfl, HW.out⟩
              · rcases tr
                · go_wp2
                  go_ret
                  exact ⟨rfl, HW.out⟩
                · exact absurd HFA.out (by decide)
    · skip
      obtain ⟨hl1, hl2⟩ := HN1.out.law
      have hlI : ((yt.size : Int) == (t.size : Int)) = true := by rw [hl1]; simp
      obtain ⟨hle2, hle3, hle4⟩ := less_yes hl2
      have hlS : yt.size = t.size := hl1
      clear hl2 hl1
      go_wp2_with fail
      refine (laws_qSameS Q1.out Q2.out Q3.out (by omega)).mono ?_; rintro e y2 ⟨rfl, hy⟩
      replace K := K.up hy
      replace J := J.up hy
      replace D := D.up hy
      replace R := Lib.hid (R.out.up hy)
      replace HW := Lib.hid (below_go HW.out hy)
      clear hy
      rcases ak
      · go_wp2
        go_ret
        exact ⟨rfl, HW.out⟩
      · rcases ic
        · go_wp2
          go_ret
          exact ⟨rfl, HW.out⟩
        · skip
          obtain ⟨hask, hsN, hpre, hcut⟩ := ic_t HIC.out.symm
          have HASK := Lib.hid hask
          have hN16 := (askS_t hask).2
          have HIC2 := Lib.hid HIC.out.symm
          have hsI : ¬ (N : Int) < (s.size : Int) := by omega
          have hsI2 : ¬ N < s.size := by omega
          clear hcut hask
          have kc0 := K.cell 0; have kc1 := K.cell 1; have kc2 := K.cell 2; have jc0 := J.cell 0; have jc1 := J.cell 1; have dc0 := D.cell 0; have dc1 := D.cell 1; have dc2 := D.cell 2
          simp only [List.getElem?_cons_zero, List.getElem?_cons_succ] at kc0 kc1 kc2 jc0 jc1 dc0 dc1 dc2
          go_wp2
          have HWL := HW
          go_loopw [22, 23] (fun tv iv wr => ∃ (t : ByteArray) (k : Nat), tv = .string t ∧ iv = .int .i64 k ∧ k ≤ 10 ∧ t.size = s.size + k ∧ t.size ≤ N ∧ Hid (Pre s t) ∧ Hid (preT t) ∧ Hid (Below y2.heap.size y2 wr)) (fun _ iv _ => 11 - (intOf iv).toNat)
          case atStart => exact ⟨s, 0, rfl, rfl, by omega, by omega, hsN, Lib.hid (Pre.refl s), Lib.hid hpre, Lib.hid (Below.refl _ _)⟩
          case round =>
            obtain ⟨t2, k, rfl, rfl, hk10, htk, htN, HPR, HPT, HBR⟩ := hrel
            rename World => wr
            by_cases hlt : t2.size < N
            · have hI : (t2.size : Int) < (N : Int) := by omega
              have hwk : IntKind.i64.wrap ((k : Int) + 1) = ((k + 1 : Nat) : Int) := by rw [wrap_id (by omega)]; omega
              have HBW := Lib.hid (below_go HWL.out HBR.out)
              have a8 : Below wr.heap.size wr (wr.alloc (.cells #[.string ⟨#[98]⟩, .string ⟨#[112]⟩, .string ⟨#[115]⟩] 9)) := by (repeat' (first | (with_reducible exact Below.refl _ _) | (with_reducible assumption) | (with_reducible refine below_drewN ?_ _) | (with_reducible refine Below.drew ?_) | (with_reducible refine below_alloc ?_ _) | (with_reducible refine Below.alloc ?_ ?_ _) | (with_reducible refine Below.setCell ?_ ?_ _) | (with_reducible refine below_go ?_ (by with_reducible assumption)) | (with_reducible refine below_then (by with_reducible assumption) ?_ ?_) | go_size))
              go_wp2_with fail
              refine (laws_qNumber S1.out (below_go HBW.out a8)).mono ?_; rintro e w9 ⟨q, rfl, hq, rfl⟩
              have hw1 : IntKind.i64.wrap (7 * (k : Int)) = 7 * (k : Int) := wrap_id (by omega)
              have hw2 : IntKind.i64.wrap ((q : Int) + 7 * (k : Int)) = (q : Int) + 7 * (k : Int) := wrap_id (by omega)
              have htm : ((q : Int) + 7 * (k : Int)).tmod 3 = (((q + 7 * k) % 3 : Nat) : Int) := by
                rw [Int.tmod_eq_emod_of_nonneg (by omega)]; omega
              have htm2 : ((q : Int) + 7 * (k : Int)) % 3 = (((q + 7 * k) % 3 : Nat) : Int) := by omega
              obtain ⟨r, hr⟩ : ∃ r, r = (q + 7 * k) % 3 := ⟨_, rfl⟩
              have hr3 : r < 3 := by omega
              rw [← hr] at htm htm2
              clear hr
              have hrI : (r : Int) < 3 := by omega
              have hwr : IntKind.i64.wrap (r : Int) = (r : Int) := wrap_id (by omega)
              obtain ⟨ch, hcm, hcz, hgl⟩ : ∃ ch : ByteArray, t2 ++ ch ∈ kids t2 ∧ ch.size = 1 ∧ ∀ h : r < [Value.string (⟨#[98]⟩ : ByteArray), Value.string ⟨#[112]⟩, Value.string ⟨#[115]⟩].length, [Value.string (⟨#[98]⟩ : ByteArray), Value.string ⟨#[112]⟩, Value.string ⟨#[115]⟩][r]'h = Value.string ch := by
                rcases r with _ | _ | _ | r
                · exact ⟨⟨#[98]⟩, by simp [kids, lB], rfl, fun _ => rfl⟩
                · exact ⟨⟨#[112]⟩, by simp [kids, lP], rfl, fun _ => rfl⟩
                · exact ⟨⟨#[115]⟩, by simp [kids, lS], rfl, fun _ => rfl⟩
                · omega
              have hkid := hcm
              have HPT2 := Lib.hid (pre_kidT HPT.out (by omega) hkid)
              have HPR2 := Lib.hid (HPR.out.trans (pre_kid hkid))
              have hts : (t2 ++ ch).size = t2.size + 1 := by rw [ByteArray.size_append, hcz]
              have hov : ¬ 9223372036854775807 < t2.size + ch.size := by omega
              have HB8 := Lib.hid (HBR.out.trans (a8.mono HBR.out.size))
              clear hcm hkid a8
              go_wp2
              go_roundw
              case rel => exact ⟨t2 ++ ch, k + 1, rfl, by go_num, by omega, by omega, by omega, HPR2, HPT2, HB8⟩
              case measure => simp [intOf]; omega
            · have hI : ¬ (t2.size : Int) < (N : Int) := by omega
              have htE : t2.size = N := by omega
              have hfact := cuts_fact HIC2.out HPR.out htE
              have HGF := Lib.hid (goodF_of HASK.out HPT.out htE)
              have HTV := Lib.hid (thV_t HGF.out)
              have hy := HBR.out
              have hz16 : t2.size ≤ 16777216 := by omega
              clear hpre
              replace K := K.up hy
              replace J := J.up hy
              replace D := D.up hy
              replace R := Lib.hid (R.out.up hy)
              replace HW := Lib.hid (below_go HW.out hy)
              clear hy
              try clear kc0 kc1 kc2 jc0 jc1 dc0 dc1 dc2
              obtain ⟨rd, hrd⟩ : ∃ u, u = decide (hdAt st L kb ks t2 t2.size = roundsS st) := ⟨_, rfl⟩
              obtain ⟨tr, htr⟩ : ∃ u, u = trueH st L kb ks t2 := ⟨_, rfl⟩
              rw [← hrd, ← htr] at hfact
              have HRD := Lib.hid hrd
              have HTR := Lib.hid htr
              have HFA := Lib.hid hfact
              clear hrd htr hfact
              have kc0 := K.cell 0; have kc1 := K.cell 1; have kc2 := K.cell 2; have jc0 := J.cell 0; have jc1 := J.cell 1
              simp only [List.getElem?_cons_zero, List.getElem?_cons_succ] at kc0 kc1 kc2 jc0 jc1
              go_wp2_with fail
              refine (spec_IsRound (nm := nm) (t := t2) HL.out R.out z hdf.2.2.2.1 hdf.1 hdf.2.1 zk2 zs2 hz16 hcap).mono ?_; rw [HGF.out, ← HRD.out, Bool.true_and]; rintro e y3 ⟨rfl, hy⟩
              clear kc0 kc1 kc2 jc0 jc1
              replace K := K.up hy
              replace J := J.up hy
              replace D := D.up hy
              replace R := Lib.hid (R.out.up hy)
              replace HW := Lib.hid (below_go HW.out hy)
              clear hy
              have kc0 := K.cell 0; have kc1 := K.cell 1; have kc2 := K.cell 2; have jc0 := J.cell 0; have jc1 := J.cell 1
              simp only [List.getElem?_cons_zero, List.getElem?_cons_succ] at kc0 kc1 kc2 jc0 jc1
              go_wp2_with fail
              refine (spec_TrueByHeads (nm := nm) (t := t2) HL.out R.out z hdf.2.2.2.1 hdf.1 hdf.2.1 zk2 zs2 hz16 hcap).mono ?_; rw [HTV.out, HGF.out, ← HTR.out]; rintro e y3 ⟨rfl, hy⟩
              clear kc0 kc1 kc2 jc0 jc1
              replace K := K.up hy
              replace J := J.up hy
              replace D := D.up hy
              replace R := Lib.hid (R.out.up hy)
              replace HW := Lib.hid (below_go HW.out hy)
              clear hy
              rcases rd
              · go_wp2
                go_ret
                exact ⟨rfl, HW.out⟩
              · rcases tr
                · go_wp2
                  go_ret
                  exact ⟨rfl, HW.out⟩
                · exact absurd HFA.out (by decide)
  · have hI : 1048576 < wrap64 ((l0.length : Int) + (l1.length : Int)) := by omega
    go_in
    go_wp2
    go_ret
    exact ⟨rfl, Below.refl _ _⟩
end Go.Proofs.YtidolgonmimicaaGreat
