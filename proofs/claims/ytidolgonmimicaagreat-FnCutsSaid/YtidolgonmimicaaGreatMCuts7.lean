/- Texts 7 of 8 that the claim leans on: plain laws and the walks' contracts, in order. -/
import Derived.Test.YtidolgonmimicaaGreatMCuts6
import Derived.BigRegion
import Derived.Lib.Strings
set_option linter.unusedVariables false
set_option linter.unusedSimpArgs false
namespace Go.Proofs.YtidolgonmimicaaGreat
open Go.ChangeShapes Go.WideShapes Go.ChangeAt Go.RowKit Go.Deep
def drM (nm : ByteArray) (st : Nat) (L : List ByteArray) : Prop := nm.size ≤ 16 ∧ 2 ≤ st ∧ st ≤ 9 ∧ L.length ≤ 41 ∧ ∀ s ∈ L, s.size ≤ 8
theorem goodM_changes {nm : ByteArray} {st : Int} {l : List ByteArray} (h : goodM nm st l = true) : ∀ s ∈ l, s.size ≤ 8 := fun s hs => by
  have h1 := (goodM_t h).2.2.2
  rw [allCh, List.all_eq_true] at h1
  obtain ⟨k, hk⟩ := List.getElem?_of_mem hs
  have h2 := h1 k (List.mem_range.2 (List.getElem?_eq_some_iff.1 hk).1)
  rw [okCh_at hk] at h2
  have := goodChange_small h2
  omega
theorem goodM_name {nm : ByteArray} {st : Int} {l : List ByteArray} (h : goodM nm st l = true) : nm.size ≤ 10 := by
  have h1 := (goodM_t h).1
  rw [nameOk, Bool.and_eq_true] at h1
  have := inB_t h1.2
  omega
theorem own_fld {u u' : World} {b base m d : Nat} {B : Option Addr} {l : List ByteArray} {cs : List Value} (ho : Owned strE 1 9 u base B m d l) (hk : Blk u b 25 cs) (hg : u.grownBy u' (some b)) : Owned strE 1 9 u' base B m d l :=
  ho.kept hg (fun k hk' e => by have hne := ho.ne_blk hk (by decide) k hk'; injection e with e; omega)
section
variable {w u u' : World} {p n c a a' b : Nat} {A : Option Addr} {nm : ByteArray} {st : Int} {v v' : Value}
theorem MSt.put0 {x : ByteArray} (h : MSt w u p A n c a b nm st v) : MSt w (u.setCell ⟨b, 0, none⟩ (.string x)) p A n c a b x st v := by
  obtain ⟨h1, h2, ⟨q, y, z, h3⟩, h4, h5, h6⟩ := h
  have hg : u.grownBy (u.setCell ⟨b, 0, none⟩ (.string x)) (some b) := only_set u (p := ⟨b, 0, none⟩) (.string x)
  exact ⟨h1.set_ 0 (.string x), h2.grown hg (fun e => by injection e with e; omega), ⟨q, y, z, h3.grown hg (fun e => by injection e with e; omega)⟩, grow_own h4 hg (fun k e => by injection e with e; omega), h5, h6⟩
theorem MSt.put1 {x : Int} (h : MSt w u p A n c a b nm st v) : MSt w (u.setCell ⟨b, 1, none⟩ (.int .i64 x)) p A n c a b nm x v := by
  obtain ⟨h1, h2, ⟨q, y, z, h3⟩, h4, h5, h6⟩ := h
  have hg : u.grownBy (u.setCell ⟨b, 1, none⟩ (.int .i64 x)) (some b) := only_set u (p := ⟨b, 1, none⟩) (.int .i64 x)
  exact ⟨h1.set_ 1 (.int .i64 x), h2.grown hg (fun e => by injection e with e; omega), ⟨q, y, z, h3.grown hg (fun e => by injection e with e; omega)⟩, grow_own h4 hg (fun k e => by injection e with e; omega), h5, h6⟩
theorem MSt.grown2 {row : Option Nat} (h : MSt w u p A n c a b nm st v) (hg : u.grownBy u' row) (hr : ∀ k, row = some k → w.heap.size < k ∧ k ≠ b) : MSt w u' p A n c a b nm st v := by
  obtain ⟨h1, h2, ⟨x, y, z, h3⟩, h4, h5, h6⟩ := h
  exact ⟨h1.grown hg (fun e => (hr b e.symm).2 rfl), h2.grown hg (fun e => by have := (hr p e.symm).1; omega), ⟨x, y, z, h3.grown hg (fun e => by have := (hr _ e.symm).1; omega)⟩, grow_own h4 hg (fun k e => by have := (hr k e).1; omega), h5, h6⟩
theorem MSt.app {m d base : Nat} {B : Option Addr} {l : List ByteArray} (h : MSt w u p A n c a b nm st v) (ho : Owned strE 1 9 u base B m d l) (hb : w.heap.size < base) (hg : u.grownBy u' (Value.slice B m d).ownBlock) : MSt w u' p A n c a b nm st v :=
  h.grown2 hg (fun k hk => ⟨by have := (ho.blk hk).1; omega, ho.ne_blk h.1 (by decide) k hk⟩)
end
def clen : Option Value → Nat
  | some (.slice _ n _) => n
  | _ => 0
set_option maxHeartbeats 4000000 in
set_option maxRecDepth 100000 in
theorem cur_anyMethod {A : Option Addr} {n c a p : Nat} {w0 w : World} (hS : Src w0 A n) (hb : Below w0.heap.size w0 w) (hp : w0.heap.size ≤ p) (hc : Cur w p A n c a) (ha : a ≤ 900000) :
    Calls Tryz.prog 92 #[.pointer (some ⟨p, 0, none⟩)] w fun e w' => ∃ (nm : ByteArray) (st : Nat) (A' : Option Addr) (m c' : Nat) (L : List ByteArray), e = .returned (.agg #[.string nm, .int .i64 st, .slice A' m c']) ∧ drM nm st L ∧ Owned strE 1 9 w' w.heap.size A' m c' L ∧ Cur w' p A n c (a + 200) ∧ w.grownBy w' (some p) := by
  have hpw := hc.lt
  have R0 := Blk.at_ w 25 [.string ⟨#[]⟩, .int .i64 0, .slice none 0 0] (b := w.heap.size) rfl
  have b0 : Below w.heap.size w (w.alloc (.cells #[.string ⟨#[]⟩, .int .i64 0, .slice none 0 0] 25)) := by (repeat' (first | (with_reducible exact Below.refl _ _) | (with_reducible assumption) | (with_reducible refine below_drewN ?_ _) | (with_reducible refine Below.drew ?_) | (with_reducible refine below_alloc ?_ _) | (with_reducible refine Below.alloc ?_ ?_ _) | (with_reducible refine Below.setCell ?_ ?_ _) | (with_reducible refine below_go ?_ (by with_reducible assumption)) | (with_reducible refine below_then (by with_reducible assumption) ?_ ?_) | go_size))
  have G : Hid (∀ u : World, w.grownBy u (some p) → Below w0.heap.size w0 u) := Lib.hid (fun u hg => grown_below hb hp hg)
  have HS := Lib.hid hS
  clear hS hb
  go_in
  go_wp2_with fail
  obtain ⟨w1, hw1⟩ : ∃ u, u = w.alloc (.cells #[.string ⟨#[]⟩, .int .i64 0, .slice none 0 0] 25) := ⟨_, rfl⟩
  have z1 : w1.heap.size = w.heap.size + 1 := by rw [hw1]; simp
  rw [← hw1] at b0 ⊢
  have R1 : Blk w1 w.heap.size 25 [.string ⟨#[]⟩, .int .i64 0, .slice none 0 0] := by rw [hw1]; exact R0
  clear hw1 R0
  refine (cur_method HS.out (G.out _ (grown_any b0 _)) hp (hc.up b0) (by omega)).mono ?_; rintro e w2 ⟨nm, st, A2, m, c2, L, rfl, hgm, h3, h6, hm, ho2, hc2, hg2⟩
  have g2 : w.grownBy w2 (some p) := grownBy_trans (grown_any b0 _) hg2
  have R2 := R1.grown hg2 (fun e => by injection e with e; omega)
  have s2 := hg2.size
  have zl := goodM_changes hgm
  have zn := goodM_name hgm
  have zL : L.length ≤ 12 := by rw [ho2.len]; exact hm
  have K3 := Blk.at_ w2 25 [.string nm, .int .i64 (st : Int), .slice A2 m c2] (b := w2.heap.size) rfl
  have a3 : Below w2.heap.size w2 (w2.alloc (.cells #[.string nm, .int .i64 (st : Int), .slice A2 m c2] 25)) := by (repeat' (first | (with_reducible exact Below.refl _ _) | (with_reducible assumption) | (with_reducible refine below_drewN ?_ _) | (with_reducible refine Below.drew ?_) | (with_reducible refine below_alloc ?_ _) | (with_reducible refine Below.alloc ?_ ?_ _) | (with_reducible refine Below.setCell ?_ ?_ _) | (with_reducible refine below_go ?_ (by with_reducible assumption)) | (with_reducible refine below_then (by with_reducible assumption) ?_ ?_) | go_size))
  have M3 : MSt w (w2.alloc (.cells #[.string nm, .int .i64 (st : Int), .slice A2 m c2] 25)) p A n c (a + 100) w2.heap.size nm st (.slice A2 m c2) := ⟨K3, hc2.up a3, ⟨_, _, _, R2.up a3⟩, grownBy_trans g2 (grown_any a3 _), hpw, by omega⟩
  have HO3 := Lib.hid (ho2.up a3)
  have HZL := Lib.hid zl
  have hzL := Lib.hid zL
  have fin : Hid (∀ (u v : World) (nm' : ByteArray) (st' : Nat) (A' : Option Addr) (m c' : Nat) (L : List ByteArray), w.grownBy u (some p) → Cur u p A n c (a + 190) → Owned strE 1 9 u (w.heap.size + 1) A' m c' L → nm'.size ≤ 16 → 2 ≤ st' → st' ≤ 9 → m ≤ 41 → (∀ x ∈ L, x.size ≤ 8) → u.grownBy v (some w.heap.size) → ∃ (nm'' : ByteArray) (st'' : Nat) (A'' : Option Addr) (m' c'' : Nat) (L' : List ByteArray), Ending.returned (Value.agg #[.string nm', .int .i64 (st' : Int), .slice A' m c']) = .returned (.agg #[.string nm'', .int .i64 (st'' : Int), .slice A'' m' c'']) ∧ drM nm'' st'' L' ∧ Owned strE 1 9 v w.heap.size A'' m' c'' L' ∧ Cur v p A n c (a + 200) ∧ w.grownBy v (some p)) := Lib.hid (fun u v nm' st' A' m c' L h1 h2 h3 h4 h5 h6 h7 h8 h9 =>
    ⟨nm', st', A', m, c', L, rfl, ⟨h4, h5, h6, by rw [h3.len]; exact h7, h8⟩, (h3.past h9 (by omega)).base_le (by omega), (h2.grown h9 (fun e => by injection e with e; omega)).mono (by omega), grow_own h1 h9 (fun k e => by injection e with e; omega)⟩)
  clear K3 a3 R2 g2 hc2 ho2 hg2 hgm R1 hc zl zL
  go_upto_region 2 with fail
  obtain ⟨w3, hw3⟩ : ∃ u, u = w2.alloc (.cells #[.string nm, .int .i64 (st : Int), .slice A2 m c2] 25) := ⟨_, rfl⟩
  rw [← hw3] at M3 HO3 ⊢
  clear hw3
  rw [z1] at HO3
  obtain ⟨b, hb⟩ : ∃ b, b = w2.heap.size := ⟨_, rfl⟩
  rw [← hb] at M3 ⊢
  clear hb
  go_wp2_with fail
  refine (cur_pick HS.out (G.out _ M3.2.2.2.1) hp M3.2.1 (by omega) (by decide) (by decide)).mono ?_; rintro e w4 ⟨x, rfl, ⟨x0, x1⟩, hc4, hg4⟩
  have HM4 := Lib.hid (M3.draw hg4 hc4)
  have HO4 := Lib.hid (HO3.out.past hg4 (by omega))
  clear hc4 hg4 M3 HO3
  have hx : x = 0 ∨ x = 1 ∨ x = 2 ∨ x = 3 ∨ x = 4 ∨ 5 ≤ x := by omega
  clear x1
  rcases hx with rfl | rfl | rfl | rfl | rfl | hx
  · go_wp2_with fail
    have hl := lit_strs2 w4 9 [⟨#[]⟩, ⟨#[65]⟩, ⟨#[101, 108, 101, 118, 101, 110, 108, 101, 116, 114, 115]⟩]
    have a5 : ∀ o : Obj, Below w4.heap.size w4 (w4.alloc o) := fun o => (Below.refl _ _).alloc (Nat.le_refl _) o
    have HM5 := Lib.hid (HM4.out.alloc (.cells #[.string ⟨#[]⟩, .string ⟨#[65]⟩, .string ⟨#[101, 108, 101, 118, 101, 110, 108, 101, 116, 114, 115]⟩] 9))
    have HO5 := Lib.hid (HO4.out.up (a5 (.cells #[.string ⟨#[]⟩, .string ⟨#[65]⟩, .string ⟨#[101, 108, 101, 118, 101, 110, 108, 101, 116, 114, 115]⟩] 9)))
    have hp4 := HM4.out.2.1.lt
    refine (cur_of HS.out (G.out _ HM5.out.2.2.2.1) hp HM5.out.2.1 (by omega) rfl hl (by decide) (by decide) (fun b o e => by injection e with e; injection e with e; omega)).mono ?_; rintro e w6 ⟨y, hy, rfl, hc6, hg6⟩
    have HM6 := Lib.hid (HM5.out.draw hg6 hc6)
    have HO6 := Lib.hid (HO5.out.past hg6 (by omega))
    have hyz : y.size ≤ 16 := by
      simp only [List.mem_cons, List.not_mem_nil, or_false] at hy
      rcases hy with rfl | rfl | rfl <;> decide
    have g0 := HM6.out.1.cell 0; have e0 := HM6.out.1.frozen 0
    simp only [List.getElem?_cons_zero, List.getElem?_cons_succ] at g0
    have HM := Lib.hid (HM6.out.put0 (x := y))
    have HO := Lib.hid (own_fld HO6.out HM6.out.1 (only_set w6 (p := ⟨b, 0, none⟩) (.string y)))
    have HZ := HZL
    have hOl := HO.out.len
    have hLz := hzL.out
    clear hl a5 hc6 hg6 hy HM6 HO6 HM5 HO5 HM4 HO4
    obtain ⟨K1, K2, ⟨rx, ry, rz, K3⟩, K4, K5, K6⟩ := HM.out
    have kc0 := K1.cell 0; have kc1 := K1.cell 1; have kc2 := K1.cell 2
    have kd0 := K3.cell 0; have kd1 := K3.cell 1; have kd2 := K3.cell 2
    have kf0 := K3.frozen 0; have kf1 := K3.frozen 1; have kf2 := K3.frozen 2
    simp only [List.getElem?_cons_zero, List.getElem?_cons_succ] at kc0 kc1 kc2 kd0 kd1 kd2
    have Z := ((K3.set_ 0 (.string y)).set_ 1 (.int .i64 (st : Int))).set_ 2 (.slice A2 (m) c2)
    have y0 := Z.cell 0; have y1 := Z.cell 1; have y2 := Z.cell 2
    simp only [List.set_cons_zero, List.set_cons_succ, List.getElem?_cons_zero, List.getElem?_cons_succ] at y0 y1 y2
    have HK := Lib.hid K2; have HGR := Lib.hid K4
    clear K1 K2 K3 K4 Z
    go_wp2_with fail
    refine bodyPost_ret (v := .agg #[.string y, .int .i64 (st : Int), .slice A2 (m) c2]) (by simp [results, Tryz.results92, go_sem, y0, y1, y2]) rfl ?_
    have X := fin.out _ _ y st _ _ _ _ HGR.out (HK.out.mono (by omega)) HO.out (by omega) (by omega) (by omega) (by omega) HZ.out (grownBy_trans (grownBy_trans (only_set _ (p := ⟨w.heap.size, 0, none⟩) (.string y)) (only_set _ (p := ⟨w.heap.size, 1, none⟩) (.int .i64 (st : Int)))) (only_set _ (p := ⟨w.heap.size, 2, none⟩) (.slice A2 (m) c2)))
    first | exact X | (obtain ⟨z1, z2, z3, z4, z5, z6, z7, z8⟩ := X; exact ⟨z1, z2, z3, z4, z5, z7, z6, z8⟩)
  · have hOl := HO4.out.len
    have hLz := hzL.out
    have g2 := HM4.out.1.cell 2
    simp only [List.getElem?_cons_zero, List.getElem?_cons_succ] at g2
    have HM5 := Lib.hid (HM4.out.alloc (.cells ⟨[Value.string ⟨#[120]⟩]⟩ 9))
    have HO5 := Lib.hid (HO4.out.alloc (.cells ⟨[Value.string ⟨#[120]⟩]⟩ 9))
    have g2' := HM5.out.1.cell 2
    simp only [List.getElem?_cons_zero, List.getElem?_cons_succ] at g2'
    have hs4 := HM4.out.2.2.2.1.size
    have hbs := HM4.out.1.lt
    go_upto_region 15 with (first | (at_builtin; go_must ((refine wpList_append_recs Tryz.elStr strE_one rfl (.tmp 18) (.tmp 19) rfl rfl HO5.out rfl (own_lit1_at' strE_len _ 9 ⟨#[120]⟩ rfl (Nat.le_refl _)).recs rfl ?_ (by decide) ?_ ?_; (focus (first | omega | (simp only [World.size_alloc]; done) | (simp only [World.size_alloc]; omega) | (simp; done) | (simp; omega))); (simp; omega); intro A3 c3 w9 ho9 hg9 hl9; have HM9 := Lib.hid (HM5.out.app HO5.out (by omega) hg9); have g3 := HM9.out.1.cell 2; have e3 := HM9.out.1.frozen 2; simp only [List.getElem?_cons_zero, List.getElem?_cons_succ] at g3; have HM := Lib.hid (HM9.out.put (v' := .slice A3 (m + 1) c3)); have HO := Lib.hid (own_fld ho9 HM9.out.1 (only_set w9 (p := ⟨b, 2, none⟩) (.slice A3 (m + 1) c3))); have HZ := Lib.hid (show ∀ y ∈ L ++ [(⟨#[120]⟩ : ByteArray)], y.size ≤ 8 from fun y hy => (List.mem_append.1 hy).elim (fun q => HZL.out y q) (fun q => by rw [List.mem_singleton.1 q]; decide)); clear hg9 hl9 ho9 HM5 HO5 g2 g2' HM4 HO4))))
    obtain ⟨K1, K2, ⟨rx, ry, rz, K3⟩, K4, K5, K6⟩ := HM.out
    have kc0 := K1.cell 0; have kc1 := K1.cell 1; have kc2 := K1.cell 2
    have kd0 := K3.cell 0; have kd1 := K3.cell 1; have kd2 := K3.cell 2
    have kf0 := K3.frozen 0; have kf1 := K3.frozen 1; have kf2 := K3.frozen 2
    simp only [List.getElem?_cons_zero, List.getElem?_cons_succ] at kc0 kc1 kc2 kd0 kd1 kd2
    have Z := ((K3.set_ 0 (.string nm)).set_ 1 (.int .i64 (st : Int))).set_ 2 (.slice A3 (m + 1) c3)
    have y0 := Z.cell 0; have y1 := Z.cell 1; have y2 := Z.cell 2
    simp only [List.set_cons_zero, List.set_cons_succ, List.getElem?_cons_zero, List.getElem?_cons_succ] at y0 y1 y2
    have HK := Lib.hid K2; have HGR := Lib.hid K4
    clear K1 K2 K3 K4 Z
    go_wp2_with fail
    refine bodyPost_ret (v := .agg #[.string nm, .int .i64 (st : Int), .slice A3 (m + 1) c3]) (by simp [results, Tryz.results92, go_sem, y0, y1, y2]) rfl ?_
    have X := fin.out _ _ nm st _ _ _ _ HGR.out (HK.out.mono (by omega)) HO.out (by omega) (by omega) (by omega) (by omega) HZ.out (grownBy_trans (grownBy_trans (only_set _ (p := ⟨w.heap.size, 0, none⟩) (.string nm)) (only_set _ (p := ⟨w.heap.size, 1, none⟩) (.int .i64 (st : Int)))) (only_set _ (p := ⟨w.heap.size, 2, none⟩) (.slice A3 (m + 1) c3)))
    first | exact X | (obtain ⟨z1, z2, z3, z4, z5, z6, z7, z8⟩ := X; exact ⟨z1, z2, z3, z4, z5, z7, z6, z8⟩)
  · go_wp2_with fail
    have hl := lit_ints w4 3 [2, 9, 5]
    have a5 : ∀ o : Obj, Below w4.heap.size w4 (w4.alloc o) := fun o => (Below.refl _ _).alloc (Nat.le_refl _) o
    have HM5 := Lib.hid (HM4.out.alloc (.cells #[.int .i64 2, .int .i64 9, .int .i64 5] 3))
    have HO5 := Lib.hid (HO4.out.up (a5 (.cells #[.int .i64 2, .int .i64 9, .int .i64 5] 3)))
    have hp4 := HM4.out.2.1.lt
    refine (cur_among HS.out (G.out _ HM5.out.2.2.2.1) hp HM5.out.2.1 (by omega) rfl hl (by decide) (by decide) (fun b o e => by injection e with e; injection e with e; omega)).mono ?_; rintro e w6 ⟨y, hy, rfl, hc6, hg6⟩
    have HM6 := Lib.hid (HM5.out.draw hg6 hc6)
    have HO6 := Lib.hid (HO5.out.past hg6 (by omega))
    simp only [List.mem_cons, List.not_mem_nil, or_false] at hy
    obtain ⟨y, rfl⟩ : ∃ z : Nat, y = (z : Int) := ⟨y.toNat, by omega⟩
    have hyz : 2 ≤ y ∧ y ≤ 9 := by omega
    have g0 := HM6.out.1.cell 1; have e0 := HM6.out.1.frozen 1
    simp only [List.getElem?_cons_zero, List.getElem?_cons_succ] at g0
    have HM := Lib.hid (HM6.out.put1 (x := (y : Int)))
    have HO := Lib.hid (own_fld HO6.out HM6.out.1 (only_set w6 (p := ⟨b, 1, none⟩) (.int .i64 (y : Int))))
    have HZ := HZL
    have hOl := HO.out.len
    have hLz := hzL.out
    clear hl a5 hc6 hg6 hy HM6 HO6 HM5 HO5 HM4 HO4
    obtain ⟨K1, K2, ⟨rx, ry, rz, K3⟩, K4, K5, K6⟩ := HM.out
    have kc0 := K1.cell 0; have kc1 := K1.cell 1; have kc2 := K1.cell 2
    have kd0 := K3.cell 0; have kd1 := K3.cell 1; have kd2 := K3.cell 2
    have kf0 := K3.frozen 0; have kf1 := K3.frozen 1; have kf2 := K3.frozen 2
    simp only [List.getElem?_cons_zero, List.getElem?_cons_succ] at kc0 kc1 kc2 kd0 kd1 kd2
    have Z := ((K3.set_ 0 (.string nm)).set_ 1 (.int .i64 (y : Int))).set_ 2 (.slice A2 (m) c2)
    have y0 := Z.cell 0; have y1 := Z.cell 1; have y2 := Z.cell 2
    simp only [List.set_cons_zero, List.set_cons_succ, List.getElem?_cons_zero, List.getElem?_cons_succ] at y0 y1 y2
    have HK := Lib.hid K2; have HGR := Lib.hid K4
    clear K1 K2 K3 K4 Z
    go_wp2_with fail
    refine bodyPost_ret (v := .agg #[.string nm, .int .i64 (y : Int), .slice A2 (m) c2]) (by simp [results, Tryz.results92, go_sem, y0, y1, y2]) rfl ?_
    have X := fin.out _ _ nm y _ _ _ _ HGR.out (HK.out.mono (by omega)) HO.out (by omega) (by omega) (by omega) (by omega) HZ.out (grownBy_trans (grownBy_trans (only_set _ (p := ⟨w.heap.size, 0, none⟩) (.string nm)) (only_set _ (p := ⟨w.heap.size, 1, none⟩) (.int .i64 (y : Int)))) (only_set _ (p := ⟨w.heap.size, 2, none⟩) (.slice A2 (m) c2)))
    first | exact X | (obtain ⟨z1, z2, z3, z4, z5, z6, z7, z8⟩ := X; exact ⟨z1, z2, z3, z4, z5, z7, z6, z8⟩)
  · have g0 := HM4.out.1.cell 2; have e0 := HM4.out.1.frozen 2
    simp only [List.getElem?_cons_zero, List.getElem?_cons_succ] at g0
    have HM := Lib.hid (HM4.out.put (v' := .slice none 0 0))
    have HO := Lib.hid (Owned.nil strE_len 9 (w4.setCell ⟨b, 2, none⟩ (.slice none 0 0)) (w.heap.size + 1))
    have HZ := Lib.hid (show ∀ y ∈ ([] : List ByteArray), y.size ≤ 8 from fun y hy => by cases hy)
    clear HM4 HO4
    obtain ⟨K1, K2, ⟨rx, ry, rz, K3⟩, K4, K5, K6⟩ := HM.out
    have kc0 := K1.cell 0; have kc1 := K1.cell 1; have kc2 := K1.cell 2
    have kd0 := K3.cell 0; have kd1 := K3.cell 1; have kd2 := K3.cell 2
    have kf0 := K3.frozen 0; have kf1 := K3.frozen 1; have kf2 := K3.frozen 2
    simp only [List.getElem?_cons_zero, List.getElem?_cons_succ] at kc0 kc1 kc2 kd0 kd1 kd2
    have Z := ((K3.set_ 0 (.string nm)).set_ 1 (.int .i64 (st : Int))).set_ 2 (.slice none (0) 0)
    have y0 := Z.cell 0; have y1 := Z.cell 1; have y2 := Z.cell 2
    simp only [List.set_cons_zero, List.set_cons_succ, List.getElem?_cons_zero, List.getElem?_cons_succ] at y0 y1 y2
    have HK := Lib.hid K2; have HGR := Lib.hid K4
    clear K1 K2 K3 K4 Z
    go_wp2_with fail
    refine bodyPost_ret (v := .agg #[.string nm, .int .i64 (st : Int), .slice none (0) 0]) (by simp [results, Tryz.results92, go_sem, y0, y1, y2]) rfl ?_
    have X := fin.out _ _ nm st _ _ _ _ HGR.out (HK.out.mono (by omega)) HO.out (by omega) (by omega) (by omega) (by omega) HZ.out (grownBy_trans (grownBy_trans (only_set _ (p := ⟨w.heap.size, 0, none⟩) (.string nm)) (only_set _ (p := ⟨w.heap.size, 1, none⟩) (.int .i64 (st : Int)))) (only_set _ (p := ⟨w.heap.size, 2, none⟩) (.slice none (0) 0)))
    first | exact X | (obtain ⟨z1, z2, z3, z4, z5, z6, z7, z8⟩ := X; exact ⟨z1, z2, z3, z4, z5, z7, z6, z8⟩)
  · go_wp2_with fail
    refine (cur_pick HS.out (G.out _ HM4.out.2.2.2.1) hp HM4.out.2.1 (by omega) (by decide) (by decide)).mono ?_; rintro e w5 ⟨z, rfl, ⟨z0, z1⟩, hc5, hg5⟩
    have HM5 := Lib.hid (HM4.out.draw hg5 hc5)
    have HO5 := Lib.hid (HO4.out.past hg5 (by omega))
    obtain ⟨Z, rfl⟩ := Int.eq_ofNat_of_zero_le z0
    have hZ : Z ≤ 1 := by omega
    have hm5 : m ≤ 12 := by have h1 := HO4.out.len; have h2 := hzL.out; omega
    clear hc5 hg5 z0 z1 HM4 HO4
    go_wp2
    go_loopw [] (fun wr => ∃ (m : Nat) (A' : Option Addr) (c' : Nat) (L : List ByteArray), m ≤ 40 + Z ∧ Hid (MSt w wr p A n c (a + 110 + m) b nm st (.slice A' m c')) ∧ Hid (Owned strE 1 9 wr (w.heap.size + 1) A' m c' L) ∧ Hid (∀ x ∈ L, x.size ≤ 8)) (fun wr => 41 - clen (wr.cell? ⟨b, 2, none⟩))
    case atStart => exact ⟨m, A2, c2, L, by omega, Lib.hid (HM5.out.mono (by omega)), HO5, HZL⟩
    case round =>
      obtain ⟨m, A2, c2, L, hmZ, HM, HO, HZ⟩ := hrel
      rename World => wr
      have d2 := HM.out.1.cell 2; have d1 := HM.out.1.cell 1
      simp only [List.getElem?_cons_zero, List.getElem?_cons_succ] at d2 d1
      have HCL := Lib.hid d2
      have hOl := HO.out.len
      have hbs := HM.out.1.lt
      have hs4 := HM.out.2.2.2.1.size
      by_cases h0 : m < 40 + Z
      · have hI : (m : Int) < 40 + (Z : Int) := by omega
        go_upto_region 14 with fail
        refine wp_region_any (by kernel_rfl) ?_
        (try (change wpAny _ _ _ _ _ _ _ (World.drew _)))
        refine wpAny_take (i := 0) (oi := { dst := some 41, op := _, type := _, pos := _, after := _, guard := _ }) (v := ?_) rfl (by kernel_rfl) (by kernel_rfl) (by kernel_rfl) (fun _ _ _ h => h) (Or.inl ⟨by rfl, ?_⟩) ?_
        rotate_left
        · (intro w; go_simp) <;> with_reducible rfl
        (try simp only [Act.put, List.setIfInBounds_toArray, List.set_cons_zero, List.set_cons_succ])
        refine wpAny_take (i := 2) (oi := { dst := some 43, op := _, type := _, pos := _, after := _, guard := _ }) (v := ?_) rfl (by kernel_rfl) (by kernel_rfl) (by kernel_rfl) (fun _ _ _ h => h) (Or.inl ⟨by rfl, ?_⟩) ?_
        rotate_left
        · (intro w; go_simp) <;> with_reducible rfl
        (try simp only [Act.put, List.setIfInBounds_toArray, List.set_cons_zero, List.set_cons_succ])
        refine wpAny_take (i := 3) (oi := { dst := some 44, op := _, type := _, pos := _, after := _, guard := _ }) (v := ?_) rfl (by kernel_rfl) (by kernel_rfl) (by kernel_rfl) (fun _ _ _ h => h) (Or.inl ⟨by rfl, ?_⟩) ?_
        rotate_left
        · (intro w; go_simp) <;> with_reducible rfl
        (try simp only [Act.put, List.setIfInBounds_toArray, List.set_cons_zero, List.set_cons_succ])
        refine wpAny_ready (rs := [1, 4]) (by kernel_rfl) (by simp) ?_
        refine AllReady.cons (o := _) rfl (fun K hK => ?_) (AllReady.cons (o := _) rfl (fun K hK => ?_) (AllReady.nil))
        · go_simp
          (try (refine hK _ _ ?_; clear hK K))
          (try simp only [Act.put, List.setIfInBounds_toArray, List.set_cons_zero, List.set_cons_succ])
          refine wpAny_ready (rs := [4]) (by kernel_rfl) (by simp) ?_
          refine AllReady.cons (o := _) rfl (fun K hK => ?_) (AllReady.nil)
          go_simp
          (try (refine hK _ _ ?_; clear hK K))
          (try simp only [Act.put, List.setIfInBounds_toArray, List.set_cons_zero, List.set_cons_succ])
          refine wpAny_ready (rs := [5]) (by kernel_rfl) (by simp) ?_
          refine AllReady.cons (o := _) rfl (fun K hK => ?_) (AllReady.nil)
          go_simp
          refine (cur_change HS.out (G.out _ HM.out.drew.2.2.2.1) hp HM.out.drew.2.1 (by omega) (by omega) (by omega)).mono ?_; rintro e w8 ⟨x8, rfl, gx8, zx8, hc8, hg8⟩
          have HM8 := Lib.hid (HM.out.drew.draw hg8 hc8)
          have HO8 := Lib.hid ((HO.out.up (below_drewN (Below.refl _ _) 1)).past hg8 (by omega))
          have d3 := HM8.out.1.cell 2
          simp only [List.getElem?_cons_zero, List.getElem?_cons_succ] at d3
          have d4 := (HM8.out.alloc (.cells #[.string x8] 9)).1.cell 2
          simp only [List.getElem?_cons_zero, List.getElem?_cons_succ] at d4
          try go_wp2_with fail
          (try (refine hK _ _ ?_; clear hK K))
          (try simp only [Act.put, List.setIfInBounds_toArray, List.set_cons_zero, List.set_cons_succ])
          refine wpAny_ready (rs := [6]) (by kernel_rfl) (by simp) ?_
          refine AllReady.cons (o := _) rfl (fun K hK => ?_) (AllReady.nil)
          go_simp
          (try (refine hK _ _ ?_; clear hK K))
          (try simp only [Act.put, List.setIfInBounds_toArray, List.set_cons_zero, List.set_cons_succ])
          refine wpAny_ready (rs := [7]) (by kernel_rfl) (by simp) ?_
          refine AllReady.cons (o := _) rfl (fun K hK => ?_) (AllReady.nil)
          refine step_append_rec Tryz.elStr (by rfl) _ _ (by rfl) (by rfl) (HO8.out.alloc _) x8 (by rfl) (Box.at_ _ [.string x8] _ (by rfl)) (strE_one _) (by omega) (by decide) (by have h1 := HM8.out.1.lt; have h2 := hg8.size; simp at h2 ⊢; omega) ?_
          intro A3 c3 w9 ho9 hg9 hb9
          have HM9 := Lib.hid ((HM8.out.alloc (.cells #[.string x8] 9)).app (HO8.out.alloc _) (by omega) hg9)
          have d5 := HM9.out.1.cell 2; have e5 := HM9.out.1.frozen 2
          simp only [List.getElem?_cons_zero, List.getElem?_cons_succ] at d5
          (try (refine hK _ _ ?_; clear hK K))
          (try simp only [Act.put, List.setIfInBounds_toArray, List.set_cons_zero, List.set_cons_succ])
          refine wpAny_ready (rs := [8]) (by kernel_rfl) (by simp) ?_
          refine AllReady.cons (o := _) rfl (fun K hK => ?_) (AllReady.nil)
          go_simp
          (try (refine hK _ _ ?_; clear hK K))
          (try simp only [Act.put, List.setIfInBounds_toArray, List.set_cons_zero, List.set_cons_succ])
          refine wpAny_ready (rs := [9]) (by kernel_rfl) (by simp) ?_
          refine AllReady.cons (o := _) rfl (fun K hK => ?_) (AllReady.nil)
          go_simp
          (try (refine hK _ _ ?_; clear hK K))
          (try simp only [Act.put, List.setIfInBounds_toArray, List.set_cons_zero, List.set_cons_succ])
          refine wpAny_done (by kernel_rfl) ?_ _
          (try simp only [Act.put, List.setIfInBounds_toArray, List.set_cons_zero, List.set_cons_succ])
          have HZ9 := Lib.hid (show ∀ y ∈ L ++ [x8], y.size ≤ 8 from fun y hy => (List.mem_append.1 hy).elim (fun q => HZ.out y q) (fun q => by rw [List.mem_singleton.1 q]; exact zx8))
          have HMF := Lib.hid (HM9.out.put (v' := .slice A3 (m + 1) c3))
          have HOF := Lib.hid (own_fld ho9 HM9.out.1 (only_set w9 (p := ⟨b, 2, none⟩) (.slice A3 (m + 1) c3)))
          have hmc := HMF.out.1.cell 2
          simp only [List.getElem?_cons_zero, List.getElem?_cons_succ] at hmc
          have HMC := Lib.hid hmc
          clear d2 d1 d3 d4 d5 e5 hmc
          go_wp2
          go_roundw
          case rel => exact ⟨m + 1, A3, c3, L ++ [x8], by omega, Lib.hid (HMF.out.mono (by omega)), HOF, HZ9⟩
          case measure => rw [HMC.out, HCL.out]; simp only [clen]; omega
        · go_simp
          (try (refine hK _ _ ?_; clear hK K))
          (try simp only [Act.put, List.setIfInBounds_toArray, List.set_cons_zero, List.set_cons_succ])
          refine wpAny_ready (rs := [1, 5]) (by kernel_rfl) (by simp) ?_
          refine AllReady.cons (o := _) rfl (fun K hK => ?_) (AllReady.cons (o := _) rfl (fun K hK => ?_) (AllReady.nil))
          · go_simp
            (try (refine hK _ _ ?_; clear hK K))
            (try simp only [Act.put, List.setIfInBounds_toArray, List.set_cons_zero, List.set_cons_succ])
            refine wpAny_ready (rs := [5]) (by kernel_rfl) (by simp) ?_
            refine AllReady.cons (o := _) rfl (fun K hK => ?_) (AllReady.nil)
            go_simp
            refine (cur_change HS.out (G.out _ HM.out.drew.2.2.2.1) hp HM.out.drew.2.1 (by omega) (by omega) (by omega)).mono ?_; rintro e w8 ⟨x8, rfl, gx8, zx8, hc8, hg8⟩
            have HM8 := Lib.hid (HM.out.drew.draw hg8 hc8)
            have HO8 := Lib.hid ((HO.out.up (below_drewN (Below.refl _ _) 1)).past hg8 (by omega))
            have d3 := HM8.out.1.cell 2
            simp only [List.getElem?_cons_zero, List.getElem?_cons_succ] at d3
            have d4 := (HM8.out.alloc (.cells #[.string x8] 9)).1.cell 2
            simp only [List.getElem?_cons_zero, List.getElem?_cons_succ] at d4
            try go_wp2_with fail
            (try (refine hK _ _ ?_; clear hK K))
            (try simp only [Act.put, List.setIfInBounds_toArray, List.set_cons_zero, List.set_cons_succ])
            refine wpAny_ready (rs := [6]) (by kernel_rfl) (by simp) ?_
            refine AllReady.cons (o := _) rfl (fun K hK => ?_) (AllReady.nil)
            go_simp
            (try (refine hK _ _ ?_; clear hK K))
            (try simp only [Act.put, List.setIfInBounds_toArray, List.set_cons_zero, List.set_cons_succ])
            refine wpAny_ready (rs := [7]) (by kernel_rfl) (by simp) ?_
            refine AllReady.cons (o := _) rfl (fun K hK => ?_) (AllReady.nil)
            refine step_append_rec Tryz.elStr (by rfl) _ _ (by rfl) (by rfl) (HO8.out.alloc _) x8 (by rfl) (Box.at_ _ [.string x8] _ (by rfl)) (strE_one _) (by omega) (by decide) (by have h1 := HM8.out.1.lt; have h2 := hg8.size; simp at h2 ⊢; omega) ?_
            intro A3 c3 w9 ho9 hg9 hb9
            have HM9 := Lib.hid ((HM8.out.alloc (.cells #[.string x8] 9)).app (HO8.out.alloc _) (by omega) hg9)
            have d5 := HM9.out.1.cell 2; have e5 := HM9.out.1.frozen 2
            simp only [List.getElem?_cons_zero, List.getElem?_cons_succ] at d5
            (try (refine hK _ _ ?_; clear hK K))
            (try simp only [Act.put, List.setIfInBounds_toArray, List.set_cons_zero, List.set_cons_succ])
            refine wpAny_ready (rs := [8]) (by kernel_rfl) (by simp) ?_
            refine AllReady.cons (o := _) rfl (fun K hK => ?_) (AllReady.nil)
            go_simp
            (try (refine hK _ _ ?_; clear hK K))
            (try simp only [Act.put, List.setIfInBounds_toArray, List.set_cons_zero, List.set_cons_succ])
            refine wpAny_ready (rs := [9]) (by kernel_rfl) (by simp) ?_
            refine AllReady.cons (o := _) rfl (fun K hK => ?_) (AllReady.nil)
            go_simp
            (try (refine hK _ _ ?_; clear hK K))
            (try simp only [Act.put, List.setIfInBounds_toArray, List.set_cons_zero, List.set_cons_succ])
            refine wpAny_done (by kernel_rfl) ?_ _
            (try simp only [Act.put, List.setIfInBounds_toArray, List.set_cons_zero, List.set_cons_succ])
            have HZ9 := Lib.hid (show ∀ y ∈ L ++ [x8], y.size ≤ 8 from fun y hy => (List.mem_append.1 hy).elim (fun q => HZ.out y q) (fun q => by rw [List.mem_singleton.1 q]; exact zx8))
            have HMF := Lib.hid (HM9.out.put (v' := .slice A3 (m + 1) c3))
            have HOF := Lib.hid (own_fld ho9 HM9.out.1 (only_set w9 (p := ⟨b, 2, none⟩) (.slice A3 (m + 1) c3)))
            have hmc := HMF.out.1.cell 2
            simp only [List.getElem?_cons_zero, List.getElem?_cons_succ] at hmc
            have HMC := Lib.hid hmc
            clear d2 d1 d3 d4 d5 e5 hmc
            go_wp2
            go_roundw
            case rel => exact ⟨m + 1, A3, c3, L ++ [x8], by omega, Lib.hid (HMF.out.mono (by omega)), HOF, HZ9⟩
            case measure => rw [HMC.out, HCL.out]; simp only [clen]; omega
          · go_simp
            refine (cur_change HS.out (G.out _ HM.out.drew.2.2.2.1) hp HM.out.drew.2.1 (by omega) (by omega) (by omega)).mono ?_; rintro e w8 ⟨x8, rfl, gx8, zx8, hc8, hg8⟩
            have HM8 := Lib.hid (HM.out.drew.draw hg8 hc8)
            have HO8 := Lib.hid ((HO.out.up (below_drewN (Below.refl _ _) 1)).past hg8 (by omega))
            have d3 := HM8.out.1.cell 2
            simp only [List.getElem?_cons_zero, List.getElem?_cons_succ] at d3
            have d4 := (HM8.out.alloc (.cells #[.string x8] 9)).1.cell 2
            simp only [List.getElem?_cons_zero, List.getElem?_cons_succ] at d4
            try go_wp2_with fail
            (try (refine hK _ _ ?_; clear hK K))
            (try simp only [Act.put, List.setIfInBounds_toArray, List.set_cons_zero, List.set_cons_succ])
            refine wpAny_ready (rs := [1, 6]) (by kernel_rfl) (by simp) ?_
            refine AllReady.cons (o := _) rfl (fun K hK => ?_) (AllReady.cons (o := _) rfl (fun K hK => ?_) (AllReady.nil))
            · go_simp
              (try (refine hK _ _ ?_; clear hK K))
              (try simp only [Act.put, List.setIfInBounds_toArray, List.set_cons_zero, List.set_cons_succ])
              refine wpAny_ready (rs := [6]) (by kernel_rfl) (by simp) ?_
              refine AllReady.cons (o := _) rfl (fun K hK => ?_) (AllReady.nil)
              go_simp
              (try (refine hK _ _ ?_; clear hK K))
              (try simp only [Act.put, List.setIfInBounds_toArray, List.set_cons_zero, List.set_cons_succ])
              refine wpAny_ready (rs := [7]) (by kernel_rfl) (by simp) ?_
              refine AllReady.cons (o := _) rfl (fun K hK => ?_) (AllReady.nil)
              refine step_append_rec Tryz.elStr (by rfl) _ _ (by rfl) (by rfl) (HO8.out.alloc _) x8 (by rfl) (Box.at_ _ [.string x8] _ (by rfl)) (strE_one _) (by omega) (by decide) (by have h1 := HM8.out.1.lt; have h2 := hg8.size; simp at h2 ⊢; omega) ?_
              intro A3 c3 w9 ho9 hg9 hb9
              have HM9 := Lib.hid ((HM8.out.alloc (.cells #[.string x8] 9)).app (HO8.out.alloc _) (by omega) hg9)
              have d5 := HM9.out.1.cell 2; have e5 := HM9.out.1.frozen 2
              simp only [List.getElem?_cons_zero, List.getElem?_cons_succ] at d5
              (try (refine hK _ _ ?_; clear hK K))
              (try simp only [Act.put, List.setIfInBounds_toArray, List.set_cons_zero, List.set_cons_succ])
              refine wpAny_ready (rs := [8]) (by kernel_rfl) (by simp) ?_
              refine AllReady.cons (o := _) rfl (fun K hK => ?_) (AllReady.nil)
              go_simp
              (try (refine hK _ _ ?_; clear hK K))
              (try simp only [Act.put, List.setIfInBounds_toArray, List.set_cons_zero, List.set_cons_succ])
              refine wpAny_ready (rs := [9]) (by kernel_rfl) (by simp) ?_
              refine AllReady.cons (o := _) rfl (fun K hK => ?_) (AllReady.nil)
              go_simp
              (try (refine hK _ _ ?_; clear hK K))
              (try simp only [Act.put, List.setIfInBounds_toArray, List.set_cons_zero, List.set_cons_succ])
              refine wpAny_done (by kernel_rfl) ?_ _
              (try simp only [Act.put, List.setIfInBounds_toArray, List.set_cons_zero, List.set_cons_succ])
              have HZ9 := Lib.hid (show ∀ y ∈ L ++ [x8], y.size ≤ 8 from fun y hy => (List.mem_append.1 hy).elim (fun q => HZ.out y q) (fun q => by rw [List.mem_singleton.1 q]; exact zx8))
              have HMF := Lib.hid (HM9.out.put (v' := .slice A3 (m + 1) c3))
              have HOF := Lib.hid (own_fld ho9 HM9.out.1 (only_set w9 (p := ⟨b, 2, none⟩) (.slice A3 (m + 1) c3)))
              have hmc := HMF.out.1.cell 2
              simp only [List.getElem?_cons_zero, List.getElem?_cons_succ] at hmc
              have HMC := Lib.hid hmc
              clear d2 d1 d3 d4 d5 e5 hmc
              go_wp2
              go_roundw
              case rel => exact ⟨m + 1, A3, c3, L ++ [x8], by omega, Lib.hid (HMF.out.mono (by omega)), HOF, HZ9⟩
              case measure => rw [HMC.out, HCL.out]; simp only [clen]; omega
            · go_simp
              (try (refine hK _ _ ?_; clear hK K))
              (try simp only [Act.put, List.setIfInBounds_toArray, List.set_cons_zero, List.set_cons_succ])
              refine wpAny_ready (rs := [1]) (by kernel_rfl) (by simp) ?_
              refine AllReady.cons (o := _) rfl (fun K hK => ?_) (AllReady.nil)
              go_simp
              (try (refine hK _ _ ?_; clear hK K))
              (try simp only [Act.put, List.setIfInBounds_toArray, List.set_cons_zero, List.set_cons_succ])
              refine wpAny_ready (rs := [7]) (by kernel_rfl) (by simp) ?_
              refine AllReady.cons (o := _) rfl (fun K hK => ?_) (AllReady.nil)
              refine step_append_rec Tryz.elStr (by rfl) _ _ (by rfl) (by rfl) (HO8.out.alloc _) x8 (by rfl) (Box.at_ _ [.string x8] _ (by rfl)) (strE_one _) (by omega) (by decide) (by have h1 := HM8.out.1.lt; have h2 := hg8.size; simp at h2 ⊢; omega) ?_
              intro A3 c3 w9 ho9 hg9 hb9
              have HM9 := Lib.hid ((HM8.out.alloc (.cells #[.string x8] 9)).app (HO8.out.alloc _) (by omega) hg9)
              have d5 := HM9.out.1.cell 2; have e5 := HM9.out.1.frozen 2
              simp only [List.getElem?_cons_zero, List.getElem?_cons_succ] at d5
              (try (refine hK _ _ ?_; clear hK K))
              (try simp only [Act.put, List.setIfInBounds_toArray, List.set_cons_zero, List.set_cons_succ])
              refine wpAny_ready (rs := [8]) (by kernel_rfl) (by simp) ?_
              refine AllReady.cons (o := _) rfl (fun K hK => ?_) (AllReady.nil)
              go_simp
              (try (refine hK _ _ ?_; clear hK K))
              (try simp only [Act.put, List.setIfInBounds_toArray, List.set_cons_zero, List.set_cons_succ])
              refine wpAny_ready (rs := [9]) (by kernel_rfl) (by simp) ?_
              refine AllReady.cons (o := _) rfl (fun K hK => ?_) (AllReady.nil)
              go_simp
              (try (refine hK _ _ ?_; clear hK K))
              (try simp only [Act.put, List.setIfInBounds_toArray, List.set_cons_zero, List.set_cons_succ])
              refine wpAny_done (by kernel_rfl) ?_ _
              (try simp only [Act.put, List.setIfInBounds_toArray, List.set_cons_zero, List.set_cons_succ])
              have HZ9 := Lib.hid (show ∀ y ∈ L ++ [x8], y.size ≤ 8 from fun y hy => (List.mem_append.1 hy).elim (fun q => HZ.out y q) (fun q => by rw [List.mem_singleton.1 q]; exact zx8))
              have HMF := Lib.hid (HM9.out.put (v' := .slice A3 (m + 1) c3))
              have HOF := Lib.hid (own_fld ho9 HM9.out.1 (only_set w9 (p := ⟨b, 2, none⟩) (.slice A3 (m + 1) c3)))
              have hmc := HMF.out.1.cell 2
              simp only [List.getElem?_cons_zero, List.getElem?_cons_succ] at hmc
              have HMC := Lib.hid hmc
              clear d2 d1 d3 d4 d5 e5 hmc
              go_wp2
              go_roundw
              case rel => exact ⟨m + 1, A3, c3, L ++ [x8], by omega, Lib.hid (HMF.out.mono (by omega)), HOF, HZ9⟩
              case measure => rw [HMC.out, HCL.out]; simp only [clen]; omega
      · have hI : ¬ (m : Int) < 40 + (Z : Int) := by omega
        go_upto_region 15 with fail
        obtain ⟨K1, K2, ⟨rx, ry, rz, K3⟩, K4, K5, K6⟩ := HM.out
        have kc0 := K1.cell 0; have kc1 := K1.cell 1; have kc2 := K1.cell 2
        have kd0 := K3.cell 0; have kd1 := K3.cell 1; have kd2 := K3.cell 2
        have kf0 := K3.frozen 0; have kf1 := K3.frozen 1; have kf2 := K3.frozen 2
        simp only [List.getElem?_cons_zero, List.getElem?_cons_succ] at kc0 kc1 kc2 kd0 kd1 kd2
        have Z := ((K3.set_ 0 (.string nm)).set_ 1 (.int .i64 (st : Int))).set_ 2 (.slice A2 (m) c2)
        have y0 := Z.cell 0; have y1 := Z.cell 1; have y2 := Z.cell 2
        simp only [List.set_cons_zero, List.set_cons_succ, List.getElem?_cons_zero, List.getElem?_cons_succ] at y0 y1 y2
        have HK := Lib.hid K2; have HGR := Lib.hid K4
        clear K1 K2 K3 K4 Z
        go_wp2_with fail
        refine bodyPost_ret (v := .agg #[.string nm, .int .i64 (st : Int), .slice A2 (m) c2]) (by simp [results, Tryz.results92, go_sem, y0, y1, y2]) rfl ?_
        have X := fin.out _ _ nm st _ _ _ _ HGR.out (HK.out.mono (by omega)) HO.out (by omega) (by omega) (by omega) (by omega) HZ.out (grownBy_trans (grownBy_trans (only_set _ (p := ⟨w.heap.size, 0, none⟩) (.string nm)) (only_set _ (p := ⟨w.heap.size, 1, none⟩) (.int .i64 (st : Int)))) (only_set _ (p := ⟨w.heap.size, 2, none⟩) (.slice A2 (m) c2)))
        first | exact X | (obtain ⟨z1, z2, z3, z4, z5, z6, z7, z8⟩ := X; exact ⟨z1, z2, z3, z4, z5, z7, z6, z8⟩)
  · have n0 : (x == 0) = false := by simp; omega
    have n1 : (x == 1) = false := by simp; omega
    have n2 : (x == 2) = false := by simp; omega
    have n3 : (x == 3) = false := by simp; omega
    have n4 : (x == 4) = false := by simp; omega
    have HM := HM4
    have HO := HO4
    have HZ := HZL
    have hOl := HO.out.len
    have hLz := hzL.out
    clear HM4 HO4
    obtain ⟨K1, K2, ⟨rx, ry, rz, K3⟩, K4, K5, K6⟩ := HM.out
    have kc0 := K1.cell 0; have kc1 := K1.cell 1; have kc2 := K1.cell 2
    have kd0 := K3.cell 0; have kd1 := K3.cell 1; have kd2 := K3.cell 2
    have kf0 := K3.frozen 0; have kf1 := K3.frozen 1; have kf2 := K3.frozen 2
    simp only [List.getElem?_cons_zero, List.getElem?_cons_succ] at kc0 kc1 kc2 kd0 kd1 kd2
    have Z := ((K3.set_ 0 (.string nm)).set_ 1 (.int .i64 (st : Int))).set_ 2 (.slice A2 (m) c2)
    have y0 := Z.cell 0; have y1 := Z.cell 1; have y2 := Z.cell 2
    simp only [List.set_cons_zero, List.set_cons_succ, List.getElem?_cons_zero, List.getElem?_cons_succ] at y0 y1 y2
    have HK := Lib.hid K2; have HGR := Lib.hid K4
    clear K1 K2 K3 K4 Z
    go_wp2_with fail
    refine bodyPost_ret (v := .agg #[.string nm, .int .i64 (st : Int), .slice A2 (m) c2]) (by simp [results, Tryz.results92, go_sem, y0, y1, y2]) rfl ?_
    have X := fin.out _ _ nm st _ _ _ _ HGR.out (HK.out.mono (by omega)) HO.out (by omega) (by omega) (by omega) (by omega) HZ.out (grownBy_trans (grownBy_trans (only_set _ (p := ⟨w.heap.size, 0, none⟩) (.string nm)) (only_set _ (p := ⟨w.heap.size, 1, none⟩) (.int .i64 (st : Int)))) (only_set _ (p := ⟨w.heap.size, 2, none⟩) (.slice A2 (m) c2)))
    first | exact X | (obtain ⟨z1, z2, z3, z4, z5, z6, z7, z8⟩ := X; exact ⟨z1, z2, z3, z4, z5, z7, z6, z8⟩)
end Go.Proofs.YtidolgonmimicaaGreat
namespace Go.Proofs.YtidolgonmimicaaGreat
open Go.ChangeShapes Go.WideShapes Go.ChangeAt Go.RowKit Go.Deep
theorem sets3_grown (u : World) (r : Nat) (a b c : Value) : u.grownBy (((u.setCell ⟨r, 0, none⟩ a).setCell ⟨r, 1, none⟩ b).setCell ⟨r, 2, none⟩ c) (some r) :=
  grownBy_trans (grownBy_trans (only_set _ (p := ⟨r, 0, none⟩) _) (only_set _ (p := ⟨r, 1, none⟩) _)) (only_set _ (p := ⟨r, 2, none⟩) _)
theorem sets2_grown (u : World) (r : Nat) (a b : Value) : u.grownBy ((u.setCell ⟨r, 0, none⟩ a).setCell ⟨r, 1, none⟩ b) (some r) :=
  grownBy_trans (only_set _ (p := ⟨r, 0, none⟩) _) (only_set _ (p := ⟨r, 1, none⟩) _)
end Go.Proofs.YtidolgonmimicaaGreat
namespace Go.Proofs.YtidolgonmimicaaGreat
theorem nums_data (s : ByteArray) : nums s = s.data.toList.map fun b => (b.toNat : Int) := by
  apply List.ext_getElem
  · rw [nums_len, List.length_map, Array.length_toList]; rfl
  · intro j h1 h2
    have hj : j < s.size := by rwa [nums_len] at h1
    have h := nums_at hj
    rw [List.getElem?_eq_getElem h1] at h
    injection h with h
    rw [h, PlainAid.bt, dif_pos hj, List.getElem_map, Array.getElem_toList]
    rfl
theorem nums_app (a b : ByteArray) : nums (a ++ b) = nums a ++ nums b := by
  rw [nums_data, nums_data, nums_data, ByteArray.data_append, Array.toList_append, List.map_append]
theorem nums_ext (s : ByteArray) (i j : Nat) : nums (s.extract i j) = ((nums s).drop i).take (j - i) := by
  rw [nums_data, nums_data, Lib.extract_data, List.map_take, List.map_drop]
theorem cut_perm {R O : List Int} {i : Nat} (h : i < R.length) : ((O ++ [R[i]]) ++ (R.take i ++ R.drop (i + 1))).Perm (O ++ R) := by
  rw [List.append_assoc]
  apply List.Perm.append_left
  have e : R = R.take i ++ R[i] :: R.drop (i + 1) := by rw [← List.drop_eq_getElem_cons h, List.take_append_drop]
  rw [List.singleton_append]
  conv => rhs; rw [e]
  exact List.perm_middle.symm
def RowSt (n : Nat) (out rest : ByteArray) : Prop := (nums out ++ nums rest).Perm (nums (roundsS n))
theorem RowSt.sizes {n : Nat} {out rest : ByteArray} (h : RowSt n out rest) (hn : n ≤ 8) : out.size + rest.size = n := by
  have := h.length_eq
  rw [List.length_append, nums_len, nums_len, nums_len, rounds_size n (by omega)] at this
  exact this
theorem RowSt.step {n i : Nat} {out rest : ByteArray} (h : RowSt n out rest) (hi : i < rest.size) : RowSt n (out ++ rest.extract i (i + 1)) (rest.extract 0 i ++ rest.extract (i + 1) rest.size) := by
  have hl : i < (nums rest).length := by rw [nums_len]; exact hi
  have e1 : nums (rest.extract i (i + 1)) = [(nums rest)[i]] := by
    rw [nums_ext, List.drop_eq_getElem_cons hl, show i + 1 - i = 0 + 1 by omega, List.take_succ_cons, List.take_zero]
  have e2 : nums (rest.extract 0 i) = (nums rest).take i := by rw [nums_ext, List.drop_zero, Nat.sub_zero]
  have e3 : nums (rest.extract (i + 1) rest.size) = (nums rest).drop (i + 1) := by
    rw [nums_ext, List.take_of_length_le]
    rw [List.length_drop, nums_len]
    exact Nat.le_refl _
  rw [RowSt, nums_app, nums_app, e1, e2, e3]
  exact (cut_perm hl).trans h
theorem RowSt.done {n : Nat} {out rest : ByteArray} (h : RowSt n out rest) (h3 : 3 ≤ n) (h8 : n ≤ 8) (h0 : rest.size = 0) : goodRow out = true ∧ out.size = n := by
  have hs := h.sizes h8
  have e : nums rest = [] := List.length_eq_zero_iff.1 (by rw [nums_len]; exact h0)
  have hp : (nums out).Perm (nums (roundsS n)) := by rw [RowSt, e, List.append_nil] at h; exact h
  have hr := goodRow_list (good_rounds n (by omega) h3)
  have ho : out.size = n := by omega
  refine ⟨goodRow_of (by omega) ⟨hp.nodup_iff.2 hr.1, fun z hz => ?_⟩, ho⟩
  have := hr.2 z (hp.mem_iff.1 hz)
  rw [hp.length_eq]
  exact this
theorem RowSt.start (n : Nat) : RowSt n ⟨#[]⟩ (roundsS n) := by
  have e : nums (⟨#[]⟩ : ByteArray) = [] := List.length_eq_zero_iff.1 (by rw [nums_len]; rfl)
  rw [RowSt, e, List.nil_append]
theorem div_lt_of {k f r : Nat} (h : k < r * f) (_hf : 0 < f) : k / f < r := Nat.div_lt_of_lt_mul (by rw [Nat.mul_comm]; exact h)
end Go.Proofs.YtidolgonmimicaaGreat
namespace Go.Proofs.YtidolgonmimicaaGreat
open Go.ChangeShapes Go.WideShapes Go.ChangeAt Go.RowKit Go.Deep
def calT (t : ByteArray) : Prop := ∀ z ∈ nums t, z = 112 ∨ z = 98 ∨ z = 115
theorem calT_app {a b : ByteArray} (h : calT a) (g : calT b) : calT (a ++ b) := fun z hz => by
  rw [nums_app] at hz
  exact (List.mem_append.1 hz).elim (h z) (g z)
theorem calT_at {t : ByteArray} (h : calT t) : ∀ k, k < t.size → callB t k = true := fun k hk => by
  have := h _ (List.mem_of_getElem? (nums_at hk))
  rw [callB]
  rcases this with e | e | e <;> rw [e] <;> rfl
theorem calT_of {t : ByteArray} (h : ∀ k, k < t.size → callB t k = true) : calT t := fun z hz => by
  obtain ⟨k, hk⟩ := List.getElem?_of_mem hz
  have hl := (List.getElem?_eq_some_iff.1 hk).1
  rw [nums_len] at hl
  rw [nums_at hl] at hk
  injection hk with hk
  have h1 := h k hl
  rw [callB] at h1
  simp only [Bool.or_eq_true, beq_iff_eq] at h1
  rw [← hk]
  exact h1
theorem goodT_of {t : ByteArray} (h : calT t) (h1 : 1 ≤ t.size) (h2 : t.size ≤ 60) : goodT t = true := by
  rw [goodT, Bool.and_eq_true, List.all_eq_true]
  exact ⟨fun k hk => calT_at h k (List.mem_range.1 hk), by rw [inB, decide_eq_true_iff]; omega⟩
theorem calT_good {t : ByteArray} (h : goodT t = true) : calT t := calT_of (goodT_t h).2.2
theorem calT_nil : calT ⟨#[]⟩ := fun z hz => by cases hz
theorem calT_b : calT ⟨#[98]⟩ := by
  intro z hz
  have : nums ⟨#[98]⟩ = [98] := by rfl
  rw [this] at hz; simp at hz; omega
theorem calT_p : calT ⟨#[112]⟩ := by
  intro z hz
  have : nums ⟨#[112]⟩ = [112] := by rfl
  rw [this] at hz; simp at hz; omega
theorem calT_s : calT ⟨#[115]⟩ := by
  intro z hz
  have : nums ⟨#[115]⟩ = [115] := by rfl
  rw [this] at hz; simp at hz; omega
end Go.Proofs.YtidolgonmimicaaGreat
namespace Go.Proofs.YtidolgonmimicaaGreat
open Go.ChangeShapes Go.WideShapes Go.ChangeAt Go.RowKit Go.Deep
def CSt (w u : World) (p : Nat) (A : Option Addr) (n c a b : Nat) (kb ks : ByteArray) : Prop :=
  Blk u b 27 [.string kb, .string ks] ∧ Cur u p A n c a ∧ (∃ x y, Blk u (w.heap.size + 1) 27 [x, y]) ∧ w.grownBy u (some p) ∧ p < w.heap.size ∧ w.heap.size + 1 < b
section
variable {w u u' : World} {p n c a a' b : Nat} {A : Option Addr} {kb ks : ByteArray}
theorem CSt.mono (h : CSt w u p A n c a b kb ks) (ha : a ≤ a') : CSt w u p A n c a' b kb ks := ⟨h.1, h.2.1.mono ha, h.2.2⟩
theorem CSt.draw (h : CSt w u p A n c a b kb ks) (hg : u.grownBy u' (some p)) (hc : Cur u' p A n c a') : CSt w u' p A n c a' b kb ks := by
  obtain ⟨h1, _, ⟨x, y, h3⟩, h4, h5, h6⟩ := h
  exact ⟨h1.grown hg (fun e => by injection e with e; omega), hc, ⟨x, y, h3.grown hg (fun e => by injection e with e; omega)⟩, grownBy_trans h4 hg, h5, h6⟩
theorem CSt.up (h : CSt w u p A n c a b kb ks) (hb : Below u.heap.size u u') : CSt w u' p A n c a b kb ks := by
  obtain ⟨h1, h2, ⟨x, y, h3⟩, h4, h5, h6⟩ := h
  exact ⟨h1.up hb, h2.up hb, ⟨x, y, h3.up hb⟩, grownBy_trans h4 (grown_any hb _), h5, h6⟩
theorem CSt.put0 {x : ByteArray} (h : CSt w u p A n c a b kb ks) : CSt w (u.setCell ⟨b, 0, none⟩ (.string x)) p A n c a b x ks := by
  obtain ⟨h1, h2, ⟨q, y, h3⟩, h4, h5, h6⟩ := h
  have hg : u.grownBy (u.setCell ⟨b, 0, none⟩ (.string x)) (some b) := only_set u (p := ⟨b, 0, none⟩) (.string x)
  exact ⟨h1.set_ 0 (.string x), h2.grown hg (fun e => by injection e with e; omega), ⟨q, y, h3.grown hg (fun e => by injection e with e; omega)⟩, grow_own h4 hg (fun k e => by injection e with e; omega), h5, h6⟩
theorem CSt.put1 {x : ByteArray} (h : CSt w u p A n c a b kb ks) : CSt w (u.setCell ⟨b, 1, none⟩ (.string x)) p A n c a b kb x := by
  obtain ⟨h1, h2, ⟨q, y, h3⟩, h4, h5, h6⟩ := h
  have hg : u.grownBy (u.setCell ⟨b, 1, none⟩ (.string x)) (some b) := only_set u (p := ⟨b, 1, none⟩) (.string x)
  exact ⟨h1.set_ 1 (.string x), h2.grown hg (fun e => by injection e with e; omega), ⟨q, y, h3.grown hg (fun e => by injection e with e; omega)⟩, grow_own h4 hg (fun k e => by injection e with e; omega), h5, h6⟩
end
set_option maxHeartbeats 4000000 in
set_option maxRecDepth 100000 in
theorem cur_calls {A B : Option Addr} {n c a p st m d : Nat} {nm : ByteArray} {w0 w : World} (hS : Src w0 A n) (hb : Below w0.heap.size w0 w) (hp : w0.heap.size ≤ p) (hc : Cur w p A n c a) (ha : a ≤ 1000000) (h3 : 3 ≤ st) (h8 : st ≤ 8) :
    Calls Tryz.prog 195 #[.pointer (some ⟨p, 0, none⟩), .agg #[.string nm, .int .i64 st, .slice B m d]] w fun e w' => ∃ kb ks : ByteArray, e = .returned (.agg #[.string kb, .string ks]) ∧ kb.size ≤ 8 ∧ ks.size ≤ 8 ∧ Cur w' p A n c (a + 10) ∧ w.grownBy w' (some p) := by
  have hpw := hc.lt
  have R0 := Blk.at_ (w.alloc (.cells #[.string nm, .int .i64 (st : Int), .slice B m d] 25)) 27 [.string ⟨#[]⟩, .string ⟨#[]⟩] (b := w.heap.size + 1) (by simp)
  have b0 : Below w.heap.size w ((w.alloc (.cells #[.string nm, .int .i64 (st : Int), .slice B m d] 25)).alloc (.cells #[.string ⟨#[]⟩, .string ⟨#[]⟩] 27)) := by (repeat' (first | (with_reducible exact Below.refl _ _) | (with_reducible assumption) | (with_reducible refine below_drewN ?_ _) | (with_reducible refine Below.drew ?_) | (with_reducible refine below_alloc ?_ _) | (with_reducible refine Below.alloc ?_ ?_ _) | (with_reducible refine Below.setCell ?_ ?_ _) | (with_reducible refine below_go ?_ (by with_reducible assumption)) | (with_reducible refine below_then (by with_reducible assumption) ?_ ?_) | go_size))
  have G : Hid (∀ u : World, w.grownBy u (some p) → Below w0.heap.size w0 u) := Lib.hid (fun u hg => grown_below hb hp hg)
  have HS := Lib.hid hS
  clear hS hb
  go_in
  go_wp2_with fail
  obtain ⟨w1, hw1⟩ : ∃ u, u = ((w.alloc (.cells #[.string nm, .int .i64 (st : Int), .slice B m d] 25)).alloc (.cells #[.string ⟨#[]⟩, .string ⟨#[]⟩] 27)) := ⟨_, rfl⟩
  have z1 : w1.heap.size = w.heap.size + 2 := by rw [hw1]; simp
  rw [← hw1] at b0 R0 ⊢
  clear hw1
  refine (cur_change HS.out (G.out _ (grown_any b0 _)) hp (hc.up b0) (by omega) h8 h3).mono ?_; rintro e w2 ⟨x, rfl, _, zx, hc2, hg2⟩
  have g2 : w.grownBy w2 (some p) := grownBy_trans (grown_any b0 _) hg2
  have R2 := R0.grown hg2 (fun e => by injection e with e; omega)
  clear R0 hc b0
  go_wp2_with fail
  refine (cur_change HS.out (G.out _ g2) hp hc2 (by omega) h8 h3).mono ?_; rintro e w3 ⟨y, rfl, _, zy, hc3, hg3⟩
  have g3 := grownBy_trans g2 hg3
  have R3 := R2.grown hg3 (fun e => by injection e with e; omega)
  have s2 := hg2.size
  have s3 := hg3.size
  have K3 := Blk.at_ w3 27 [.string x, .string y] (b := w3.heap.size) rfl
  have a3 : Below w3.heap.size w3 (w3.alloc (.cells #[.string x, .string y] 27)) := by (repeat' (first | (with_reducible exact Below.refl _ _) | (with_reducible assumption) | (with_reducible refine below_drewN ?_ _) | (with_reducible refine Below.drew ?_) | (with_reducible refine below_alloc ?_ _) | (with_reducible refine Below.alloc ?_ ?_ _) | (with_reducible refine Below.setCell ?_ ?_ _) | (with_reducible refine below_go ?_ (by with_reducible assumption)) | (with_reducible refine below_then (by with_reducible assumption) ?_ ?_) | go_size))
  have HM3 := Lib.hid (show CSt w (w3.alloc (.cells #[.string x, .string y] 27)) p A n c (a + 2) w3.heap.size x y from ⟨K3, hc3.up a3, ⟨_, _, R3.up a3⟩, grownBy_trans g3 (grown_any a3 _), hpw, by omega⟩)
  clear R2 R3 hc2 hc3 hg2 hg3 K3 a3 g2 g3
  go_upto_region 3 with fail
  obtain ⟨w4, hw4⟩ : ∃ u, u = w3.alloc (.cells #[.string x, .string y] 27) := ⟨_, rfl⟩
  obtain ⟨b, hb⟩ : ∃ b, b = w3.heap.size := ⟨_, rfl⟩
  rw [← hw4] at HM3 ⊢
  rw [← hb] at HM3 ⊢
  clear hw4 hb s2 s3 z1
  have hst : st = 3 ∨ st = 4 ∨ st = 5 ∨ st = 6 ∨ st = 7 ∨ st = 8 := by omega
  clear h3 h8
  rcases hst with rfl | rfl | rfl | rfl | rfl | rfl
  · skip
    have HM := HM3
    clear HM3
    obtain ⟨K1, K2, ⟨rx, ry, K3⟩, K4, K5, K6⟩ := HM.out
    have kc0 := K1.cell 0; have kc1 := K1.cell 1
    have kd0 := K3.cell 0; have kd1 := K3.cell 1
    have kf0 := K3.frozen 0; have kf1 := K3.frozen 1
    simp only [List.getElem?_cons_zero, List.getElem?_cons_succ] at kc0 kc1 kd0 kd1
    have Z := (K3.set_ 0 (.string x)).set_ 1 (.string y)
    have y0 := Z.cell 0; have y1 := Z.cell 1
    simp only [List.set_cons_zero, List.set_cons_succ, List.getElem?_cons_zero, List.getElem?_cons_succ] at y0 y1
    have HK := Lib.hid K2; have HGR := Lib.hid K4
    clear K1 K2 K3 K4 Z
    go_wp2_with fail
    refine bodyPost_ret (v := .agg #[.string x, .string y]) (by simp [results, Tryz.results195, go_sem, y0, y1]) rfl ?_
    have hq := sets2_grown w4 (w.heap.size + 1) (.string x) (.string y)
    exact ⟨x, y, rfl, zx, zy, (HK.out.grown hq (fun e => by injection e with e; omega)).mono (by omega), grow_own HGR.out hq (fun k e => by injection e with e; omega)⟩
  · skip
    go_wp2_with fail
    refine (cur_one HS.out (G.out _ HM3.out.2.2.2.1) hp HM3.out.2.1 (by omega) (by decide) (by decide)).mono ?_; rintro e w5 ⟨b1, rfl, hc5, hg5⟩
    have HM5 := Lib.hid (HM3.out.draw hg5 hc5)
    clear hc5 hg5 HM3
    rcases b1
    · skip
      have g0 := HM5.out.1.cell 0; have g1 := HM5.out.1.cell 1; have e0 := HM5.out.1.frozen 0; have e1 := HM5.out.1.frozen 1
      simp only [List.getElem?_cons_zero, List.getElem?_cons_succ] at g0 g1
      have HM := Lib.hid ((((HM5.out.put0 (x := ⟨#[49, 52]⟩)).put1 (x := ⟨#[49, 50, 51, 52]⟩)).put1 (x := ⟨#[49, 50]⟩)).put0 (x := ⟨#[49, 52]⟩))
      clear HM5
      obtain ⟨K1, K2, ⟨rx, ry, K3⟩, K4, K5, K6⟩ := HM.out
      have kc0 := K1.cell 0; have kc1 := K1.cell 1
      have kd0 := K3.cell 0; have kd1 := K3.cell 1
      have kf0 := K3.frozen 0; have kf1 := K3.frozen 1
      simp only [List.getElem?_cons_zero, List.getElem?_cons_succ] at kc0 kc1 kd0 kd1
      have Z := (K3.set_ 0 (.string ⟨#[49, 52]⟩)).set_ 1 (.string ⟨#[49, 50]⟩)
      have y0 := Z.cell 0; have y1 := Z.cell 1
      simp only [List.set_cons_zero, List.set_cons_succ, List.getElem?_cons_zero, List.getElem?_cons_succ] at y0 y1
      have HK := Lib.hid K2; have HGR := Lib.hid K4
      clear K1 K2 K3 K4 Z
      go_wp2_with fail
      refine bodyPost_ret (v := .agg #[.string ⟨#[49, 52]⟩, .string ⟨#[49, 50]⟩]) (by simp [results, Tryz.results195, go_sem, y0, y1]) rfl ?_
      have hq := sets2_grown ((((w5.setCell ⟨b, 0, none⟩ (.string ⟨#[49, 52]⟩)).setCell ⟨b, 1, none⟩ (.string ⟨#[49, 50, 51, 52]⟩)).setCell ⟨b, 1, none⟩ (.string ⟨#[49, 50]⟩)).setCell ⟨b, 0, none⟩ (.string ⟨#[49, 52]⟩)) (w.heap.size + 1) (.string ⟨#[49, 52]⟩) (.string ⟨#[49, 50]⟩)
      exact ⟨⟨#[49, 52]⟩, ⟨#[49, 50]⟩, rfl, by decide, by decide, (HK.out.grown hq (fun e => by injection e with e; omega)).mono (by omega), grow_own HGR.out hq (fun k e => by injection e with e; omega)⟩
    · skip
      have HM := HM5
      clear HM5
      obtain ⟨K1, K2, ⟨rx, ry, K3⟩, K4, K5, K6⟩ := HM.out
      have kc0 := K1.cell 0; have kc1 := K1.cell 1
      have kd0 := K3.cell 0; have kd1 := K3.cell 1
      have kf0 := K3.frozen 0; have kf1 := K3.frozen 1
      simp only [List.getElem?_cons_zero, List.getElem?_cons_succ] at kc0 kc1 kd0 kd1
      have Z := (K3.set_ 0 (.string x)).set_ 1 (.string y)
      have y0 := Z.cell 0; have y1 := Z.cell 1
      simp only [List.set_cons_zero, List.set_cons_succ, List.getElem?_cons_zero, List.getElem?_cons_succ] at y0 y1
      have HK := Lib.hid K2; have HGR := Lib.hid K4
      clear K1 K2 K3 K4 Z
      go_wp2_with fail
      refine bodyPost_ret (v := .agg #[.string x, .string y]) (by simp [results, Tryz.results195, go_sem, y0, y1]) rfl ?_
      have hq := sets2_grown w5 (w.heap.size + 1) (.string x) (.string y)
      exact ⟨x, y, rfl, zx, zy, (HK.out.grown hq (fun e => by injection e with e; omega)).mono (by omega), grow_own HGR.out hq (fun k e => by injection e with e; omega)⟩
  · skip
    go_wp2_with fail
    refine (cur_one HS.out (G.out _ HM3.out.2.2.2.1) hp HM3.out.2.1 (by omega) (by decide) (by decide)).mono ?_; rintro e w5 ⟨b1, rfl, hc5, hg5⟩
    have HM5 := Lib.hid (HM3.out.draw hg5 hc5)
    clear hc5 hg5 HM3
    rcases b1
    · skip
      have g0 := HM5.out.1.cell 0; have g1 := HM5.out.1.cell 1; have e0 := HM5.out.1.frozen 0; have e1 := HM5.out.1.frozen 1
      simp only [List.getElem?_cons_zero, List.getElem?_cons_succ] at g0 g1
      have HM := Lib.hid ((HM5.out.put0 (x := ⟨#[49, 52, 53]⟩)).put1 (x := ⟨#[49, 50, 51]⟩))
      clear HM5
      obtain ⟨K1, K2, ⟨rx, ry, K3⟩, K4, K5, K6⟩ := HM.out
      have kc0 := K1.cell 0; have kc1 := K1.cell 1
      have kd0 := K3.cell 0; have kd1 := K3.cell 1
      have kf0 := K3.frozen 0; have kf1 := K3.frozen 1
      simp only [List.getElem?_cons_zero, List.getElem?_cons_succ] at kc0 kc1 kd0 kd1
      have Z := (K3.set_ 0 (.string ⟨#[49, 52, 53]⟩)).set_ 1 (.string ⟨#[49, 50, 51]⟩)
      have y0 := Z.cell 0; have y1 := Z.cell 1
      simp only [List.set_cons_zero, List.set_cons_succ, List.getElem?_cons_zero, List.getElem?_cons_succ] at y0 y1
      have HK := Lib.hid K2; have HGR := Lib.hid K4
      clear K1 K2 K3 K4 Z
      go_wp2_with fail
      refine bodyPost_ret (v := .agg #[.string ⟨#[49, 52, 53]⟩, .string ⟨#[49, 50, 51]⟩]) (by simp [results, Tryz.results195, go_sem, y0, y1]) rfl ?_
      have hq := sets2_grown ((w5.setCell ⟨b, 0, none⟩ (.string ⟨#[49, 52, 53]⟩)).setCell ⟨b, 1, none⟩ (.string ⟨#[49, 50, 51]⟩)) (w.heap.size + 1) (.string ⟨#[49, 52, 53]⟩) (.string ⟨#[49, 50, 51]⟩)
      exact ⟨⟨#[49, 52, 53]⟩, ⟨#[49, 50, 51]⟩, rfl, by decide, by decide, (HK.out.grown hq (fun e => by injection e with e; omega)).mono (by omega), grow_own HGR.out hq (fun k e => by injection e with e; omega)⟩
    · skip
      have HM := HM5
      clear HM5
      obtain ⟨K1, K2, ⟨rx, ry, K3⟩, K4, K5, K6⟩ := HM.out
      have kc0 := K1.cell 0; have kc1 := K1.cell 1
      have kd0 := K3.cell 0; have kd1 := K3.cell 1
      have kf0 := K3.frozen 0; have kf1 := K3.frozen 1
      simp only [List.getElem?_cons_zero, List.getElem?_cons_succ] at kc0 kc1 kd0 kd1
      have Z := (K3.set_ 0 (.string x)).set_ 1 (.string y)
      have y0 := Z.cell 0; have y1 := Z.cell 1
      simp only [List.set_cons_zero, List.set_cons_succ, List.getElem?_cons_zero, List.getElem?_cons_succ] at y0 y1
      have HK := Lib.hid K2; have HGR := Lib.hid K4
      clear K1 K2 K3 K4 Z
      go_wp2_with fail
      refine bodyPost_ret (v := .agg #[.string x, .string y]) (by simp [results, Tryz.results195, go_sem, y0, y1]) rfl ?_
      have hq := sets2_grown w5 (w.heap.size + 1) (.string x) (.string y)
      exact ⟨x, y, rfl, zx, zy, (HK.out.grown hq (fun e => by injection e with e; omega)).mono (by omega), grow_own HGR.out hq (fun k e => by injection e with e; omega)⟩
  · skip
    go_wp2_with fail
    refine (cur_one HS.out (G.out _ HM3.out.2.2.2.1) hp HM3.out.2.1 (by omega) (by decide) (by decide)).mono ?_; rintro e w5 ⟨b1, rfl, hc5, hg5⟩
    have HM5 := Lib.hid (HM3.out.draw hg5 hc5)
    clear hc5 hg5 HM3
    rcases b1
    · skip
      have g0 := HM5.out.1.cell 0; have g1 := HM5.out.1.cell 1; have e0 := HM5.out.1.frozen 0; have e1 := HM5.out.1.frozen 1
      simp only [List.getElem?_cons_zero, List.getElem?_cons_succ] at g0 g1
      have HM := Lib.hid ((HM5.out.put0 (x := ⟨#[49, 52]⟩)).put1 (x := ⟨#[49, 50, 51, 52]⟩))
      clear HM5
      obtain ⟨K1, K2, ⟨rx, ry, K3⟩, K4, K5, K6⟩ := HM.out
      have kc0 := K1.cell 0; have kc1 := K1.cell 1
      have kd0 := K3.cell 0; have kd1 := K3.cell 1
      have kf0 := K3.frozen 0; have kf1 := K3.frozen 1
      simp only [List.getElem?_cons_zero, List.getElem?_cons_succ] at kc0 kc1 kd0 kd1
      have Z := (K3.set_ 0 (.string ⟨#[49, 52]⟩)).set_ 1 (.string ⟨#[49, 50, 51, 52]⟩)
      have y0 := Z.cell 0; have y1 := Z.cell 1
      simp only [List.set_cons_zero, List.set_cons_succ, List.getElem?_cons_zero, List.getElem?_cons_succ] at y0 y1
      have HK := Lib.hid K2; have HGR := Lib.hid K4
      clear K1 K2 K3 K4 Z
      go_wp2_with fail
      refine bodyPost_ret (v := .agg #[.string ⟨#[49, 52]⟩, .string ⟨#[49, 50, 51, 52]⟩]) (by simp [results, Tryz.results195, go_sem, y0, y1]) rfl ?_
      have hq := sets2_grown ((w5.setCell ⟨b, 0, none⟩ (.string ⟨#[49, 52]⟩)).setCell ⟨b, 1, none⟩ (.string ⟨#[49, 50, 51, 52]⟩)) (w.heap.size + 1) (.string ⟨#[49, 52]⟩) (.string ⟨#[49, 50, 51, 52]⟩)
      exact ⟨⟨#[49, 52]⟩, ⟨#[49, 50, 51, 52]⟩, rfl, by decide, by decide, (HK.out.grown hq (fun e => by injection e with e; omega)).mono (by omega), grow_own HGR.out hq (fun k e => by injection e with e; omega)⟩
    · skip
      have HM := HM5
      clear HM5
      obtain ⟨K1, K2, ⟨rx, ry, K3⟩, K4, K5, K6⟩ := HM.out
      have kc0 := K1.cell 0; have kc1 := K1.cell 1
      have kd0 := K3.cell 0; have kd1 := K3.cell 1
      have kf0 := K3.frozen 0; have kf1 := K3.frozen 1
      simp only [List.getElem?_cons_zero, List.getElem?_cons_succ] at kc0 kc1 kd0 kd1
      have Z := (K3.set_ 0 (.string x)).set_ 1 (.string y)
      have y0 := Z.cell 0; have y1 := Z.cell 1
      simp only [List.set_cons_zero, List.set_cons_succ, List.getElem?_cons_zero, List.getElem?_cons_succ] at y0 y1
      have HK := Lib.hid K2; have HGR := Lib.hid K4
      clear K1 K2 K3 K4 Z
      go_wp2_with fail
      refine bodyPost_ret (v := .agg #[.string x, .string y]) (by simp [results, Tryz.results195, go_sem, y0, y1]) rfl ?_
      have hq := sets2_grown w5 (w.heap.size + 1) (.string x) (.string y)
      exact ⟨x, y, rfl, zx, zy, (HK.out.grown hq (fun e => by injection e with e; omega)).mono (by omega), grow_own HGR.out hq (fun k e => by injection e with e; omega)⟩
  · skip
    have HM := HM3
    clear HM3
    obtain ⟨K1, K2, ⟨rx, ry, K3⟩, K4, K5, K6⟩ := HM.out
    have kc0 := K1.cell 0; have kc1 := K1.cell 1
    have kd0 := K3.cell 0; have kd1 := K3.cell 1
    have kf0 := K3.frozen 0; have kf1 := K3.frozen 1
    simp only [List.getElem?_cons_zero, List.getElem?_cons_succ] at kc0 kc1 kd0 kd1
    have Z := (K3.set_ 0 (.string x)).set_ 1 (.string y)
    have y0 := Z.cell 0; have y1 := Z.cell 1
    simp only [List.set_cons_zero, List.set_cons_succ, List.getElem?_cons_zero, List.getElem?_cons_succ] at y0 y1
    have HK := Lib.hid K2; have HGR := Lib.hid K4
    clear K1 K2 K3 K4 Z
    go_wp2_with fail
    refine bodyPost_ret (v := .agg #[.string x, .string y]) (by simp [results, Tryz.results195, go_sem, y0, y1]) rfl ?_
    have hq := sets2_grown w4 (w.heap.size + 1) (.string x) (.string y)
    exact ⟨x, y, rfl, zx, zy, (HK.out.grown hq (fun e => by injection e with e; omega)).mono (by omega), grow_own HGR.out hq (fun k e => by injection e with e; omega)⟩
  · skip
    go_wp2_with fail
    refine (cur_one HS.out (G.out _ HM3.out.2.2.2.1) hp HM3.out.2.1 (by omega) (by decide) (by decide)).mono ?_; rintro e w5 ⟨b1, rfl, hc5, hg5⟩
    have HM5 := Lib.hid (HM3.out.draw hg5 hc5)
    clear hc5 hg5 HM3
    rcases b1
    · skip
      have g0 := HM5.out.1.cell 0; have g1 := HM5.out.1.cell 1; have e0 := HM5.out.1.frozen 0; have e1 := HM5.out.1.frozen 1
      simp only [List.getElem?_cons_zero, List.getElem?_cons_succ] at g0 g1
      have HM := Lib.hid ((HM5.out.put0 (x := ⟨#[49, 52]⟩)).put1 (x := ⟨#[49, 50, 51, 52]⟩))
      clear HM5
      obtain ⟨K1, K2, ⟨rx, ry, K3⟩, K4, K5, K6⟩ := HM.out
      have kc0 := K1.cell 0; have kc1 := K1.cell 1
      have kd0 := K3.cell 0; have kd1 := K3.cell 1
      have kf0 := K3.frozen 0; have kf1 := K3.frozen 1
      simp only [List.getElem?_cons_zero, List.getElem?_cons_succ] at kc0 kc1 kd0 kd1
      have Z := (K3.set_ 0 (.string ⟨#[49, 52]⟩)).set_ 1 (.string ⟨#[49, 50, 51, 52]⟩)
      have y0 := Z.cell 0; have y1 := Z.cell 1
      simp only [List.set_cons_zero, List.set_cons_succ, List.getElem?_cons_zero, List.getElem?_cons_succ] at y0 y1
      have HK := Lib.hid K2; have HGR := Lib.hid K4
      clear K1 K2 K3 K4 Z
      go_wp2_with fail
      refine bodyPost_ret (v := .agg #[.string ⟨#[49, 52]⟩, .string ⟨#[49, 50, 51, 52]⟩]) (by simp [results, Tryz.results195, go_sem, y0, y1]) rfl ?_
      have hq := sets2_grown ((w5.setCell ⟨b, 0, none⟩ (.string ⟨#[49, 52]⟩)).setCell ⟨b, 1, none⟩ (.string ⟨#[49, 50, 51, 52]⟩)) (w.heap.size + 1) (.string ⟨#[49, 52]⟩) (.string ⟨#[49, 50, 51, 52]⟩)
      exact ⟨⟨#[49, 52]⟩, ⟨#[49, 50, 51, 52]⟩, rfl, by decide, by decide, (HK.out.grown hq (fun e => by injection e with e; omega)).mono (by omega), grow_own HGR.out hq (fun k e => by injection e with e; omega)⟩
    · skip
      have HM := HM5
      clear HM5
      obtain ⟨K1, K2, ⟨rx, ry, K3⟩, K4, K5, K6⟩ := HM.out
      have kc0 := K1.cell 0; have kc1 := K1.cell 1
      have kd0 := K3.cell 0; have kd1 := K3.cell 1
      have kf0 := K3.frozen 0; have kf1 := K3.frozen 1
      simp only [List.getElem?_cons_zero, List.getElem?_cons_succ] at kc0 kc1 kd0 kd1
      have Z := (K3.set_ 0 (.string x)).set_ 1 (.string y)
      have y0 := Z.cell 0; have y1 := Z.cell 1
      simp only [List.set_cons_zero, List.set_cons_succ, List.getElem?_cons_zero, List.getElem?_cons_succ] at y0 y1
      have HK := Lib.hid K2; have HGR := Lib.hid K4
      clear K1 K2 K3 K4 Z
      go_wp2_with fail
      refine bodyPost_ret (v := .agg #[.string x, .string y]) (by simp [results, Tryz.results195, go_sem, y0, y1]) rfl ?_
      have hq := sets2_grown w5 (w.heap.size + 1) (.string x) (.string y)
      exact ⟨x, y, rfl, zx, zy, (HK.out.grown hq (fun e => by injection e with e; omega)).mono (by omega), grow_own HGR.out hq (fun k e => by injection e with e; omega)⟩
set_option maxHeartbeats 4000000 in
set_option maxRecDepth 100000 in
theorem cur_anyCalls {A B : Option Addr} {n c a p st m d : Nat} {nm : ByteArray} {L : List ByteArray} {w0 w : World} (hS : Src w0 A n) (hb : Below w0.heap.size w0 w) (hp : w0.heap.size ≤ p) (hc : Cur w p A n c a) (ha : a ≤ 900000) (hn : L.length = m) (h : Strs w B L) (hz : m ≤ 1048576) (hs : ∀ s ∈ L, s.size ≤ 16777216) (hnm : nm.size ≤ 16777216) (hst : I64 (st : Int)) :
    Calls Tryz.prog 116 #[.pointer (some ⟨p, 0, none⟩), .agg #[.string nm, .int .i64 st, .slice B m d]] w fun e w' => ∃ kb ks : ByteArray, e = .returned (.agg #[.string kb, .string ks]) ∧ kb.size ≤ 8 ∧ ks.size ≤ 8 ∧ Cur w' p A n c (a + 20) ∧ w.grownBy w' (some p) := by
  have hpw := hc.lt
  have N0 := (Blk.at_ w 25 [.string nm, .int .i64 (st : Int), .slice B m d] (b := w.heap.size) rfl).alloc (.cells #[.string ⟨#[]⟩, .string ⟨#[]⟩] 27)
  have R0 := Blk.at_ (w.alloc (.cells #[.string nm, .int .i64 (st : Int), .slice B m d] 25)) 27 [.string ⟨#[]⟩, .string ⟨#[]⟩] (b := w.heap.size + 1) (by simp)
  have b0 : Below w.heap.size w ((w.alloc (.cells #[.string nm, .int .i64 (st : Int), .slice B m d] 25)).alloc (.cells #[.string ⟨#[]⟩, .string ⟨#[]⟩] 27)) := by (repeat' (first | (with_reducible exact Below.refl _ _) | (with_reducible assumption) | (with_reducible refine below_drewN ?_ _) | (with_reducible refine Below.drew ?_) | (with_reducible refine below_alloc ?_ _) | (with_reducible refine Below.alloc ?_ ?_ _) | (with_reducible refine Below.setCell ?_ ?_ _) | (with_reducible refine below_go ?_ (by with_reducible assumption)) | (with_reducible refine below_then (by with_reducible assumption) ?_ ?_) | go_size))
  have G : Hid (∀ u : World, w.grownBy u (some p) → Below w0.heap.size w0 u) := Lib.hid (fun u hg => grown_below hb hp hg)
  have HS := Lib.hid hS
  have H0 := h.up b0
  clear hS hb
  go_in
  go_wp2_with fail
  obtain ⟨w1, hw1⟩ : ∃ u, u = ((w.alloc (.cells #[.string nm, .int .i64 (st : Int), .slice B m d] 25)).alloc (.cells #[.string ⟨#[]⟩, .string ⟨#[]⟩] 27)) := ⟨_, rfl⟩
  have z1 : w1.heap.size = w.heap.size + 2 := by rw [hw1]; simp
  rw [← hw1] at b0 R0 N0 H0 ⊢
  clear hw1
  refine (spec_l4Good hn H0 hz hs hnm hst).mono ?_; rintro e w2 ⟨rfl, hb2⟩
  have g2 : w.grownBy w2 (some p) := grownBy_trans (grown_any b0 _) (grown_any hb2 _)
  have R2 := R0.up hb2
  have N2 := N0.up hb2
  have C2 := (hc.up b0).up hb2
  have s2 := hb2.size
  clear R0 N0 hc H0 h b0 hb2
  rcases hg : goodM nm (st : Int) L
  · have kd0 := R2.cell 0; have kd1 := R2.cell 1
    have kf0 := R2.frozen 0; have kf1 := R2.frozen 1
    simp only [List.getElem?_cons_zero, List.getElem?_cons_succ] at kd0 kd1
    have Z := (R2.set_ 0 (.string ⟨#[49, 52]⟩)).set_ 1 (.string ⟨#[49, 50, 51, 52]⟩)
    have y0 := Z.cell 0; have y1 := Z.cell 1
    simp only [List.set_cons_zero, List.set_cons_succ, List.getElem?_cons_zero, List.getElem?_cons_succ] at y0 y1
    go_wp2_with fail
    refine bodyPost_ret (v := .agg #[.string ⟨#[49, 52]⟩, .string ⟨#[49, 50, 51, 52]⟩]) (by simp [results, Tryz.results116, go_sem, y0, y1]) rfl ?_
    have hq := sets2_grown w2 (w.heap.size + 1) (.string ⟨#[49, 52]⟩) (.string ⟨#[49, 50, 51, 52]⟩)
    exact ⟨_, _, rfl, by decide, by decide, (C2.grown hq (fun e => by injection e with e; omega)).mono (by omega), grow_own g2 hq (fun k e => by injection e with e; omega)⟩
  · have h38 : 3 ≤ st ∧ st ≤ 8 := by have := goodM_t hg; omega
    have n0 := N2.cell 0; have n1 := N2.cell 1; have n2 := N2.cell 2
    simp only [List.getElem?_cons_zero, List.getElem?_cons_succ] at n0 n1 n2
    go_wp2_with fail
    refine (cur_calls HS.out (G.out _ g2) hp C2 (by omega) h38.1 h38.2).mono ?_; rintro e w3 ⟨x, y, rfl, zx, zy, hc3, hg3⟩
    have g3 := grownBy_trans g2 hg3
    have R3 := R2.grown hg3 (fun e => by injection e with e; omega)
    have s3 := hg3.size
    have K3 := Blk.at_ w3 27 [.string x, .string y] (b := w3.heap.size) rfl
    have a3 : Below w3.heap.size w3 (w3.alloc (.cells #[.string x, .string y] 27)) := by (repeat' (first | (with_reducible exact Below.refl _ _) | (with_reducible assumption) | (with_reducible refine below_drewN ?_ _) | (with_reducible refine Below.drew ?_) | (with_reducible refine below_alloc ?_ _) | (with_reducible refine Below.alloc ?_ ?_ _) | (with_reducible refine Below.setCell ?_ ?_ _) | (with_reducible refine below_go ?_ (by with_reducible assumption)) | (with_reducible refine below_then (by with_reducible assumption) ?_ ?_) | go_size))
    have HM3 := Lib.hid (show CSt w (w3.alloc (.cells #[.string x, .string y] 27)) p A n c (a + 10) w3.heap.size x y from ⟨K3, hc3.up a3, ⟨_, _, R3.up a3⟩, grownBy_trans g3 (grown_any a3 _), hpw, by omega⟩)
    clear R2 R3 hc3 hg3 K3 a3 g2 g3 C2 N2 n0 n1 n2
    go_upto_region 4 with fail
    obtain ⟨w4, hw4⟩ : ∃ u, u = w3.alloc (.cells #[.string x, .string y] 27) := ⟨_, rfl⟩
    obtain ⟨b, hb⟩ : ∃ b, b = w3.heap.size := ⟨_, rfl⟩
    rw [← hw4] at HM3 ⊢
    rw [← hb] at HM3 ⊢
    clear hw4 hb
    go_wp2_with fail
    refine (cur_one HS.out (G.out _ HM3.out.2.2.2.1) hp HM3.out.2.1 (by omega) (by decide) (by decide)).mono ?_; rintro e w5 ⟨b1, rfl, hc5, hg5⟩
    have HM5 := Lib.hid (HM3.out.draw hg5 hc5)
    clear hc5 hg5 HM3
    rcases b1
    · skip
      have HM := HM5
      clear HM5
      obtain ⟨K1, K2, ⟨rx, ry, K3⟩, K4, K5, K6⟩ := HM.out
      have kc0 := K1.cell 0; have kc1 := K1.cell 1
      have kd0 := K3.cell 0; have kd1 := K3.cell 1
      have kf0 := K3.frozen 0; have kf1 := K3.frozen 1
      simp only [List.getElem?_cons_zero, List.getElem?_cons_succ] at kc0 kc1 kd0 kd1
      have Z := (K3.set_ 0 (.string x)).set_ 1 (.string y)
      have y0 := Z.cell 0; have y1 := Z.cell 1
      simp only [List.set_cons_zero, List.set_cons_succ, List.getElem?_cons_zero, List.getElem?_cons_succ] at y0 y1
      have HK := Lib.hid K2; have HGR := Lib.hid K4
      clear K1 K2 K3 K4 Z
      go_wp2_with fail
      refine bodyPost_ret (v := .agg #[.string x, .string y]) (by simp [results, Tryz.results116, go_sem, y0, y1]) rfl ?_
      have hq := sets2_grown w5 (w.heap.size + 1) (.string x) (.string y)
      exact ⟨x, y, rfl, zx, zy, (HK.out.grown hq (fun e => by injection e with e; omega)).mono (by omega), grow_own HGR.out hq (fun k e => by injection e with e; omega)⟩
    · go_wp2_with fail
      have hl := lit_strs2 w5 9 [⟨#[]⟩, ⟨#[120]⟩, ⟨#[49]⟩, ⟨#[49, 51]⟩, ⟨#[57, 57]⟩]
      have a5 : ∀ o : Obj, Below w5.heap.size w5 (w5.alloc o) := fun o => (Below.refl _ _).alloc (Nat.le_refl _) o
      have hs5 := HM5.out.1.lt
      have HM6 := Lib.hid (HM5.out.up (a5 (.cells #[.string ⟨#[]⟩, .string ⟨#[120]⟩, .string ⟨#[49]⟩, .string ⟨#[49, 51]⟩, .string ⟨#[57, 57]⟩] 9)))
      refine (cur_of HS.out (G.out _ HM6.out.2.2.2.1) hp HM6.out.2.1 (by omega) rfl hl (by decide) (by decide) (fun b o e => by injection e with e; injection e with e; have := HM6.out.2.2.2.2; omega)).mono ?_; rintro e w7 ⟨z, hz, rfl, hc7, hg7⟩
      have HM7 := Lib.hid (HM6.out.draw hg7 hc7)
      have zz : z.size ≤ 8 := by
        simp only [List.mem_cons, List.not_mem_nil, or_false] at hz
        rcases hz with rfl | rfl | rfl | rfl | rfl <;> decide
      clear hc7 hg7 hz hl a5 HM5 HM6
      have g0 := HM7.out.1.cell 0; have e0 := HM7.out.1.frozen 0
      simp only [List.getElem?_cons_zero, List.getElem?_cons_succ] at g0
      have HM := Lib.hid (HM7.out.put0 (x := z))
      clear HM7
      obtain ⟨K1, K2, ⟨rx, ry, K3⟩, K4, K5, K6⟩ := HM.out
      have kc0 := K1.cell 0; have kc1 := K1.cell 1
      have kd0 := K3.cell 0; have kd1 := K3.cell 1
      have kf0 := K3.frozen 0; have kf1 := K3.frozen 1
      simp only [List.getElem?_cons_zero, List.getElem?_cons_succ] at kc0 kc1 kd0 kd1
      have Z := (K3.set_ 0 (.string z)).set_ 1 (.string y)
      have y0 := Z.cell 0; have y1 := Z.cell 1
      simp only [List.set_cons_zero, List.set_cons_succ, List.getElem?_cons_zero, List.getElem?_cons_succ] at y0 y1
      have HK := Lib.hid K2; have HGR := Lib.hid K4
      clear K1 K2 K3 K4 Z
      go_wp2_with fail
      refine bodyPost_ret (v := .agg #[.string z, .string y]) (by simp [results, Tryz.results116, go_sem, y0, y1]) rfl ?_
      have hq := sets2_grown (w7.setCell ⟨b, 0, none⟩ (.string z)) (w.heap.size + 1) (.string z) (.string y)
      exact ⟨z, y, rfl, zz, zy, (HK.out.grown hq (fun e => by injection e with e; omega)).mono (by omega), grow_own HGR.out hq (fun k e => by injection e with e; omega)⟩
theorem five_cal : ∀ x ∈ [(⟨#[112]⟩ : ByteArray), ⟨#[112]⟩, ⟨#[98]⟩, ⟨#[115]⟩, ⟨#[98]⟩], calT x ∧ x.size = 1 := by
  intro x hx
  simp only [List.mem_cons, List.not_mem_nil, or_false] at hx
  rcases hx with rfl | rfl | rfl | rfl | rfl
  · exact ⟨calT_p, rfl⟩
  · exact ⟨calT_p, rfl⟩
  · exact ⟨calT_b, rfl⟩
  · exact ⟨calT_s, rfl⟩
  · exact ⟨calT_b, rfl⟩
set_option maxHeartbeats 2000000 in
set_option maxRecDepth 100000 in
theorem cur_touch {A : Option Addr} {n c a p M : Nat} {w0 w : World} (hS : Src w0 A n) (hb : Below w0.heap.size w0 w) (hp : w0.heap.size ≤ p) (hc : Cur w p A n c a) (ha : a ≤ 1000000) (hM : M ≤ 20) (hM1 : 1 ≤ M) :
    Calls Tryz.prog 119 #[.pointer (some ⟨p, 0, none⟩), .int .i64 M] w fun e w' => ∃ t : ByteArray, e = .returned (.string t) ∧ calT t ∧ 1 ≤ t.size ∧ t.size ≤ 2 * M ∧ Cur w' p A n c (a + 30) ∧ w.grownBy w' (some p) := by
  have G : Hid (∀ u : World, w.grownBy u (some p) → Below w0.heap.size w0 u) := Lib.hid (fun u hg => grown_below hb hp hg)
  have HS := Lib.hid hS
  have HF := Lib.hid five_cal
  have hpw := hc.lt
  go_in
  go_wp2_with fail
  refine (cur_pick hS hb hp hc (by omega) (by omega) (by omega)).mono ?_; rintro e w1 ⟨x, rfl, ⟨x0, x1⟩, hc1, hg1⟩
  obtain ⟨X, rfl⟩ := Int.eq_ofNat_of_zero_le x0
  have hX : X + 1 ≤ M := by omega
  have HG1 := Lib.hid hg1
  have HC1 := Lib.hid hc1
  clear x0 x1 hb hc hS hc1 hg1
  go_wp2
  go_loopw [5, 6] (fun v i wr => ∃ (k : Nat) (t : ByteArray), k ≤ X + 1 ∧ i = .int .i64 k ∧ v = .string t ∧ t.size + k = X + 1 ∧ Hid (calT t) ∧ Hid (Cur wr p A n c (a + 1 + t.size)) ∧ Hid (w.grownBy wr (some p))) (fun _ i _ => (intOf i).toNat)
  case atStart => exact ⟨X + 1, ⟨#[]⟩, Nat.le_refl _, by go_num, rfl, by rw [show (⟨#[]⟩ : ByteArray).size = 0 from rfl]; omega, Lib.hid calT_nil, Lib.hid (HC1.out.mono (by omega)), HG1⟩
  case round =>
    obtain ⟨k, t, hk, rfl, rfl, htk, HT, HC, HG⟩ := hrel
    rename World => wr
    by_cases h0 : 0 < k
    · have hI : (0 : Int) < (k : Int) := by omega
      have hl := lit_strs2 wr 9 [⟨#[112]⟩, ⟨#[112]⟩, ⟨#[98]⟩, ⟨#[115]⟩, ⟨#[98]⟩]
      have hpr := HC.out.lt
      go_wp2_with fail
      refine (cur_of HS.out (G.out _ (grownBy_trans HG.out (World.grownBy_alloc _ _ _))) hp (HC.out.up ((Below.refl _ _).alloc (Nat.le_refl _) _)) (by omega) rfl hl (by decide) (by decide) (fun b o e => by injection e with e; injection e with e; omega)).mono ?_; rintro e w2 ⟨y, hy, rfl, hc2, hg2⟩
      have hyc := HF.out y hy
      have HY := Lib.hid hyc.1
      have hy1 := hyc.2
      have HC2 := Lib.hid hc2
      have HG2 := Lib.hid (grownBy_trans (grownBy_trans HG.out (World.grownBy_alloc _ _ _)) hg2)
      have hty : (t ++ y).size = t.size + 1 := by rw [ByteArray.size_append, hy1]
      have HCA := Lib.hid (calT_app HT.out HY.out)
      clear hc2 hg2 hy hyc hl
      have hov : ¬ 9223372036854775807 < t.size + y.size := by omega
      go_wp2
      go_roundw
      case rel => exact ⟨k - 1, t ++ y, by omega, by go_num, rfl, by omega, HCA, Lib.hid (HC2.out.mono (by omega)), HG2⟩
      case measure => simp [intOf]; omega
    · obtain rfl : k = 0 := by omega
      have hI : ¬ (0 : Int) < ((0 : Nat) : Int) := by omega
      go_wp2_with fail
      refine (cur_one HS.out (G.out _ HG.out) hp HC.out (by omega) (by decide) (by decide)).mono ?_; rintro e w3 ⟨b, rfl, hc3, hg3⟩
      have HC3 := Lib.hid hc3
      have HG3 := Lib.hid (grownBy_trans HG.out hg3)
      clear hc3 hg3
      have hov : ¬ 9223372036854775807 < t.size + t.size := by omega
      have hsz : (t ++ t).size = t.size + t.size := ByteArray.size_append
      rcases b
      · go_wp2
        go_ret
        exact ⟨t, rfl, HT.out, by omega, by omega, HC3.out.mono (by omega), HG3.out⟩
      · go_wp2
        go_ret
        exact ⟨t ++ t, rfl, calT_app HT.out HT.out, by omega, by omega, HC3.out.mono (by omega), HG3.out⟩
set_option maxHeartbeats 2000000 in
set_option maxRecDepth 100000 in
theorem cur_anyTouch {A : Option Addr} {n c a p : Nat} {w0 w : World} (hS : Src w0 A n) (hb : Below w0.heap.size w0 w) (hp : w0.heap.size ≤ p) (hc : Cur w p A n c a) (ha : a ≤ 900000) :
    Calls Tryz.prog 129 #[.pointer (some ⟨p, 0, none⟩)] w fun e w' => ∃ t : ByteArray, e = .returned (.string t) ∧ t.size ≤ 61 ∧ Cur w' p A n c (a + 100) ∧ w.grownBy w' (some p) := by
  have G : Hid (∀ u : World, w.grownBy u (some p) → Below w0.heap.size w0 u) := Lib.hid (fun u hg => grown_below hb hp hg)
  have HS := Lib.hid hS
  have hpw := hc.lt
  go_in
  go_wp2_with fail
  refine (cur_pick hS hb hp hc (by omega) (by decide) (by decide)).mono ?_; rintro e w1 ⟨x, rfl, ⟨x0, x1⟩, hc1, hg1⟩
  have HG1 := Lib.hid hg1
  have HC1 := Lib.hid hc1
  have hp1 := hc1.lt
  clear hb hc hS hc1 hg1
  have hx : x = 0 ∨ x = 1 ∨ 2 ≤ x := by omega
  clear x1
  rcases hx with rfl | rfl | hx
  · have hl := lit_strs2 w1 9 [⟨#[]⟩, ⟨#[120]⟩, ⟨#[112, 66]⟩, ⟨#[112, 32, 98]⟩]
    go_wp2_with fail
    refine (cur_of HS.out (G.out _ (grownBy_trans HG1.out (World.grownBy_alloc _ _ _))) hp (HC1.out.up ((Below.refl _ _).alloc (Nat.le_refl _) _)) (by omega) rfl hl (by decide) (by decide) (fun b o e => by injection e with e; injection e with e; omega)).mono ?_; rintro e w2 ⟨y, hy, rfl, hc2, hg2⟩
    have HG2 := Lib.hid (grownBy_trans (grownBy_trans HG1.out (World.grownBy_alloc _ _ _)) hg2)
    have hyz : y.size ≤ 61 := by
      simp only [List.mem_cons, List.not_mem_nil, or_false] at hy
      rcases hy with rfl | rfl | rfl | rfl <;> decide
    clear hl hy
    go_wp2
    go_ret
    exact ⟨y, rfl, hyz, hc2.mono (by omega), HG2.out⟩
  · have hl := lit_ints w1 3 [59, 60, 61]
    go_wp2_with fail
    refine (cur_among HS.out (G.out _ (grownBy_trans HG1.out (World.grownBy_alloc _ _ _))) hp (HC1.out.up ((Below.refl _ _).alloc (Nat.le_refl _) _)) (by omega) rfl hl (by decide) (by decide) (fun b o e => by injection e with e; injection e with e; omega)).mono ?_; rintro e w2 ⟨y, hy, rfl, hc2, hg2⟩
    have HG2 := Lib.hid (grownBy_trans (grownBy_trans HG1.out (World.grownBy_alloc _ _ _)) hg2)
    have HC2 := Lib.hid hc2
    simp only [List.mem_cons, List.not_mem_nil, or_false] at hy
    obtain ⟨Y, rfl⟩ : ∃ z : Nat, y = (z : Int) := ⟨y.toNat, by omega⟩
    have hY : Y ≤ 61 := by omega
    clear hl hy hc2 hg2 HG1 HC1
    go_wp2
    go_loopw [3, 4] (fun v i wr => ∃ (k : Nat) (t : ByteArray), k ≤ Y ∧ i = .int .i64 k ∧ v = .string t ∧ t.size + k = Y ∧ Hid (Cur wr p A n c (a + 2 + t.size)) ∧ Hid (w.grownBy wr (some p))) (fun _ i _ => (intOf i).toNat)
    case atStart => exact ⟨Y, ⟨#[]⟩, Nat.le_refl _, rfl, rfl, by rw [show (⟨#[]⟩ : ByteArray).size = 0 from rfl]; omega, Lib.hid (HC2.out.mono (by omega)), HG2⟩
    case round =>
      obtain ⟨k, t, hk, rfl, rfl, htk, HC, HG⟩ := hrel
      rename World => wr
      by_cases h0 : 0 < k
      · have hI : (0 : Int) < (k : Int) := by omega
        have hl := lit_strs2 wr 9 [⟨#[112]⟩, ⟨#[98]⟩, ⟨#[115]⟩]
        have hpr := HC.out.lt
        go_wp2_with fail
        refine (cur_of HS.out (G.out _ (grownBy_trans HG.out (World.grownBy_alloc _ _ _))) hp (HC.out.up ((Below.refl _ _).alloc (Nat.le_refl _) _)) (by omega) rfl hl (by decide) (by decide) (fun b o e => by injection e with e; injection e with e; omega)).mono ?_; rintro e w2 ⟨y, hy, rfl, hc2, hg2⟩
        have hy1 : y.size = 1 := by
          simp only [List.mem_cons, List.not_mem_nil, or_false] at hy
          rcases hy with rfl | rfl | rfl <;> rfl
        have HC2 := Lib.hid hc2
        have HG2 := Lib.hid (grownBy_trans (grownBy_trans HG.out (World.grownBy_alloc _ _ _)) hg2)
        have hty : (t ++ y).size = t.size + 1 := by rw [ByteArray.size_append, hy1]
        clear hc2 hg2 hy hl
        have hov : ¬ 9223372036854775807 < t.size + y.size := by omega
        go_wp2
        go_roundw
        case rel => exact ⟨k - 1, t ++ y, by omega, by go_num, rfl, by omega, Lib.hid (HC2.out.mono (by omega)), HG2⟩
        case measure => simp [intOf]; omega
      · obtain rfl : k = 0 := by omega
        have hI : ¬ (0 : Int) < ((0 : Nat) : Int) := by omega
        go_wp2
        go_ret
        exact ⟨t, rfl, by omega, HC.out.mono (by omega), HG.out⟩
  · have n0 : (x == 0) = false := by simp; omega
    have n1 : (x == 1) = false := by simp; omega
    go_wp2_with fail
    refine (cur_touch (M := 9) HS.out (G.out _ HG1.out) hp HC1.out (by omega) (by decide) (by decide)).mono ?_; rintro e w2 ⟨t, rfl, _, _, ht, hc2, hg2⟩
    go_wp2
    go_ret
    exact ⟨t, rfl, by omega, hc2.mono (by omega), grownBy_trans HG1.out hg2⟩
end Go.Proofs.YtidolgonmimicaaGreat
namespace Go.Proofs.YtidolgonmimicaaGreat
open Go.ChangeShapes Go.WideShapes Go.ChangeAt Go.RowKit Go.Deep
set_option maxRecDepth 100000 in
theorem cur_pickL {A : Option Addr} {n c a p : Nat} {N : Int} {w0 w : World} (hS : Src w0 A n) (hb : Below w0.heap.size w0 w) (hp : w0.heap.size ≤ p) (hc : Cur w p A n c a) (ha : a ≤ 10000000) (hN : N ≤ 50000) (hN0 : -1000 ≤ N) :
    Calls Tryz.prog 72 #[.pointer (some ⟨p, 0, none⟩), .int .i64 N] w fun e w' => ∃ x : Int, e = .returned (.int .i64 x) ∧ upTo N x ∧ Cur w' p A n c (a + 2) ∧ w.grownBy w' (some p) := by
  by_cases h2 : N ≤ 200
  · refine (cur_pick hS hb hp hc (by omega) h2 hN0).mono ?_; rintro e w1 ⟨x, rfl, hx, hc1, hg1⟩
    exact ⟨x, rfl, hx, hc1.mono (by omega), hg1⟩
  · have G : Hid (∀ u : World, w.grownBy u (some p) → Below w0.heap.size w0 u) := Lib.hid (fun u hg => grown_below hb hp hg)
    have hI : (200 : Int) < N := by omega
    have hI1 : ¬ N ≤ 1 := by omega
    have hN1 : ¬ N = 0 := by omega
    go_in
    go_wp2_with fail
    refine (cur_next hS hb hp hc (by omega)).mono ?_; rintro e w1 ⟨x, rfl, x0, x1, hc1, hg1⟩
    go_wp2_with fail
    refine (cur_next hS (G.out _ hg1) hp hc1 (by omega)).mono ?_; rintro e w2 ⟨y, rfl, y0, y1, hc2, hg2⟩
    have hm : (x * 256 + y).tmod N = (x * 256 + y) % N := Int.tmod_eq_emod_of_nonneg (by omega)
    have m0 := Int.emod_nonneg (x * 256 + y) hN1
    have m1 := Int.emod_lt_of_pos (x * 256 + y) (show 0 < N by omega)
    go_wp2
    go_ret
    exact ⟨_, rfl, ⟨m0, .inl m1⟩, hc2, grownBy_trans hg1 hg2⟩
def txLen : Value → Nat
  | .string s => s.size
  | _ => 0
set_option maxHeartbeats 1000000 in
set_option maxRecDepth 100000 in
theorem spec_RowOf {n k : Nat} {w : World} (h3 : 3 ≤ n) (h8 : n ≤ 8) (hk : k < fact n) :
    Calls Tryz.prog 184 #[.int .i64 n, .int .i64 k] w fun e w' => ∃ r, e = .returned (.tuple #[.string r, .bool true]) ∧ RowN n r ∧ Below w.heap.size w w' := by
  have hfn := fact_le8 h8
  have HF : Hid (∀ k, k ≤ 8 → fact k ≤ 40320) := Lib.hid (fun k hk => fact_le8 hk)
  have HP : Hid (∀ k, 0 < fact k) := Lib.hid fact_pos
  have HM : Hid (∀ k, 0 < k → fact k = k * fact (k - 1)) := Lib.hid (fun k hk => by obtain ⟨m, rfl⟩ : ∃ m, k = m + 1 := ⟨k - 1, by omega⟩; rfl)
  have HST := Lib.hid (RowSt.start n)
  have hrs : (roundsS n).size = n := rounds_size n (by omega)
  have h1 : inB (n : Int) 3 8 = true := by rw [inB, decide_eq_true_iff]; omega
  have h2 : inB (k : Int) 0 ((fact n : Int) - 1) = true := by rw [inB, decide_eq_true_iff]; omega
  go_in
  go_wp2_with (first | (go_at_call 81; refine (spec_l1In _ _ _ _).mono ?_; (first | rw [h1] | rw [h2]); rintro e w' ⟨rfl, rfl⟩) | (go_at_call 185; refine (spec_l1Fact h8).mono ?_; rintro e w' ⟨rfl, rfl⟩) | (go_at_call 90; refine (spec_l1Rounds h8).mono ?_; rintro e w' ⟨rfl, rfl⟩))
  go_loopw [1, 6, 7] (fun kk r o wr => ∃ (K : Nat) (rest out : ByteArray), kk = .int .i64 K ∧ r = .string rest ∧ o = .string out ∧ rest.size ≤ n ∧ K < fact rest.size ∧ Hid (RowSt n out rest) ∧ Below w.heap.size w wr) (fun _ r _ _ => txLen r)
  case atStart => exact ⟨k, roundsS n, ⟨#[]⟩, rfl, rfl, rfl, by omega, by rw [hrs]; exact hk, HST, Below.refl _ _⟩
  case round =>
    obtain ⟨K, rest, out, rfl, rfl, rfl, hrn, hK, HS, hb⟩ := hrel
    rename World => wr
    have hsz := HS.out.sizes h8
    by_cases h0 : 0 < rest.size
    · have hI : (0 : Int) < (rest.size : Int) := by omega
      have hm1 : (rest.size : Int) - 1 = ((rest.size - 1 : Nat) : Int) := by omega
      obtain ⟨F, hF⟩ : ∃ F, F = fact (rest.size - 1) := ⟨_, rfl⟩
      have hFp : 0 < F := by rw [hF]; exact HP.out _
      have hFl : F ≤ 40320 := by rw [hF]; exact HF.out _ (by omega)
      have hKF : K < rest.size * F := by rw [hF, ← HM.out _ h0]; exact hK
      have hK4 : K ≤ 40320 := by have := HF.out rest.size (by omega); omega
      have hi : K / F < rest.size := div_lt_of hKF hFp
      have hmod : K % F < F := Nat.mod_lt _ hFp
      obtain ⟨q, hq⟩ : ∃ q, q = K / F := ⟨_, rfl⟩
      obtain ⟨m, hm⟩ : ∃ m, m = K % F := ⟨_, rfl⟩
      have hqK : q ≤ K := by rw [hq]; exact Nat.div_le_self K F
      have e1 : IntKind.i64.wrap ((K : Int) / (F : Int)) = (q : Int) := by
        rw [show (K : Int) / (F : Int) = (q : Int) by rw [hq]; simp]; exact wrap_id (by omega)
      have e2 : (K : Int) % (F : Int) = (m : Int) := by rw [hm]; simp
      rw [← hq] at hi
      rw [← hm] at hmod
      have HST2 := Lib.hid (HS.out.step hi)
      have hFn : ¬ (F : Int) = 0 := by omega
      have hs2 := HST2.out.sizes h8
      have hs3 : (out ++ rest.extract q (q + 1)).size = out.size + 1 := by rw [ByteArray.size_append, ByteArray.size_extract]; omega
      have hfq : fact (rest.extract 0 q ++ rest.extract (q + 1) rest.size).size = F := by rw [hF]; congr 1; omega
      have HF2 := Lib.hid hF
      have HS2 := Lib.hid hfq
      clear hq hm hfq hF
      clear hKF hK
      go_wp2_with (go_at_call 185; refine (spec_l1Fact (n := rest.size - 1) (by omega)).mono ?_; rw [← HF2.out]; rintro e w' ⟨rfl, rfl⟩)
      have w1 : IntKind.i64.wrap ((q : Int) + 1) = (q : Int) + 1 := wrap_id (by omega)
      have w2 : (q : Int) + 1 ≤ (rest.size : Int) := by omega
      have w3 : (q : Int) ≤ (rest.size : Int) := by omega
      go_quiet (fail)
      go_wp2
      go_roundw
      case rel => exact ⟨m, rest.extract 0 q ++ rest.extract (q + 1) rest.size, out ++ rest.extract q (q + 1), by go_num, rfl, rfl, by omega, by rw [HS2.out]; exact hmod, HST2, below_drewN hb _⟩
      case measure => simp [txLen]; omega
    · go_wp2
      go_ret2
      obtain ⟨h5, h6⟩ := HS.out.done h3 h8 (by omega)
      exact ⟨out, rfl, ⟨h5, h6⟩, hb⟩
end Go.Proofs.YtidolgonmimicaaGreat
namespace Go.Proofs.YtidolgonmimicaaGreat
open Go.ChangeShapes Go.WideShapes Go.ChangeAt Go.RowKit Go.Deep
set_option maxHeartbeats 1000000 in
set_option maxRecDepth 100000 in
theorem cur_spoilt {A : Option Addr} {n c a p B : Nat} {t v : ByteArray} {w0 w : World} (hS : Src w0 A n) (hb : Below w0.heap.size w0 w) (hp : w0.heap.size ≤ p) (hc : Cur w p A n c a) (ha : a ≤ 1000000) (ht : t.size ≤ B) (hB : B ≤ 40000) (hv0 : 0 < v.size) (hv : v.size ≤ 200) :
    Calls Tryz.prog 73 #[.pointer (some ⟨p, 0, none⟩), .string t, .string v] w fun e w' => ∃ s : ByteArray, e = .returned (.string s) ∧ s.size ≤ B + 2 ∧ Cur w' p A n c (a + 20) ∧ w.grownBy w' (some p) := by
  have HS := Lib.hid hS
  have G : Hid (∀ u : World, w.grownBy u (some p) → Below w0.heap.size w0 u) := Lib.hid (fun u hg => grown_below hb hp hg)
  go_in
  go_wp2_with fail
  refine (cur_pick hS hb hp hc (by omega) (by decide) (by decide)).mono ?_; rintro e w1 ⟨x, rfl, ⟨x0, x1⟩, hc1, hg1⟩
  obtain ⟨k0, rfl⟩ := Int.eq_ofNat_of_zero_le x0
  have hk0 : k0 ≤ 1 := by omega
  have hk1 : (1 : Int) + (k0 : Int) = ((k0 + 1 : Nat) : Int) := by omega
  clear hS x0 x1
  go_wp2
  go_loopw [1, 7, 8, 9, 44, 55] (fun vt vn _ _ _ _ wr => ∃ (k : Nat) (s : ByteArray), vt = .string s ∧ vn = .int .i64 k ∧ k ≤ 2 ∧ s.size + k ≤ B + 2 ∧ Cur wr p A n c (a + 1 + 5 * (2 - k)) ∧ Hid (w.grownBy wr (some p))) (fun _ vn _ _ _ _ _ => (intOf vn).toNat)
  case atStart => exact ⟨k0 + 1, t, rfl, rfl, by omega, by omega, hc1.mono (by omega), Lib.hid hg1⟩
  case round =>
    obtain ⟨k, s, rfl, rfl, hk, hs, hc, HG⟩ := hrel
    rename World => wr
    by_cases h0 : 0 < k
    · have hI : (k : Int) > 0 := by omega
      by_cases h1 : 0 < s.size
      · have hJ : (s.size : Int) > 0 := by omega
        go_wp2_with fail
        refine (cur_pickL HS.out (G.out _ HG.out) hp hc (by omega) (by omega) (by omega)).mono ?_; rintro e w2 ⟨y, rfl, ⟨y0, y1⟩, hc2, hg2⟩
        obtain ⟨i, rfl⟩ := Int.eq_ofNat_of_zero_le y0
        have hi : i < s.size := by omega
        have HG2 := Lib.hid (grownBy_trans HG.out hg2)
        clear y0 y1 hg2 HG hc
        go_wp2_with fail
        refine (cur_pick HS.out (G.out _ HG2.out) hp hc2 (by omega) (by omega) (by omega)).mono ?_; rintro e w3 ⟨z, rfl, ⟨z0, z1⟩, hc3, hg3⟩
        obtain ⟨j, rfl⟩ := Int.eq_ofNat_of_zero_le z0
        have hj : j < v.size := by omega
        have HG3 := Lib.hid (grownBy_trans HG2.out hg3)
        clear z0 z1 hg3 HG2 hc2
        have cv : ∀ x : Int, (convert 22 9 (.slice (some ⟨w3.heap.size, 0, none⟩) 1 1)).run Tryz.prog (w3.alloc (.cells #[.int .u8 x] 5)) = .ok (.string (strOfNums [x])) (w3.alloc (.cells #[.int .u8 x] 5)) := fun x =>
          run_convert_bytes_arg _ 22 5 Tryz.underlying22 Tryz.underlying5 w3.heap.size 0 1 1 [x] rfl (fun i hi => by
            obtain rfl : i = 0 := by omega
            exact (Blk.at_ w3 5 [.int .u8 x] rfl).cell 0) 9 Tryz.underlying9
        have hbA : ∀ x : Int, Below w3.heap.size w3 (w3.alloc (.cells #[.int .u8 x] 5)) := fun x => below_alloc (Below.refl _ _) _
        go_wp2_with fail
        obtain ⟨x5, hx5⟩ : ∃ x : Int, x = ((v[j].toNat : Nat) : Int) := ⟨_, rfl⟩
        rw [← hx5]
        obtain ⟨W, hW⟩ : ∃ W, W = strOfNums [x5] := ⟨_, rfl⟩
        have hW1 : W.size = 1 := by rw [hW]; rfl
        rw [← hW]
        have hb4 := hbA x5
        obtain ⟨w4, hw4⟩ : ∃ u, u = w3.alloc (.cells #[.int .u8 x5] 5) := ⟨_, rfl⟩
        rw [← hw4] at hb4 ⊢
        have hc4 := hc3.up hb4
        have HG4 := Lib.hid (grownBy_trans HG3.out (grown_any hb4 _))
        clear cv hbA hx5 hW hw4 hc3 HG3 hb4
        refine (cur_pick HS.out (G.out _ HG4.out) hp hc4 (by omega) (by decide) (by decide)).mono ?_; rintro e w5 ⟨z, rfl, ⟨z0, z1⟩, hc5, hg5⟩
        have HG5 := Lib.hid (grownBy_trans HG4.out hg5)
        clear hg5 HG4 hc4
        have hsI : ¬ 9223372036854775807 < i + 1 := by omega
        have hsI2 : ¬ 9223372036854775807 < i + 1 + (s.size - i) := by omega
        have hsI3 : ¬ 9223372036854775807 < i + 1 + (s.size - (i + 1)) := by omega
        have hsI4 : ¬ 9223372036854775807 < i + (s.size - (i + 1)) := by omega
        have hz3 : z = 0 ∨ z = 1 ∨ z = 2 := by omega
        rcases hz3 with rfl | rfl | rfl
        · have hsz : (s.extract 0 i ++ W ++ s.extract i s.size).size + (k - 1) ≤ B + 2 := by simp only [ByteArray.size_append, ByteArray.size_extract]; omega
          clear hsI hsI2 hsI3 hsI4 z0 z1
          have hq1 : ¬ 9223372036854775807 < (s.extract 0 i).size + W.size := by simp only [ByteArray.size_extract]; omega
          go_wp2
          go_quiet (fail)
          go_wp2
          go_roundw
          case rel => exact ⟨k - 1, s.extract 0 i ++ W ++ s.extract i s.size, rfl, by go_num, by omega, hsz, (hc5.up (below_drewN (Below.refl _ _) _)).mono (by omega), Lib.hid (grownBy_trans HG5.out (grown_any (below_drewN (Below.refl _ _) _) _))⟩
          case measure => simp [intOf]; omega
        · have hsz : (s.extract 0 i ++ W ++ s.extract (i + 1) s.size).size + (k - 1) ≤ B + 2 := by simp only [ByteArray.size_append, ByteArray.size_extract]; omega
          clear hsI hsI2 hsI3 hsI4 z0 z1
          have hq1 : ¬ 9223372036854775807 < (s.extract 0 i).size + W.size := by simp only [ByteArray.size_extract]; omega
          go_wp2
          go_quiet (fail)
          go_wp2
          go_roundw
          case rel => exact ⟨k - 1, s.extract 0 i ++ W ++ s.extract (i + 1) s.size, rfl, by go_num, by omega, hsz, (hc5.up (below_drewN (Below.refl _ _) _)).mono (by omega), Lib.hid (grownBy_trans HG5.out (grown_any (below_drewN (Below.refl _ _) _) _))⟩
          case measure => simp [intOf]; omega
        · have hsz : (s.extract 0 i ++ s.extract (i + 1) s.size).size + (k - 1) ≤ B + 2 := by simp only [ByteArray.size_append, ByteArray.size_extract]; omega
          clear hsI hsI2 hsI3 hsI4 z0 z1
          have hq1 : ¬ 9223372036854775807 < (s.extract 0 i).size + W.size := by simp only [ByteArray.size_extract]; omega
          go_wp2
          go_quiet (fail)
          go_wp2
          go_roundw
          case rel => exact ⟨k - 1, s.extract 0 i ++ s.extract (i + 1) s.size, rfl, by go_num, by omega, hsz, (hc5.up (below_drewN (Below.refl _ _) _)).mono (by omega), Lib.hid (grownBy_trans HG5.out (grown_any (below_drewN (Below.refl _ _) _) _))⟩
          case measure => simp [intOf]; omega
      · have hJ : ¬ (s.size : Int) > 0 := by omega
        go_wp2
        go_ret
        exact ⟨s, rfl, by omega, hc.mono (by omega), HG.out⟩
    · have hI : ¬ (k : Int) > 0 := by omega
      go_wp2
      go_ret
      exact ⟨s, rfl, by omega, hc.mono (by omega), HG.out⟩
end Go.Proofs.YtidolgonmimicaaGreat
namespace Go.Proofs.YtidolgonmimicaaGreat
open Go.ChangeShapes Go.WideShapes Go.ChangeAt Go.RowKit Go.Deep
section
variable {cut : ByteArray → Option Cut3} {n b : Nat} {p : ByteArray} {S T : List ByteArray} {C : List Cut3}
theorem run_cut {c : Cut3} (h : cut p = some c) : runF cut n (b + 1) (p :: S) T C = runF cut n b S T (C ++ [c]) := by rw [runF, h]
theorem run_touch (h : cut p = none) (hp : p.size = n) : runF cut n (b + 1) (p :: S) T C = runF cut n b S (T ++ [p]) C := by rw [runF, h]; simp [hp]
theorem run_kids (h : cut p = none) (hp : ¬ p.size = n) : runF cut n (b + 1) (p :: S) T C = runF cut n b (kids p ++ S) T C := by rw [runF, h]; simp [hp]
theorem run_end (h : b = 0 ∨ S = []) : runF cut n b S T C = ⟨b, T, C, S.isEmpty⟩ := by
  rcases b with _ | b
  · rfl
  · rcases h with h | rfl
    · cases h
    · rfl
end
noncomputable def foundF (st : Nat) (l : List ByteArray) (kb ks : ByteArray) (n b : Nat) : SS := runF (cutF st l kb ks n) n b [⟨#[]⟩] [] []
theorem found_ex (st : Nat) (l : List ByteArray) (kb ks : ByteArray) (n b : Nat) : foundF st l kb ks n b = exF (cutF st l kb ks n) n ⟨b, [], [], true⟩ ⟨#[]⟩ := by
  rw [foundF, run_eq _ _ _ _ _ _ (fun p hp => by rw [List.mem_singleton.1 hp]; exact Nat.zero_le _)]
  rfl
end Go.Proofs.YtidolgonmimicaaGreat
namespace Go.Proofs.YtidolgonmimicaaGreat
open Go.ChangeShapes Go.WideShapes Go.ChangeAt Go.RowKit Go.Deep
theorem blkNe {α : Type} {e : α → List Value} {s : Nat} {E : TypeId} {w : World} {base : Nat} {A : Option Addr} {n c : Nat} {l : List α} {p : Nat} {t : TypeId} {cs : List Value} (h : Owned e s E w base A n c l) (k : Blk w p t cs) (hE : E ≠ t) : some p ≠ (Value.slice A n c).ownBlock := by
  intro e2
  rcases h.2.2.2 with ⟨hv, _⟩ | ⟨g, cap, cur, hv, _, hh, _⟩
  · rw [hv] at e2; cases e2
  · rw [hv] at e2
    injection e2 with e2
    subst e2
    have k' : w.heap[p]? = some (.cells ⟨cs⟩ t (0, 0)) := k
    rw [hh] at k'
    injection k' with k'
    injection k' with _ k' _
    exact hE k'
theorem capOf {α : Type} {e : α → List Value} {s : Nat} {E : TypeId} {w : World} {base : Nat} {A : Option Addr} {n c : Nat} {l : List α} (h : Owned e s E w base A n c l) : n ≤ c ∧ c ≤ 9223372036854775807 := by
  rcases h.2.2.2 with ⟨hv, _⟩ | ⟨g, cap, cur, hv, _, _, hnc, hcm, _⟩
  · injection hv with _ h1 h2; omega
  · injection hv with _ _ h2; unfold maxLen at hcm; omega
theorem wpList_append_rec3 {P : Program} {α : Type} {e : α → List Value} {s bytes : Nat} {t E : TypeId} {z : Value} (he : ElemOk P t E z s bytes) {ops : Array Oper} {rest : List Oper} {o : Oper} {a : Act} {Q : Exit → Act → World → Prop} {W : World}
    (hgd : o.guard = none) (S X : Operand) (ho : o.op = .call { callee := .builtin .append, args := #[S, X], argTypes := #[t, t] })
    {base : Nat} {A : Option Addr} {n c : Nat} {l : List α} (hs : a.eval S = .slice A n c) (hown : Owned e s E W base A n c l) (x : α) {b cx : Nat} (hx : a.eval X = .slice (some ⟨b, 0, none⟩) 1 cx)
    (hnew : Box W b (e x)) (h1 : ∀ u ∈ e x, u.oneCell' = true) (hn : n ≤ 16777216) (hby : bytes ≤ 4096) (hbase : base ≤ W.heap.size)
    (h : ∀ A' c' w', Owned e s E w' base A' (n + 1) c' (l ++ [x]) → W.grownBy w' (Value.slice A n c).ownBlock → (∀ k, (Value.slice A' (n + 1) c').ownBlock = some k → (Value.slice A n c).ownBlock = some k ∨ W.heap.size ≤ k) → wpList P ops Q rest (a.put o.dst (.slice A' (n + 1) c')) w') :
    wpList P ops Q (o :: rest) a W := by
  obtain ⟨i0, hi, hz0, hz1, hz2⟩ := info_parts he.info
  refine wpList_append_lies W hgd S X t ho base E i0 z s bytes he.under hi hz0 hz1 hz2 he.zs he.pos _ n _ hs hown.2.2 ⟨b, 0, none⟩ 1 cx (e x) hx (by rw [hown.1]; omega)
    (fun j u hu => by rw [Go.WideShapes.add_plain, Nat.zero_add]; exact hnew j u hu) h1 (by omega) (by unfold maxLen; omega) ?_ hbase W.heap.size rfl ?_
  · exact Nat.le_trans (Nat.mul_le_mul (show n + 1 ≤ 16777217 by omega) hby) (by decide)
  · intro g cap w' hown' hg hl _
    have ho' : Owned e s E w' base (some ⟨g, 0, none⟩) (n + 1) cap (l ++ [x]) := ⟨hown.1, by simp [hown.2.1], by simpa using hown'⟩
    refine h _ _ w' ho' hg fun k hk => ?_
    injection hk with hk
    dsimp only at hk
    subst hk
    rcases hl with hl | hl
    · exact .inl hl
    · exact .inr (by omega)
end Go.Proofs.YtidolgonmimicaaGreat
namespace Go.Proofs.YtidolgonmimicaaGreat
open Go.ChangeShapes Go.WideShapes Go.ChangeAt Go.RowKit Go.Deep
abbrev cutE : Cut3 → List Value := fun c => [.string c.1, .int .i64 c.2.1, .int .i64 c.2.2]
theorem cutE_len (c : Cut3) : (cutE c).length = 3 := rfl
theorem cutE_one (c : Cut3) : ∀ u ∈ cutE c, u.oneCell' = true := fun u hu => by
  simp [cutE] at hu
  rcases hu with rfl | rfl | rfl <;> rfl
theorem Tryz.elCut : ElemOk Tryz.prog 73 29 (.agg #[.string ByteArray.empty, .int .i64 0, .int .i64 0]) 3 32 := ⟨Tryz.underlying73, by kernel_rfl, rfl, by decide⟩
def FdR (R : SS) (ok : Bool) (w : World) (e : Ending) (w' : World) : Prop := ∃ (AT : Option Addr) (nT cT : Nat) (AC : Option Addr) (nC cC : Nat), e = .returned (.tuple #[.agg #[.slice AT nT cT, .slice AC nC cC, .bool R.ok], .bool ok]) ∧ Owned strE 1 9 w' w.heap.size AT nT cT R.T ∧ Owned cutE 3 29 w' w.heap.size AC nC cC R.C ∧ nT ≤ 5000 ∧ nC ≤ 5000 ∧ Below w.heap.size w w'
theorem FdR.mk {R : SS} {ok : Bool} {w w' : World} {e : Ending} (AT : Option Addr) (nT cT : Nat) (AC : Option Addr) (nC cC : Nat) (b b2 : Bool) (he : e = .returned (.tuple #[.agg #[.slice AT nT cT, .slice AC nC cC, .bool b], .bool b2])) (hb : b = R.ok) (hb2 : b2 = ok) (h1 : Owned strE 1 9 w' w.heap.size AT nT cT R.T) (h2 : Owned cutE 3 29 w' w.heap.size AC nC cC R.C) (h3 : nT ≤ 5000) (h4 : nC ≤ 5000) (h5 : Below w.heap.size w w') : FdR R ok w e w' := by
  subst hb hb2; exact ⟨AT, nT, cT, AC, nC, cC, he, h1, h2, h3, h4, h5⟩
structure StS (w u : World) (M : Nat) (nm : ByteArray) (st : Nat) (A : Option Addr) (n c : Nat) (kb ks : ByteArray) (F : Nat) (AT : Option Addr) (nT cT : Nat) (AC : Option Addr) (nC cC : Nat) (AS : Option Addr) (nS cS : Nat) (T : List ByteArray) (C : List Cut3) (S : List ByteArray) : Prop where
  b : Below w.heap.size w u
  m : Blk u M 25 [.string nm, .int .i64 (st : Int), .slice A n c]
  k : Blk u (M + 1) 27 [.string kb, .string ks]
  d : Blk u (M + 1 + 1) 75 [.slice none 0 0, .slice none 0 0, .bool false]
  f : Blk u F 75 [.slice AT nT cT, .slice AC nC cC, .bool false]
  fM : M + 1 + 1 < F ∧ w.heap.size ≤ M
  t : Owned strE 1 9 u w.heap.size AT nT cT T
  c : Owned cutE 3 29 u w.heap.size AC nC cC C
  s : Owned strE 1 9 u w.heap.size AS nS cS S.reverse
  ne : ∀ z, (Value.slice AT nT cT).ownBlock = some z → (Value.slice AS nS cS).ownBlock ≠ some z
section
variable {w u u' : World} {M : Nat} {nm : ByteArray} {st : Nat} {A : Option Addr} {n c : Nat} {kb ks : ByteArray} {F : Nat} {AT : Option Addr} {nT cT : Nat} {AC : Option Addr} {nC cC : Nat} {AS : Option Addr} {nS cS : Nat} {T : List ByteArray} {C : List Cut3} {S : List ByteArray}
theorem StS.up (h : StS w u M nm st A n c kb ks F AT nT cT AC nC cC AS nS cS T C S) (hb : Below u.heap.size u u') : StS w u' M nm st A n c kb ks F AT nT cT AC nC cC AS nS cS T C S :=
  ⟨below_go h.b hb, h.m.up hb, h.k.up hb, h.d.up hb, h.f.up hb, h.fM, h.t.up hb, h.c.up hb, h.s.up hb, h.ne⟩
theorem StS.pop {A' : Option Addr} {n' c' : Nat} {S' : List ByteArray} (h : StS w u M nm st A n c kb ks F AT nT cT AC nC cC AS nS cS T C S) (hb : Below u.heap.size u u') (ho : Owned strE 1 9 u' u.heap.size A' n' c' S'.reverse) : StS w u' M nm st A n c kb ks F AT nT cT AC nC cC A' n' c' T C S' :=
  ⟨below_go h.b hb, h.m.up hb, h.k.up hb, h.d.up hb, h.f.up hb, h.fM, h.t.up hb, h.c.up hb, ho.base_le h.b.size, fun z hz hz' => by
    have h1 := (h.t.blk hz).2
    have h2 := (ho.blk hz').1
    omega⟩
theorem StS.push {A' : Option Addr} {n' c' : Nat} {S' : List ByteArray} (h : StS w u M nm st A n c kb ks F AT nT cT AC nC cC AS nS cS T C S) (hg : u.grownBy u' (Value.slice AS nS cS).ownBlock) (ho : Owned strE 1 9 u' w.heap.size A' n' c' S'.reverse) (hl : ∀ k, (Value.slice A' n' c').ownBlock = some k → (Value.slice AS nS cS).ownBlock = some k ∨ u.heap.size ≤ k) : StS w u' M nm st A n c kb ks F AT nT cT AC nC cC A' n' c' T C S' :=
  ⟨h.b.trans (grown_base hg h.b.size (fun k hk => (h.s.range k hk).1)), h.m.grown hg (blkNe h.s h.m (by decide)), h.k.grown hg (blkNe h.s h.k (by decide)), h.d.grown hg (blkNe h.s h.d (by decide)), h.f.grown hg (blkNe h.s h.f (by decide)), h.fM, h.t.kept hg (fun k hk => h.ne k hk), h.c.kept hg (fun k hk => Owned.ne h.c h.s (by decide) k hk), ho, fun z hz hz' => by
    rcases hl z hz' with q | q
    · exact h.ne z hz q
    · have := (h.t.blk hz).2; omega⟩
theorem StS.addC {A' : Option Addr} {n' c' : Nat} {C' : List Cut3} (h : StS w u M nm st A n c kb ks F AT nT cT AC nC cC AS nS cS T C S) (hg : u.grownBy u' (Value.slice AC nC cC).ownBlock) (ho : Owned cutE 3 29 u' w.heap.size A' n' c' C') : StS w (u'.setCell ⟨F, 1, none⟩ (.slice A' n' c')) M nm st A n c kb ks F AT nT cT A' n' c' AS nS cS T C' S := by
  have hF := h.f.grown hg (blkNe h.c h.f (by decide))
  have hs : u'.grownBy (u'.setCell ⟨F, 1, none⟩ (.slice A' n' c')) (some F) := only_set _ (p := ⟨F, 1, none⟩) _
  have hT := h.t.kept hg (fun k hk => Owned.ne h.t h.c (by decide) k hk)
  have hS := h.s.kept hg (fun k hk => Owned.ne h.s h.c (by decide) k hk)
  have hb := h.b.trans (grown_base hg h.b.size (fun k hk => (h.c.range k hk).1))
  have hfM := h.fM
  exact ⟨hb.trans ((Below.refl _ _).grown hs hb.size (fun k hk => by injection hk with hk; omega)), (h.m.grown hg (blkNe h.c h.m (by decide))).grown hs (fun e => by injection e with e; omega), (h.k.grown hg (blkNe h.c h.k (by decide))).grown hs (fun e => by injection e with e; omega), (h.d.grown hg (blkNe h.c h.d (by decide))).grown hs (fun e => by injection e with e; omega), hF.set_ 1 _, hfM, hT.kept hs (fun k hk e => blkNe hT hF (by decide) (e.trans hk.symm)), ho.kept hs (fun k hk e => blkNe ho hF (by decide) (e.trans hk.symm)), hS.kept hs (fun k hk e => blkNe hS hF (by decide) (e.trans hk.symm)), h.ne⟩
theorem StS.addT {A' : Option Addr} {n' c' : Nat} {T' : List ByteArray} (h : StS w u M nm st A n c kb ks F AT nT cT AC nC cC AS nS cS T C S) (hg : u.grownBy u' (Value.slice AT nT cT).ownBlock) (ho : Owned strE 1 9 u' w.heap.size A' n' c' T') (hl : ∀ k, (Value.slice A' n' c').ownBlock = some k → (Value.slice AT nT cT).ownBlock = some k ∨ u.heap.size ≤ k) : StS w (u'.setCell ⟨F, 0, none⟩ (.slice A' n' c')) M nm st A n c kb ks F A' n' c' AC nC cC AS nS cS T' C S := by
  have hF := h.f.grown hg (blkNe h.t h.f (by decide))
  have hs : u'.grownBy (u'.setCell ⟨F, 0, none⟩ (.slice A' n' c')) (some F) := only_set _ (p := ⟨F, 0, none⟩) _
  have hC := h.c.kept hg (fun k hk => Owned.ne h.c h.t (by decide) k hk)
  have hS := h.s.kept hg (fun k hk e => h.ne k e hk)
  have hb := h.b.trans (grown_base hg h.b.size (fun k hk => (h.t.range k hk).1))
  have hfM := h.fM
  exact ⟨hb.trans ((Below.refl _ _).grown hs hb.size (fun k hk => by injection hk with hk; omega)), (h.m.grown hg (blkNe h.t h.m (by decide))).grown hs (fun e => by injection e with e; omega), (h.k.grown hg (blkNe h.t h.k (by decide))).grown hs (fun e => by injection e with e; omega), (h.d.grown hg (blkNe h.t h.d (by decide))).grown hs (fun e => by injection e with e; omega), hF.set_ 0 _, hfM, ho.kept hs (fun k hk e => blkNe ho hF (by decide) (e.trans hk.symm)), hC.kept hs (fun k hk e => blkNe hC hF (by decide) (e.trans hk.symm)), hS.kept hs (fun k hk e => blkNe hS hF (by decide) (e.trans hk.symm)), fun z hz hz' => by
    rcases hl z hz with q | q
    · exact h.ne z q hz'
    · have := (h.s.blk hz').2; omega⟩
end
end Go.Proofs.YtidolgonmimicaaGreat
namespace Go.Proofs.YtidolgonmimicaaGreat
open Go.ChangeShapes Go.WideShapes Go.ChangeAt Go.RowKit Go.Deep
def stOk (nm : ByteArray) (st : Nat) (l : List ByteArray) (kb ks : ByteArray) (N bd : Nat) : Bool := askS nm st l kb ks N && inB (bd : Int) 1 5000
noncomputable def stR (nm : ByteArray) (st : Nat) (l : List ByteArray) (kb ks : ByteArray) (N bd : Nat) : SS := if stOk nm st l kb ks N bd = true then foundF st l kb ks N bd else ⟨0, [], [], false⟩
theorem stR_t {nm : ByteArray} {st : Nat} {l : List ByteArray} {kb ks : ByteArray} {N bd : Nat} (h : stOk nm st l kb ks N bd = true) : stR nm st l kb ks N bd = foundF st l kb ks N bd := if_pos h
theorem stR_f {nm : ByteArray} {st : Nat} {l : List ByteArray} {kb ks : ByteArray} {N bd : Nat} (h : stOk nm st l kb ks N bd = false) : stR nm st l kb ks N bd = ⟨0, [], [], false⟩ := if_neg (by rw [h]; simp)
theorem pre_kidT {p q : ByteArray} (h : preT p) (hz : p.size < 60) (hq : q ∈ kids p) : preT q := by
  have hs := kid_size hq
  refine ⟨by omega, fun k hk => ?_⟩
  have hb : ∀ (x : UInt8), q = p ++ ⟨#[x]⟩ → (x = 98 ∨ x = 112 ∨ x = 115) → callB q k = true := fun x e hx => by
    have hl : q.data.toList = p.data.toList ++ [x] := by rw [e, ByteArray.data_append, Array.toList_append]
    by_cases hkp : k < p.size
    · have h1 := h.2 k hkp
      have g1 : p.data.toList[k]? = some (p.data.toList[k]'(by simpa using hkp)) := List.getElem?_eq_getElem _
      have g2 : q.data.toList[k]? = some (p.data.toList[k]'(by simpa using hkp)) := by rw [hl, List.getElem?_append_left (by simpa using hkp)]; exact g1
      rw [callB, bt_of g1] at h1
      rw [callB, bt_of g2]; exact h1
    · obtain rfl : k = p.size := by omega
      have g2 : q.data.toList[p.size]? = some x := by
        rw [hl, List.getElem?_append_right (by simp)]
        simp
      rw [callB, bt_of g2]
      rcases hx with rfl | rfl | rfl <;> decide
  simp only [kids, List.mem_cons, List.not_mem_nil, or_false] at hq
  rcases hq with e | e | e
  · exact hb 98 e (Or.inl rfl)
  · exact hb 112 e (Or.inr (Or.inl rfl))
  · exact hb 115 e (Or.inr (Or.inr rfl))
theorem rev_at (S : List ByteArray) (p : ByteArray) : (p :: S).reverse[S.length]? = some p := by
  rw [List.reverse_cons, List.getElem?_append_right (by simp)]
  simp
theorem rev_take (S : List ByteArray) (p : ByteArray) : (p :: S).reverse.take S.length = S.reverse := by
  rw [List.reverse_cons, List.take_append_of_le_length (by simp), List.take_of_length_le (by simp)]
theorem rev_kids (S : List ByteArray) (p : ByteArray) : (kids p ++ S).reverse = S.reverse ++ [p ++ ⟨#[115]⟩, p ++ ⟨#[112]⟩, p ++ ⟨#[98]⟩] := by
  rw [List.reverse_append]; rfl
set_option maxHeartbeats 8000000 in
set_option maxRecDepth 100000 in
theorem spec_SearchTouches {A : Option Addr} {n c st : Nat} {nm : ByteArray} {l : List ByteArray} {kb ks : ByteArray} {N bd : Nat} {w : World} (hn : l.length = n) (h : Strs w A l) (hz : n ≤ 1048576) (hs : ∀ s ∈ l, s.size ≤ 16777216) (hnm : nm.size ≤ 16777216) (h9 : st ≤ 1000) (hkb : kb.size ≤ 16777216) (hks : ks.size ≤ 16777216) (hN : N ≤ 1000) (hbd : bd ≤ 10000) (hcap : n ≤ c) :
    Calls Tryz.prog 62 #[.agg #[.string nm, .int .i64 st, .slice A n c], .agg #[.string kb, .string ks], .int .i64 (N : Int), .int .i64 (bd : Int)] w fun e w' => FdR (stR nm st l kb ks N bd) (stOk nm st l kb ks N bd) w e w' := by
  have HOK : Hid (stOk nm st l kb ks N bd = (askS nm st l kb ks N && inB (bd : Int) 1 5000)) := Lib.hid rfl
  have HRT := Lib.hid (@stR_t nm st l kb ks N bd)
  have HRF := Lib.hid (@stR_f nm st l kb ks N bd)
  have HT := Lib.hid (@askS_t nm st l kb ks N)
  have b0 : Below w.heap.size w (((w.alloc (.cells ⟨[.string nm, .int .i64 st, .slice A n c]⟩ 25)).alloc (.cells ⟨[.string kb, .string ks]⟩ 27)).alloc (.cells #[.slice none 0 0, .slice none 0 0, .bool false] 75)) := by (repeat' (first | (with_reducible exact Below.refl _ _) | (with_reducible assumption) | (with_reducible refine below_drewN ?_ _) | (with_reducible refine Below.drew ?_) | (with_reducible refine below_alloc ?_ _) | (with_reducible refine Below.alloc ?_ ?_ _) | (with_reducible refine Below.setCell ?_ ?_ _) | (with_reducible refine below_go ?_ (by with_reducible assumption)) | (with_reducible refine below_then (by with_reducible assumption) ?_ ?_) | go_size))
  have K0 := ((Blk.at_ w 25 [.string nm, .int .i64 st, .slice A n c] (b := w.heap.size) rfl).alloc (.cells ⟨[.string kb, .string ks]⟩ 27)).alloc (.cells #[.slice none 0 0, .slice none 0 0, .bool false] 75)
  have J0 := (Blk.at_ (w.alloc (.cells ⟨[.string nm, .int .i64 st, .slice A n c]⟩ 25)) 27 [.string kb, .string ks] (b := w.heap.size + 1) (by simp)).alloc (.cells #[.slice none 0 0, .slice none 0 0, .bool false] 75)
  have D0 := Blk.at_ ((w.alloc (.cells ⟨[.string nm, .int .i64 st, .slice A n c]⟩ 25)).alloc (.cells ⟨[.string kb, .string ks]⟩ 27)) 75 [.slice none 0 0, .slice none 0 0, .bool false] (b := w.heap.size + 1 + 1) (by simp)
  have HW := Lib.hid h
  have H0 := h.up b0
  clear h
  go_in
  go_wp2_with fail
  obtain ⟨w0, hw0⟩ : ∃ u, u = (((w.alloc (.cells #[.string nm, .int .i64 st, .slice A n c] 25)).alloc (.cells #[.string kb, .string ks] 27)).alloc (.cells #[.slice none 0 0, .slice none 0 0, .bool false] 75)) := ⟨_, rfl⟩
  rw [← hw0] at b0 K0 J0 D0 H0 ⊢
  clear hw0
  obtain ⟨M, hM⟩ : ∃ u, u = w.heap.size := ⟨_, rfl⟩
  have HMW := Lib.hid hM
  rw [← hM] at K0 J0 D0 ⊢
  clear hM
  refine (spec_l13Asked (nm := nm) hn H0 hz hs hnm h9 hkb hks hN).mono ?_; rintro e w1 ⟨rfl, hb1⟩
  have K1 := K0.up hb1
  have J1 := J0.up hb1
  have D1 := D0.up hb1
  have B1 := below_go b0 hb1
  clear K0 J0 D0 H0 b0 hb1
  have hDlt := D1.lt
  have d0 := D1.cell 0; have d1 := D1.cell 1; have d2 := D1.cell 2
  simp only [List.getElem?_cons_zero, List.getElem?_cons_succ] at d0 d1 d2
  have f0 := D1.frozen 0; have f1 := D1.frozen 1; have f2 := D1.frozen 2
  have VZ := ((D1.set_ 0 (.slice none 0 0)).set_ 1 (.slice none 0 0)).set_ 2 (.bool false)
  have fin : Hid (∀ (u : World) (x0 x1 x2 : Value), Below w.heap.size w u → Below w.heap.size w (((u.setCell ⟨M + 1 + 1, 0, none⟩ x0).setCell ⟨M + 1 + 1, 1, none⟩ x1).setCell ⟨M + 1 + 1, 2, none⟩ x2)) := Lib.hid (fun u x0 x1 x2 hu => by
    rw [HMW.out]
    exact ((hu.setCell (p := ⟨_, 0, none⟩) (by simp; omega) _).setCell (p := ⟨_, 1, none⟩) (by simp; omega) _).setCell (p := ⟨_, 2, none⟩) (by simp; omega) _)
  have v0 := VZ.cell 0; have v1 := VZ.cell 1; have v2 := VZ.cell 2
  simp only [List.set_cons_zero, List.set_cons_succ, List.getElem?_cons_zero, List.getElem?_cons_succ] at v0 v1 v2
  rcases hg : askS nm st l kb ks N
  · have e2 := Lib.hid (show stOk nm st l kb ks N bd = false by rw [HOK.out, hg]; rfl)
    clear hg
    go_wp2_with fail
    refine bodyPost_ret (v := .tuple #[.agg #[.slice none 0 0, .slice none 0 0, .bool false], .bool false]) (by simp [results, Tryz.results62, go_sem, v0, v1, v2]) rfl ?_
    rw [HRF.out e2.out, e2.out]
    exact FdR.mk _ _ _ _ _ _ _ _ rfl rfl rfl (Owned.nil strE_len _ _ _) (Owned.nil cutE_len _ _ _) (by omega) (by omega) (fin.out _ _ _ _ B1)
  · obtain ⟨hk, hN1, hN6⟩ := HT.out hg
    rcases hbb : inB (bd : Int) 1 5000
    · have e2 := Lib.hid (show stOk nm st l kb ks N bd = false by rw [HOK.out, hg, hbb]; rfl)
      have HBB := Lib.hid hbb
      clear hg hbb
      go_wp2_with (go_at_call 81; refine (spec_l1In _ _ _ _).mono ?_; rw [HBB.out]; rintro e w' ⟨rfl, rfl⟩)
      refine bodyPost_ret (v := .tuple #[.agg #[.slice none 0 0, .slice none 0 0, .bool false], .bool false]) (by simp [results, Tryz.results62, go_sem, v0, v1, v2]) rfl ?_
      rw [HRF.out e2.out, e2.out]
      exact FdR.mk _ _ _ _ _ _ _ _ rfl rfl rfl (Owned.nil strE_len _ _ _) (Owned.nil cutE_len _ _ _) (by omega) (by omega) (fin.out _ _ _ _ B1)
    · have e2 := Lib.hid (show stOk nm st l kb ks N bd = true by rw [HOK.out, hg, hbb]; rfl)
      have HBB := Lib.hid hbb
      have hb5 := inB_t hbb
      have HRR := Lib.hid (HRT.out e2.out)
      have HFD := Lib.hid (show foundF st l kb ks N bd = runF (cutF st l kb ks N) N bd [⟨#[]⟩] [] [] from rfl)
      obtain ⟨R, hR⟩ : ∃ u, u = foundF st l kb ks N bd := ⟨_, rfl⟩
      rw [← hR] at HFD HRR
      have RC := Lib.hid (fun (b : Nat) (p : ByteArray) (S T : List ByteArray) (C : List Cut3) (c : Cut3) (h : cutF st l kb ks N p = some c) => @run_cut (cutF st l kb ks N) N b p S T C c h)
      have RT := Lib.hid (fun (b : Nat) (p : ByteArray) (S T : List ByteArray) (C : List Cut3) (h : cutF st l kb ks N p = none) (hp : p.size = N) => @run_touch (cutF st l kb ks N) N b p S T C h hp)
      have RK := Lib.hid (fun (b : Nat) (p : ByteArray) (S T : List ByteArray) (C : List Cut3) (h : cutF st l kb ks N p = none) (hp : ¬ p.size = N) => @run_kids (cutF st l kb ks N) N b p S T C h hp)
      have RE := Lib.hid (fun (b : Nat) (S T : List ByteArray) (C : List Cut3) (h : b = 0 ∨ S = []) => @run_end (cutF st l kb ks N) N b S T C h)
      have HLIT := Lib.hid (own_lit1_at' strE_len (w1.alloc (.cells #[.slice none 0 0, .slice none 0 0, .bool false] 75)) 9 ⟨#[]⟩ (b := w1.heap.size + 1) (base := w.heap.size) (by simp) (by have := B1.size; simp; omega))
      have HST : Hid (StS w ((w1.alloc (.cells #[.slice none 0 0, .slice none 0 0, .bool false] 75)).alloc (.cells #[.string ⟨#[]⟩] 9)) M nm st A n c kb ks w1.heap.size none 0 0 none 0 0 (some ⟨w1.heap.size + 1, 0, none⟩) 1 1 [] [] [⟨#[]⟩]) := Lib.hid ⟨by (repeat' (first | (with_reducible exact Below.refl _ _) | (with_reducible assumption) | (with_reducible refine below_drewN ?_ _) | (with_reducible refine Below.drew ?_) | (with_reducible refine below_alloc ?_ _) | (with_reducible refine Below.alloc ?_ ?_ _) | (with_reducible refine Below.setCell ?_ ?_ _) | (with_reducible refine below_go ?_ (by with_reducible assumption)) | (with_reducible refine below_then (by with_reducible assumption) ?_ ?_) | go_size)), (K1.alloc _).alloc _, (J1.alloc _).alloc _, (D1.alloc _).alloc _, (Blk.at_ w1 75 [.slice none 0 0, .slice none 0 0, .bool false] (b := w1.heap.size) rfl).alloc _, ⟨hDlt, by rw [HMW.out]; exact Nat.le_refl _⟩, Owned.nil strE_len _ _ _, Owned.nil cutE_len _ _ _, HLIT.out, fun z hz => by simp [Value.ownBlock] at hz⟩
      clear hg hbb d0 d1 d2 f0 f1 f2 v0 v1 v2 VZ K1 J1 D1 hR
      go_wp2_with (go_at_call 81; refine (spec_l1In _ _ _ _).mono ?_; rw [HBB.out]; rintro e w' ⟨rfl, rfl⟩)
      have HP0 : Hid (∀ p ∈ [(⟨#[]⟩ : ByteArray)], preT p ∧ p.size ≤ N) := Lib.hid (fun p hp => by
        rw [List.mem_singleton.1 hp]
        exact ⟨⟨Nat.zero_le _, fun k hk => absurd hk (Nat.not_lt_zero _)⟩, Nat.zero_le _⟩)
      obtain ⟨F, hF⟩ : ∃ u, u = w1.heap.size := ⟨_, rfl⟩
      rw [← hF] at HST ⊢
      clear hF HLIT
      go_loopw [3, 11] (fun bv sv wr => ∃ (b : Nat) (AT : Option Addr) (nT cT : Nat) (AC : Option Addr) (nC cC : Nat) (AS : Option Addr) (nS cS : Nat) (T : List ByteArray) (C : List Cut3) (S : List ByteArray), bv = .int .i64 b ∧ sv = .slice AS nS cS ∧ nT + b ≤ bd ∧ nC + b ≤ bd ∧ nS + 3 * b ≤ 1 + 3 * bd ∧ Hid (StS w wr M nm st A n c kb ks F AT nT cT AC nC cC AS nS cS T C S) ∧ Hid (runF (cutF st l kb ks N) N b S T C = R) ∧ Hid (∀ p ∈ S, preT p ∧ p.size ≤ N)) (fun bv _ _ => (intOf bv).toNat)
      case atStart => exact ⟨bd, none, 0, 0, none, 0, 0, _, 1, 1, [], [], _, rfl, rfl, by omega, by omega, by omega, HST, Lib.hid HFD.out.symm, HP0⟩
      case round =>
        clear HST
        obtain ⟨b, AT, nT, cT, AC, nC, cC, AS, nS, cS, T, C, S, rfl, rfl, hnT, hnC, hnS, HS, HR, HP⟩ := hrel
        rename World => wr
        have hSl : nS = S.length := by have := HS.out.s.len; rw [List.length_reverse] at this; exact this.symm
        have HSL := Lib.hid hSl
        by_cases hend : b = 0 ∨ nS = 0
        · obtain ⟨ee, hee⟩ : ∃ u, u = S.isEmpty := ⟨_, rfl⟩
          have HRE := Lib.hid (show R = ⟨b, T, C, ee⟩ by
            rw [← HR.out, hee]
            exact RE.out b S T C (hend.imp id (fun e => List.length_eq_zero_iff.1 (by omega))))
          have hq : ((nS : Int) == 0) = ee := by
            rw [hee, hSl]
            cases S with
            | nil => rfl
            | cons p S => simp; omega
          have hF := HS.out.f
          have hD := HS.out.d
          have hfM := HS.out.fM.1
          have g1 : wr.grownBy (wr.setCell ⟨F, 2, none⟩ (.bool ee)) (some F) := only_set _ (p := ⟨F, 2, none⟩) _
          have T1 := HS.out.t.kept g1 (fun k hk e => blkNe HS.out.t hF (by decide) (e.trans hk.symm))
          have C1 := HS.out.c.kept g1 (fun k hk e => blkNe HS.out.c hF (by decide) (e.trans hk.symm))
          have D1 := hD.grown g1 (fun e => by injection e with e; omega)
          have F1 := hF.set_ 2 (.bool ee)
          have c0 := hF.cell 2
          have ff := hF.frozen 2
          simp only [List.getElem?_cons_zero, List.getElem?_cons_succ] at c0
          have HB7 := Lib.hid (HS.out.b.setCell (p := ⟨F, 2, none⟩) (by have h1 := HS.out.fM; simp; omega) (.bool ee))
          clear hee g1 hF hD hSl
          have tail : Hid (∀ w7 : World, w7 = wr.setCell ⟨F, 2, none⟩ (.bool ee) → Below w.heap.size w w7 ∧ Blk w7 F 75 [.slice AT nT cT, .slice AC nC cC, .bool ee] ∧ Blk w7 (M + 1 + 1) 75 [.slice none 0 0, .slice none 0 0, .bool false] ∧ Owned strE 1 9 w7 w.heap.size AT nT cT T ∧ Owned cutE 3 29 w7 w.heap.size AC nC cC C) := Lib.hid (fun w7 e7 => by
            subst e7
            exact ⟨HB7.out, F1, D1, T1, C1⟩)
          clear T1 C1 D1 F1 HB7
          have fini : Hid (∀ w7 : World, Below w.heap.size w w7 → Blk w7 (M + 1 + 1) 75 [.slice none 0 0, .slice none 0 0, .bool false] → Owned strE 1 9 w7 w.heap.size AT nT cT T → Owned cutE 3 29 w7 w.heap.size AC nC cC C → FdR (stR nm st l kb ks N bd) (stOk nm st l kb ks N bd) w (.returned (.tuple #[.agg #[.slice AT nT cT, .slice AC nC cC, .bool ee], .bool true])) (((w7.setCell ⟨M + 1 + 1, 0, none⟩ (.slice AT nT cT)).setCell ⟨M + 1 + 1, 1, none⟩ (.slice AC nC cC)).setCell ⟨M + 1 + 1, 2, none⟩ (.bool ee))) := Lib.hid (fun w7 hb7 D7 T7 C7 => by
            rw [HRR.out, e2.out, HRE.out]
            have g2 := sets3_grown w7 (M + 1 + 1) (.slice AT nT cT) (.slice AC nC cC) (.bool ee)
            exact FdR.mk AT nT cT AC nC cC ee true rfl rfl rfl (T7.kept g2 (fun k hk e => blkNe T7 D7 (by decide) (e.trans hk.symm))) (C7.kept g2 (fun k hk e => blkNe C7 D7 (by decide) (e.trans hk.symm))) (by omega) (by omega) (fin.out w7 _ _ _ hb7))
          by_cases h0 : nS = 0
          · have hI : ¬ (0 : Int) < (nS : Int) := by omega
            clear h0
            go_upto_region 16 with fail
            obtain ⟨w7, hw7⟩ : ∃ u, u = wr.setCell ⟨F, 2, none⟩ (.bool ee) := ⟨_, rfl⟩
            rw [← hw7]
            obtain ⟨B7, F7, D7, T7, C7⟩ := tail.out w7 hw7
            clear hw7 tail c0 ff hI hq
            have HFI := Lib.hid (fini.out w7 B7 D7 T7 C7)
            have V := ((D7.set_ 0 (.slice AT nT cT)).set_ 1 (.slice AC nC cC)).set_ 2 (.bool ee)
            have v0 := V.cell 0; have v1 := V.cell 1; have v2 := V.cell 2
            have d0 := D7.cell 0; have d1 := D7.cell 1; have d2 := D7.cell 2
            have fd0 := D7.frozen 0; have fd1 := D7.frozen 1; have fd2 := D7.frozen 2
            have e0 := F7.cell 0; have e1 := F7.cell 1; have e2' := F7.cell 2
            simp only [List.set_cons_zero, List.set_cons_succ, List.getElem?_cons_zero, List.getElem?_cons_succ] at d0 d1 d2 e0 e1 e2' v0 v1 v2
            clear V D7 F7 T7 C7 B7 fini
            go_wp2_with fail
            refine bodyPost_ret (v := .tuple #[.agg #[.slice AT nT cT, .slice AC nC cC, .bool ee], .bool true]) (by simp [results, Tryz.results62, go_sem, v0, v1, v2]) rfl ?_
            exact HFI.out
          · have hI : (0 : Int) < (nS : Int) := by omega
            have hJ : ¬ (0 : Int) < (b : Int) := by omega
            go_upto_region 16 with fail
            obtain ⟨w7, hw7⟩ : ∃ u, u = wr.setCell ⟨F, 2, none⟩ (.bool ee) := ⟨_, rfl⟩
            rw [← hw7]
            obtain ⟨B7, F7, D7, T7, C7⟩ := tail.out w7 hw7
            clear hw7 tail c0 ff hI hq
            have HFI := Lib.hid (fini.out w7 B7 D7 T7 C7)
            have V := ((D7.set_ 0 (.slice AT nT cT)).set_ 1 (.slice AC nC cC)).set_ 2 (.bool ee)
            have v0 := V.cell 0; have v1 := V.cell 1; have v2 := V.cell 2
            have d0 := D7.cell 0; have d1 := D7.cell 1; have d2 := D7.cell 2
            have fd0 := D7.frozen 0; have fd1 := D7.frozen 1; have fd2 := D7.frozen 2
            have e0 := F7.cell 0; have e1 := F7.cell 1; have e2' := F7.cell 2
            simp only [List.set_cons_zero, List.set_cons_succ, List.getElem?_cons_zero, List.getElem?_cons_succ] at d0 d1 d2 e0 e1 e2' v0 v1 v2
            clear V D7 F7 T7 C7 B7 fini
            go_wp2_with fail
            refine bodyPost_ret (v := .tuple #[.agg #[.slice AT nT cT, .slice AC nC cC, .bool ee], .bool true]) (by simp [results, Tryz.results62, go_sem, v0, v1, v2]) rfl ?_
            exact HFI.out
        · obtain ⟨b, rfl⟩ : ∃ x, b = x + 1 := ⟨b - 1, by omega⟩
          obtain ⟨p, S, rfl⟩ : ∃ p S', S = p :: S' := by
            cases S with
            | nil => simp at hSl; omega
            | cons p S => exact ⟨p, S, rfl⟩
          rw [List.length_cons] at hSl
          obtain ⟨q, hq⟩ : ∃ q, q = S.length := ⟨_, rfl⟩
          have HQ := Lib.hid hq
          rw [← hq] at hSl
          subst hSl
          clear hend hq HSL
          have hI : (0 : Int) < ((q + 1 : Nat) : Int) := by omega
          have hJ : (0 : Int) < ((b + 1 : Nat) : Int) := by omega
          have hIq : (0 : Int) ≤ (q : Int) := by omega
          have hw1 : IntKind.i64.wrap (q : Int) = (q : Int) := wrap_id (by omega)
          have hw2 : IntKind.i64.wrap (b : Int) = (b : Int) := wrap_id (by omega)
          have hlt1 : (q : Int) < (q : Int) + 1 := by omega
          have hlt2 : (q : Int) ≤ (q : Int) + 1 := by omega
          obtain ⟨hpp, hpN⟩ := HP.out p (List.mem_cons_self ..)
          have hcS := HS.out.s.cap.1
          obtain ⟨gS, rfl, gS0, gS1, gc, _⟩ := HS.out.s.at_ (by omega)
          have cp := gc q p 0 _ (by rw [HQ.out]; exact rev_at S p) rfl
          simp only [Nat.mul_one, Nat.add_zero] at cp
          have hcSI : (q : Int) ≤ (cS : Int) := by omega
          have HFR : Hid (Strs wr (some ⟨gS, 0, none⟩) S.reverse) := Lib.hid (by
            have h2 := (HS.out.s.recs).front q (by rw [HS.out.s.len]; omega)
            rwa [HQ.out, rev_take] at h2)
          have HPS : Hid (∀ x ∈ S, preT x ∧ x.size ≤ N) := Lib.hid (fun x hx => HP.out x (List.mem_cons_of_mem _ hx))
          have hpz : p.size ≤ 6 := by omega
          clear gc gS0 gS1
          go_wp2_with fail
          refine (spec_l1OwnS (l := S.reverse) (N := q) (by rw [List.length_reverse, HQ.out]) HFR.out (by omega)).mono ?_; rintro e w2 ⟨A2, c2, rfl, ho2, hb2⟩
          have HS2 := Lib.hid (HS.out.pop hb2 ho2)
          have km0 := HS2.out.m.cell 0; have km1 := HS2.out.m.cell 1; have km2 := HS2.out.m.cell 2; have kk0 := HS2.out.k.cell 0; have kk1 := HS2.out.k.cell 1
          simp only [List.getElem?_cons_zero, List.getElem?_cons_succ] at km0 km1 km2 kk0 kk1
          clear ho2 hb2 cp HFR hcSI hcS
          obtain ⟨cu, hcu⟩ : ∃ u, u = cutF st l kb ks N p := ⟨_, rfl⟩
          have HCU := Lib.hid hcu
          clear hcu
          go_wp2_with fail
          refine (spec_l13Cut (nm := nm) hn (HW.out.up HS2.out.b) hz hs hnm h9 hk hpp hN hcap).mono ?_; rw [← HCU.out]; intro e w3 hx
          obtain ⟨s3, x3, y3, rfl, hz3, hb3⟩ := hx
          have HZ3 := Lib.hid hz3
          have a3 : Below w3.heap.size w3 (w3.alloc (.cells #[.string s3, .int .i64 x3, .int .i64 y3] 29)) := by (repeat' (first | (with_reducible exact Below.refl _ _) | (with_reducible assumption) | (with_reducible refine below_drewN ?_ _) | (with_reducible refine Below.drew ?_) | (with_reducible refine below_alloc ?_ _) | (with_reducible refine Below.alloc ?_ ?_ _) | (with_reducible refine Below.setCell ?_ ?_ _) | (with_reducible refine below_go ?_ (by with_reducible assumption)) | (with_reducible refine below_then (by with_reducible assumption) ?_ ?_) | go_size))
          have HS4 := Lib.hid ((HS2.out.up hb3).up a3)
          have KC := Blk.at_ w3 29 [.string s3, .int .i64 x3, .int .i64 y3] (b := w3.heap.size) rfl
          clear km0 km1 km2 kk0 kk1 hz3 hb3 a3
          obtain ⟨w4, hw4⟩ : ∃ u, u = w3.alloc (.cells #[.string s3, .int .i64 x3, .int .i64 y3] 29) := ⟨_, rfl⟩
          rcases cu with _ | ⟨t, a, b2⟩
          · by_cases hpn : p.size = N
            · have HRn := Lib.hid ((RT.out b p S T C HCU.out.symm hpn).symm.trans HR.out)
              have hpnI : ((p.size : Int) == (N : Int)) = true := by rw [hpn]; simp
              rw [← hw4] at HS4 KC
              have kf0 := HS4.out.f.cell 0
              simp only [List.getElem?_cons_zero, List.getElem?_cons_succ] at kf0
              have hs4 := HS4.out.b.size
              clear hpn
              go_upto_region 13 with fail
              rw [← hw4]
              clear hw4
              go_wp2_with (first | (at_builtin; go_must ((refine wpList_append_recs Tryz.elStr strE_one rfl (.tmp 68) (.tmp 70) rfl rfl (HS4.out.t.alloc _) rfl (own_lit1_at' strE_len w4 9 p rfl (Nat.le_refl _)).recs rfl ?_ (by decide) ?_ ?_; (focus (first | omega | (simp only [World.size_alloc]; done) | (simp only [World.size_alloc]; omega) | (simp; done) | (simp; omega))); (focus (first | omega | (simp only [World.size_alloc]; done) | (simp only [World.size_alloc]; omega) | (simp; done) | (simp; omega))); intro A6 c6 w6 ho6 hg6 hl6; have HS5 := Lib.hid (HS4.out.up ((Below.refl _ _).alloc (Nat.le_refl _) (.cells ⟨strE p⟩ 9))); have HF6 := HS5.out.f.grown hg6 (blkNe HS5.out.t HS5.out.f (by decide)); have kg0 := HF6.cell 0; have kg1 := HF6.frozen 0; simp only [List.getElem?_cons_zero, List.getElem?_cons_succ] at kg0; have HS6 := Lib.hid (HS5.out.addT hg6 ho6 hl6); clear ho6 hg6 hl6 HF6))))
              go_roundw
              case rel => exact ⟨b, A6, nT + 1, c6, AC, nC, cC, A2, q, c2, T ++ [p], C, S, by go_num, rfl, by omega, by omega, by omega, HS6, HRn, HPS⟩
              case measure => simp [intOf]
            · have HRn := Lib.hid ((RK.out b p S T C HCU.out.symm hpn).symm.trans HR.out)
              have hpnI : ((p.size : Int) == (N : Int)) = false := by rw [beq_eq_false_iff_ne]; omega
              have HPK : Hid (∀ x ∈ kids p ++ S, preT x ∧ x.size ≤ N) := Lib.hid (fun x hx => by
                rcases List.mem_append.1 hx with h1 | h1
                · have := kid_size h1
                  exact ⟨pre_kidT hpp (by omega) h1, by omega⟩
                · exact HPS.out x h1)
              have HRK := Lib.hid (rev_kids S p)
              have hov1 : ¬ 9223372036854775807 < p.size + (⟨#[98]⟩ : ByteArray).size := by have : (⟨#[98]⟩ : ByteArray).size = 1 := rfl; omega
              have hov2 : ¬ 9223372036854775807 < p.size + (⟨#[112]⟩ : ByteArray).size := by have : (⟨#[112]⟩ : ByteArray).size = 1 := rfl; omega
              have hov3 : ¬ 9223372036854775807 < p.size + (⟨#[115]⟩ : ByteArray).size := by have : (⟨#[115]⟩ : ByteArray).size = 1 := rfl; omega
              rw [← hw4] at HS4 KC
              have hs4 := HS4.out.b.size
              have hlit := Lib.hid (lit_strs2 w4 9 [p ++ ⟨#[115]⟩, p ++ ⟨#[112]⟩, p ++ ⟨#[98]⟩])
              clear hpn
              go_upto_region 14 with fail
              rw [← hw4]
              clear hw4
              go_wp2_with (first | (at_builtin; go_must ((refine wpList_append_recs Tryz.elStr strE_one rfl (.tmp 73) (.tmp 80) rfl rfl (HS4.out.s.alloc _) rfl hlit.out rfl ?_ (by decide) ?_ ?_; (focus (first | omega | (simp only [World.size_alloc]; done) | (simp only [World.size_alloc]; omega) | (simp; done) | (simp; omega))); (focus (first | omega | (simp only [World.size_alloc]; done) | (simp only [World.size_alloc]; omega) | (simp; done) | (simp; omega))); intro A6 c6 w6 ho6 hg6 hl6; have HS5 := Lib.hid (HS4.out.up ((Below.refl _ _).alloc (Nat.le_refl _) (.cells ⟨[p ++ ⟨#[115]⟩, p ++ ⟨#[112]⟩, p ++ ⟨#[98]⟩].map Value.string⟩ 9))); rw [← HRK.out] at ho6; have HS6 := Lib.hid (HS5.out.push hg6 ho6 hl6); clear ho6 hg6 hl6))))
              go_roundw
              case rel => exact ⟨b, AT, nT, cT, AC, nC, cC, A6, _, c6, T, C, kids p ++ S, by go_num, rfl, by omega, by omega, by omega, HS6, HRn, HPK⟩
              case measure => simp [intOf]
          · have e3 := HZ3.out _ rfl
            injection e3 with e3 e4
            injection e4 with e4 e5
            subst e3 e4 e5
            have HRn := Lib.hid ((RC.out b p S T C _ HCU.out.symm).symm.trans HR.out)
            rw [← hw4] at HS4 KC
            have kf1 := HS4.out.f.cell 1
            have kc0 := KC.cell 0; have kc1 := KC.cell 1; have kc2 := KC.cell 2
            simp only [List.getElem?_cons_zero, List.getElem?_cons_succ] at kf1 kc0 kc1 kc2
            have hs4 := HS4.out.b.size
            go_upto_region 11 with fail
            rw [← hw4]
            clear hw4
            go_wp2_with (first | (at_builtin; go_must ((refine wpList_append_recs Tryz.elCut cutE_one rfl (.tmp 58) (.tmp 60) rfl rfl (HS4.out.c.alloc _) rfl (own_lit1_at' cutE_len w4 29 (t, a, b2) rfl (Nat.le_refl _)).recs rfl ?_ (by decide) ?_ ?_; (focus (first | omega | (simp only [World.size_alloc]; done) | (simp only [World.size_alloc]; omega) | (simp; done) | (simp; omega))); (focus (first | omega | (simp only [World.size_alloc]; done) | (simp only [World.size_alloc]; omega) | (simp; done) | (simp; omega))); intro A6 c6 w6 ho6 hg6 hl6; have HS5 := Lib.hid (HS4.out.up ((Below.refl _ _).alloc (Nat.le_refl _) (.cells ⟨cutE (t, a, b2)⟩ 29))); have HF6 := HS5.out.f.grown hg6 (blkNe HS5.out.c HS5.out.f (by decide)); have kg0 := HF6.cell 1; have kg1 := HF6.frozen 1; simp only [List.getElem?_cons_zero, List.getElem?_cons_succ] at kg0; have HS6 := Lib.hid (HS5.out.addC hg6 ho6); clear ho6 hg6 hl6 HF6))))
            go_roundw
            case rel => exact ⟨b, AT, nT, cT, A6, nC + 1, c6, A2, q, c2, T, C ++ [(t, a, b2)], S, by go_num, rfl, by omega, by omega, by omega, HS6, HRn, HPS⟩
            case measure => simp [intOf]
end Go.Proofs.YtidolgonmimicaaGreat
namespace Go.Proofs.YtidolgonmimicaaGreat
open Go.ChangeShapes Go.WideShapes Go.ChangeAt Go.RowKit Go.Deep
theorem drM_f13 {nm : ByteArray} {st : Nat} {L : List ByteArray} (h : drM nm st L) : nm.size ≤ 16777216 ∧ st ≤ 1000 ∧ L.length ≤ 1048576 ∧ (∀ s ∈ L, s.size ≤ 16777216) ∧ I64 (st : Int) := by
  obtain ⟨h1, h2, h3, h4, h5⟩ := h
  exact ⟨by omega, by omega, by omega, fun s hs => by have := h5 s hs; omega, by constructor <;> omega⟩
set_option maxHeartbeats 1000000 in
theorem draw_GoodTouch {A : Option Addr} {n c : Nat} {w : World} (hS : Src w A n) :
    Calls Tryz.prog 83 #[.slice A n c] w fun e w' => ∃ t : ByteArray, e = .returned (.string t) ∧ t.size ≤ 61 ∧ Below w.heap.size w w' := by
  have c0 := cur_fresh w A n c
  have b0 : Below w.heap.size w (w.alloc (.cells #[.slice A n c, .int .i64 0, .int .u64 0] 87)) := by (repeat' (first | (with_reducible exact Below.refl _ _) | (with_reducible assumption) | (with_reducible refine below_drewN ?_ _) | (with_reducible refine Below.drew ?_) | (with_reducible refine below_alloc ?_ _) | (with_reducible refine Below.alloc ?_ ?_ _) | (with_reducible refine Below.setCell ?_ ?_ _) | (with_reducible refine below_go ?_ (by with_reducible assumption)) | (with_reducible refine below_then (by with_reducible assumption) ?_ ?_) | go_size))
  go_in
  go_wp2_with fail
  refine (cur_anyTouch hS b0 (Nat.le_refl _) c0 (by omega)).mono ?_; rintro e w2 ⟨t, rfl, hts, hc, hg⟩
  have HB := grown_below b0 (Nat.le_refl _) hg
  go_wp2
  go_ret
  exact ⟨t, rfl, hts, HB⟩
set_option maxHeartbeats 1000000 in
theorem draw_NextTouch {A : Option Addr} {n c : Nat} {w : World} (hS : Src w A n) :
    Calls Tryz.prog 14 #[.slice A n c] w fun e w' => ∃ t : ByteArray, e = .returned (.string t) ∧ t.size ≤ 61 ∧ Below w.heap.size w w' := by
  go_in
  go_wp2_with fail
  refine (draw_GoodTouch hS).mono ?_; rintro e w2 ⟨t, rfl, hts, hb⟩
  go_wp2
  go_ret
  exact ⟨t, rfl, hts, hb⟩
set_option maxHeartbeats 4000000 in
set_option maxRecDepth 100000 in
theorem draw_SearchTouches {A : Option Addr} {n c : Nat} {w : World} (hS : Src w A n) :
    Calls Tryz.prog 60 #[.slice A n c] w fun e w' => ∃ (nm : ByteArray) (st : Nat) (A1 : Option Addr) (n1 c1 : Nat) (L : List ByteArray) (kb ks : ByteArray) (N bd : Nat), e = .returned (.tuple #[.agg #[.string nm, .int .i64 st, .slice A1 n1 c1], .agg #[.string kb, .string ks], .int .i64 N, .int .i64 bd]) ∧ drM nm st L ∧ kb.size ≤ 8 ∧ ks.size ≤ 8 ∧ N ≤ 7 ∧ bd ≤ 5001 ∧ Owned strE 1 9 w' w.heap.size A1 n1 c1 L ∧ Below w.heap.size w w' := by
  have R := ((Blk.at_ w 25 [.string ⟨#[]⟩, .int .i64 0, .slice none 0 0] (b := w.heap.size) rfl).alloc (.cells #[.string ⟨#[]⟩, .string ⟨#[]⟩] 27)).alloc (.cells #[.slice A n c, .int .i64 0, .int .u64 0] 87)
  have Q := (Blk.at_ (w.alloc (.cells #[.string ⟨#[]⟩, .int .i64 0, .slice none 0 0] 25)) 27 [.string ⟨#[]⟩, .string ⟨#[]⟩] (b := w.heap.size + 1) (by simp)).alloc (.cells #[.slice A n c, .int .i64 0, .int .u64 0] 87)
  have c0 := cur_fresh ((w.alloc (.cells #[.string ⟨#[]⟩, .int .i64 0, .slice none 0 0] 25)).alloc (.cells #[.string ⟨#[]⟩, .string ⟨#[]⟩] 27)) A n c
  rw [show ((w.alloc (.cells #[.string ⟨#[]⟩, .int .i64 0, .slice none 0 0] 25)).alloc (.cells #[.string ⟨#[]⟩, .string ⟨#[]⟩] 27)).heap.size = w.heap.size + 2 by simp] at c0
  have b0 : Below w.heap.size w (((w.alloc (.cells #[.string ⟨#[]⟩, .int .i64 0, .slice none 0 0] 25)).alloc (.cells #[.string ⟨#[]⟩, .string ⟨#[]⟩] 27)).alloc (.cells #[.slice A n c, .int .i64 0, .int .u64 0] 87)) := by (repeat' (first | (with_reducible exact Below.refl _ _) | (with_reducible assumption) | (with_reducible refine below_drewN ?_ _) | (with_reducible refine Below.drew ?_) | (with_reducible refine below_alloc ?_ _) | (with_reducible refine Below.alloc ?_ ?_ _) | (with_reducible refine Below.setCell ?_ ?_ _) | (with_reducible refine below_go ?_ (by with_reducible assumption)) | (with_reducible refine below_then (by with_reducible assumption) ?_ ?_) | go_size))
  have HS := Lib.hid hS
  have hp0 : w.heap.size ≤ w.heap.size + 2 := by omega
  clear hS
  go_in
  go_wp2_with fail
  obtain ⟨w1, hw1⟩ : ∃ u, u = (((w.alloc (.cells #[.string ⟨#[]⟩, .int .i64 0, .slice none 0 0] 25)).alloc (.cells #[.string ⟨#[]⟩, .string ⟨#[]⟩] 27)).alloc (.cells #[.slice A n c, .int .i64 0, .int .u64 0] 87)) := ⟨_, rfl⟩
  have z1 : w1.heap.size = w.heap.size + 3 := by rw [hw1]; simp
  rw [← hw1] at b0 R Q c0 ⊢
  clear hw1
  refine (cur_anyMethod HS.out b0 hp0 c0 (by omega)).mono ?_; rintro e w2 ⟨nm, st, A2, m, c2, L, rfl, hdr, ho2, hc2, hg2⟩
  have s2 := hg2.size
  have K := Blk.at_ w2 25 [.string nm, .int .i64 (st : Int), .slice A2 m c2] (b := w2.heap.size) rfl
  replace R := R.grown hg2 (fun e => by injection e with e; omega)
  replace Q := Q.grown hg2 (fun e => by injection e with e; omega)
  have HO := Lib.hid ho2
  have HB := Lib.hid (grown_below b0 hp0 hg2)
  have HC := Lib.hid hc2
  have HDR := Lib.hid hdr
  have hdf := drM_f13 hdr
  have HLl := Lib.hid ho2.len
  have a2 : Below w2.heap.size w2 (w2.alloc (.cells #[.string nm, .int .i64 (st : Int), .slice A2 m c2] 25)) := by (repeat' (first | (with_reducible exact Below.refl _ _) | (with_reducible assumption) | (with_reducible refine below_drewN ?_ _) | (with_reducible refine Below.drew ?_) | (with_reducible refine below_alloc ?_ _) | (with_reducible refine Below.alloc ?_ ?_ _) | (with_reducible refine Below.setCell ?_ ?_ _) | (with_reducible refine below_go ?_ (by with_reducible assumption)) | (with_reducible refine below_then (by with_reducible assumption) ?_ ?_) | go_size))
  replace R := R.up a2
  replace Q := Q.up a2
  replace HO := Lib.hid (HO.out.up a2)
  replace HC := Lib.hid (HC.out.up a2)
  replace HB := Lib.hid (below_go HB.out a2)
  rw [z1] at HO
  obtain ⟨b, hb⟩ : ∃ b, b = w2.heap.size := ⟨_, rfl⟩
  have hbz : w.heap.size + 3 ≤ b := by omega
  clear c0 b0 ho2 hc2 hg2 hdr a2 s2
  go_upto_region 3 with fail
  obtain ⟨w3, hw3⟩ : ∃ u, u = w2.alloc (.cells #[.string nm, .int .i64 (st : Int), .slice A2 m c2] 25) := ⟨_, rfl⟩
  rw [← hw3] at K R Q HO HC HB ⊢
  rw [← hb] at K ⊢
  clear hw3 hb z1
  have kc0 := K.cell 0; have kc1 := K.cell 1; have kc2 := K.cell 2
  simp only [List.getElem?_cons_zero, List.getElem?_cons_succ] at kc0 kc1 kc2
  go_wp2_with fail
  have hb3 := K.lt
  refine (cur_anyCalls HS.out HB.out hp0 HC.out (by omega) HLl.out HO.out.recs (by have := HLl.out; omega) hdf.2.2.2.1 hdf.1 hdf.2.2.2.2).mono ?_; rintro e w4 ⟨kb, ks, rfl, zkb, zks, hc4, hg4⟩
  have s4 := hg4.size
  clear kc0 kc1 kc2
  replace K := K.grown hg4 (fun e => by injection e with e; omega)
  replace R := R.grown hg4 (fun e => by injection e with e; omega)
  replace Q := Q.grown hg4 (fun e => by injection e with e; omega)
  replace HO := Lib.hid (HO.out.past hg4 (by omega))
  replace HB := Lib.hid (grown_below HB.out hp0 hg4)
  replace HC := Lib.hid hc4
  clear hg4 hc4
  have J := Blk.at_ w4 27 [.string kb, .string ks] (b := w4.heap.size) rfl
  have a4 : Below w4.heap.size w4 (w4.alloc (.cells #[.string kb, .string ks] 27)) := by (repeat' (first | (with_reducible exact Below.refl _ _) | (with_reducible assumption) | (with_reducible refine below_drewN ?_ _) | (with_reducible refine Below.drew ?_) | (with_reducible refine below_alloc ?_ _) | (with_reducible refine Below.alloc ?_ ?_ _) | (with_reducible refine Below.setCell ?_ ?_ _) | (with_reducible refine below_go ?_ (by with_reducible assumption)) | (with_reducible refine below_then (by with_reducible assumption) ?_ ?_) | go_size))
  replace K := K.up a4
  replace R := R.up a4
  replace Q := Q.up a4
  replace HO := Lib.hid (HO.out.up a4)
  replace HC := Lib.hid (HC.out.up a4)
  replace HB := Lib.hid (below_go HB.out a4)
  obtain ⟨d, hd⟩ : ∃ b, b = w4.heap.size := ⟨_, rfl⟩
  have hdz : b < d := by omega
  clear a4 s4
  go_upto_region 4 with fail
  obtain ⟨w5, hw5⟩ : ∃ u, u = w4.alloc (.cells #[.string kb, .string ks] 27) := ⟨_, rfl⟩
  rw [← hw5] at K J R Q HO HC HB ⊢
  rw [← hd] at J ⊢
  clear hw5 hd
  go_wp2_with fail
  have hd3 := J.lt
  refine (cur_pick HS.out HB.out hp0 HC.out (by omega) (by decide) (by decide)).mono ?_; rintro e w6 ⟨x, rfl, ⟨x0, x1⟩, hc6, hg6⟩
  have s6 := hg6.size
  obtain ⟨N, hN⟩ : ∃ q : Nat, (1 : Int) + x = (q : Int) := ⟨(1 + x).toNat, by omega⟩
  have hN7 : N ≤ 7 := by omega
  clear x0 x1
  replace K := K.grown hg6 (fun e => by injection e with e; omega)
  replace J := J.grown hg6 (fun e => by injection e with e; omega)
  replace R := R.grown hg6 (fun e => by injection e with e; omega)
  replace Q := Q.grown hg6 (fun e => by injection e with e; omega)
  replace HO := Lib.hid (HO.out.past hg6 (by omega))
  replace HB := Lib.hid (grown_below HB.out hp0 hg6)
  replace HC := Lib.hid hc6
  clear hg6 hc6
  go_upto_region 5 with fail
  (try rw [hN])
  clear hN
  go_wp2_with fail
  refine (cur_one HS.out HB.out hp0 HC.out (by omega) (by decide) (by decide)).mono ?_; rintro e w7 ⟨q1, rfl, hc7, hg7⟩
  have s7 := hg7.size
  replace K := K.grown hg7 (fun e => by injection e with e; omega)
  replace J := J.grown hg7 (fun e => by injection e with e; omega)
  replace R := R.grown hg7 (fun e => by injection e with e; omega)
  replace Q := Q.grown hg7 (fun e => by injection e with e; omega)
  replace HO := Lib.hid (HO.out.past hg7 (by omega))
  replace HB := Lib.hid (grown_below HB.out hp0 hg7)
  replace HC := Lib.hid hc7
  clear hg7 hc7
  rcases q1
  · skip
    have carO : Hid (∀ u : World, w7.grownBy u (some (w.heap.size + 2)) → u.cell? ⟨b, 0, none⟩ = some (.string nm) ∧ u.cell? ⟨b, 1, none⟩ = some (.int .i64 (st : Int)) ∧ u.cell? ⟨b, 2, none⟩ = some (.slice A2 m c2) ∧ u.cell? ⟨d, 0, none⟩ = some (.string kb) ∧ u.cell? ⟨d, 1, none⟩ = some (.string ks)) := Lib.hid (fun u hu => by
      have L0 := K.grown hu (fun e => by injection e with e; omega)
      have L1 := J.grown hu (fun e => by injection e with e; omega)
      exact ⟨by simpa using L0.cell 0, by simpa using L0.cell 1, by simpa using L0.cell 2, by simpa using L1.cell 0, by simpa using L1.cell 1⟩)
    have C0 : w7.grownBy w7.drew (some (w.heap.size + 2)) := grown_any (Below.refl _ _).drew _
    go_upto_region 7 with fail
    have gA : w7.grownBy (w7.drew.alloc (.cells #[.int .i64 1, .int .i64 5, .int .i64 40, .int .i64 200, .int .i64 5000, .int .i64 5001, .int .i64 0, .int .i64 5000, .int .i64 5000] 3)) (some (w.heap.size + 2)) := grownBy_trans C0 (World.grownBy_alloc _ _ _)
    have hwl : w.heap.size + 2 < w7.heap.size := by omega
    have hlb := lit_ints w7.drew 3 [1, 5, 40, 200, 5000, 5001, 0, 5000, 5000]
    refine wp_region_held_drew (S := fun u => u.cell? ⟨b, 0, none⟩ = some (.string nm) ∧ u.cell? ⟨b, 1, none⟩ = some (.int .i64 (st : Int)) ∧ u.cell? ⟨b, 2, none⟩ = some (.slice A2 m c2) ∧ u.cell? ⟨d, 0, none⟩ = some (.string kb) ∧ u.cell? ⟨d, 1, none⟩ = some (.string ks)) (by kernel_rfl) (carO.out _ C0) (fun hHeld => ?_)
    refine wpAnyH_take (i := 0) (oi := { dst := some 26, op := _, type := _, pos := _, after := _, guard := _ }) (v := ?_) rfl (by kernel_rfl) (by kernel_rfl) (by kernel_rfl) (fun _ _ _ h => h) (Or.inl ⟨by rfl, ?_⟩) (by assumption) ?_
    rotate_left
    · (intro w hSw; (try dsimp only at hSw); go_simp) <;> with_reducible rfl
    (try simp only [Act.put, List.setIfInBounds_toArray, List.set_cons_zero, List.set_cons_succ])
    refine wpAnyH_take (i := 1) (oi := { dst := some 27, op := _, type := _, pos := _, after := _, guard := _ }) (v := ?_) rfl (by kernel_rfl) (by kernel_rfl) (by kernel_rfl) (fun _ _ _ h => h) (Or.inl ⟨by rfl, ?_⟩) (by assumption) ?_
    rotate_left
    · (intro w hSw; (try dsimp only at hSw); go_simp) <;> with_reducible rfl
    (try simp only [Act.put, List.setIfInBounds_toArray, List.set_cons_zero, List.set_cons_succ])
    refine wpAnyH_take (i := 2) (oi := { dst := some 28, op := _, type := _, pos := _, after := _, guard := _ }) (v := ?_) rfl (by kernel_rfl) (by kernel_rfl) (by kernel_rfl) (fun _ _ _ h => h) (Or.inl ⟨by rfl, ?_⟩) (by assumption) ?_
    rotate_left
    · (intro w hSw; (try dsimp only at hSw); go_simp) <;> with_reducible rfl
    (try simp only [Act.put, List.setIfInBounds_toArray, List.set_cons_zero, List.set_cons_succ])
    refine wpAnyH_take (i := 3) (oi := { dst := some 29, op := _, type := _, pos := _, after := _, guard := _ }) (v := ?_) rfl (by kernel_rfl) (by kernel_rfl) (by kernel_rfl) (fun _ _ _ h => h) (Or.inl ⟨by rfl, ?_⟩) (by assumption) ?_
    rotate_left
    · (intro w hSw; (try dsimp only at hSw); go_simp) <;> with_reducible rfl
    (try simp only [Act.put, List.setIfInBounds_toArray, List.set_cons_zero, List.set_cons_succ])
    refine wpAnyH_ready (rs := [4]) (by kernel_rfl) (by simp) ?_
    refine AllReadyH.cons (o := _) rfl (fun K0 hK0 => ?_) AllReadyH.nil
    go_simp
    refine hK0.out _ _ (carO.out _ gA) (fun hHeld => ?_)
    clear hK0 K0
    (try simp only [Act.put, List.setIfInBounds_toArray, List.set_cons_zero, List.set_cons_succ])
    refine wpAnyH_ready (rs := [5]) (by kernel_rfl) (by simp) ?_
    refine AllReadyH.cons (o := _) rfl (fun K hK => ?_) AllReadyH.nil
    go_simp
    refine (cur_among (l := [1, 5, 40, 200, 5000, 5001, 0, 5000, 5000]) HS.out (grown_below HB.out hp0 gA) hp0 ((HC.out.up (Below.refl _ _).drew).up ((Below.refl _ _).alloc (Nat.le_refl _) _)) (by omega) rfl hlb (by decide) (by decide) (fun b o e => by injection e with e; injection e with e; simp at e; omega)).mono ?_; rintro e w9 ⟨y, hy, rfl, hc9, hg9⟩
    have hg9 := grownBy_trans gA hg9
    try go_wp2_with fail
    refine hK.out _ _ (carO.out _ hg9) (fun hHeld => ?_)
    clear hK K
    (try simp only [Act.put, List.setIfInBounds_toArray, List.set_cons_zero, List.set_cons_succ])
    have hy2 : 0 ≤ y ∧ y ≤ 5001 := by
      simp only [List.mem_cons, List.not_mem_nil, or_false] at hy
      omega
    obtain ⟨Y, rfl⟩ := Int.eq_ofNat_of_zero_le hy2.1
    have hY : Y ≤ 5001 := by omega
    clear hy hy2 carO C0 gA hlb
    replace K := K.grown hg9 (fun e => by injection e with e; omega)
    replace J := J.grown hg9 (fun e => by injection e with e; omega)
    replace R := R.grown hg9 (fun e => by injection e with e; omega)
    replace Q := Q.grown hg9 (fun e => by injection e with e; omega)
    replace HO := Lib.hid (HO.out.past hg9 (by omega))
    replace HB := Lib.hid (grown_below HB.out hp0 hg9)
    replace HC := Lib.hid hc9
    clear hg9 hc9
    have rc0 := R.cell 0; have rc1 := R.cell 1; have rc2 := R.cell 2
    have rf0 := R.frozen 0; have rf1 := R.frozen 1; have rf2 := R.frozen 2
    have yc0 := Q.cell 0; have yc1 := Q.cell 1
    have yf0 := Q.frozen 0; have yf1 := Q.frozen 1
    simp only [List.getElem?_cons_zero, List.getElem?_cons_succ] at rc0 rc1 rc2 yc0 yc1
    have cS : Hid (∀ u : World, Blk u b 25 [.string nm, .int .i64 (st : Int), .slice A2 m c2] → Blk u d 27 [.string kb, .string ks] → u.cell? ⟨b, 0, none⟩ = some (.string nm) ∧ u.cell? ⟨b, 1, none⟩ = some (.int .i64 (st : Int)) ∧ u.cell? ⟨b, 2, none⟩ = some (.slice A2 m c2) ∧ u.cell? ⟨d, 0, none⟩ = some (.string kb) ∧ u.cell? ⟨d, 1, none⟩ = some (.string ks)) := Lib.hid (fun u L0 L1 => ⟨by simpa using L0.cell 0, by simpa using L0.cell 1, by simpa using L0.cell 2, by simpa using L1.cell 0, by simpa using L1.cell 1⟩)
    have q1 := sets3_grown w9 w.heap.size (.string nm) (.int .i64 (st : Int)) (.slice A2 m c2)
    have R1 := ((R.set_ 0 (.string nm)).set_ 1 (.int .i64 (st : Int))).set_ 2 (.slice A2 m c2)
    have Y1 := Q.grown q1 (fun e => by injection e with e; omega)
    have K1 := K.grown q1 (fun e => by injection e with e; omega)
    have J1 := J.grown q1 (fun e => by injection e with e; omega)
    have hbs := HB.out.size
    have HB1 := Lib.hid (HB.out.grown q1 hbs (fun k e => by injection e with e; omega))
    have HO1 := Lib.hid (HO.out.past q1 (by omega))
    obtain ⟨wA, hwA⟩ : ∃ u, u = ((w9.setCell ⟨w.heap.size, 0, none⟩ (.string nm)).setCell ⟨w.heap.size, 1, none⟩ (.int .i64 (st : Int))).setCell ⟨w.heap.size, 2, none⟩ (.slice A2 m c2) := ⟨_, rfl⟩
    rw [← hwA] at R1 Y1 K1 J1 HB1 HO1
    refine wpAnyH_ready (rs := [6]) (by kernel_rfl) (by simp) ?_
    refine AllReadyH.cons (o := _) rfl (fun K0 hK0 => ?_) AllReadyH.nil
    go_simp
    try rw [← hwA]
    refine hK0.out _ _ (cS.out _ K1 J1) (fun hHeld1 => ?_)
    clear hK0 K0 rc0 rc1 rc2 rf0 rf1 rf2 yc0 yc1 yf0 yf1 R Q K J hHeld hwA q1
    (try simp only [Act.put, List.setIfInBounds_toArray, List.set_cons_zero, List.set_cons_succ])
    have yc0 := Y1.cell 0; have yc1 := Y1.cell 1
    have yf0 := Y1.frozen 0; have yf1 := Y1.frozen 1
    simp only [List.getElem?_cons_zero, List.getElem?_cons_succ] at yc0 yc1
    have q2 := sets2_grown wA (w.heap.size + 1) (.string kb) (.string ks)
    have R2 := R1.grown q2 (fun e => by injection e with e; omega)
    have Y2 := (Y1.set_ 0 (.string kb)).set_ 1 (.string ks)
    have K2 := K1.grown q2 (fun e => by injection e with e; omega)
    have J2 := J1.grown q2 (fun e => by injection e with e; omega)
    have HB2 := Lib.hid (HB1.out.grown q2 HB1.out.size (fun k e => by injection e with e; omega))
    have HO2 := Lib.hid (HO1.out.past q2 (by omega))
    obtain ⟨wB, hwB⟩ : ∃ u, u = (wA.setCell ⟨w.heap.size + 1, 0, none⟩ (.string kb)).setCell ⟨w.heap.size + 1, 1, none⟩ (.string ks) := ⟨_, rfl⟩
    rw [← hwB] at R2 Y2 K2 J2 HB2 HO2
    refine wpAnyH_ready (rs := [7]) (by kernel_rfl) (by simp) ?_
    refine AllReadyH.cons (o := _) rfl (fun K0 hK0 => ?_) AllReadyH.nil
    go_simp
    try rw [← hwB]
    refine hK0.out _ _ (cS.out _ K2 J2) (fun hHeld2 => ?_)
    clear hK0 K0 yc0 yc1 yf0 yf1 hHeld1 hwB q2
    (try simp only [Act.put, List.setIfInBounds_toArray, List.set_cons_zero, List.set_cons_succ])
    refine wpAnyH_ready (rs := [8]) (by kernel_rfl) (by simp) ?_
    refine AllReadyH.cons (o := _) rfl (fun K0 hK0 => ?_) AllReadyH.nil
    go_simp
    refine hK0.out _ _ (cS.out _ K2 J2) (fun hHeld3 => ?_)
    clear hK0 K0 hHeld3
    (try simp only [Act.put, List.setIfInBounds_toArray, List.set_cons_zero, List.set_cons_succ])
    refine wpAnyH_ready (rs := [9]) (by kernel_rfl) (by simp) ?_
    refine AllReadyH.cons (o := _) rfl (fun K0 hK0 => ?_) AllReadyH.nil
    go_simp
    refine hK0.out _ _ (cS.out _ K2 J2) (fun hHeld3 => ?_)
    clear hK0 K0 hHeld3
    (try simp only [Act.put, List.setIfInBounds_toArray, List.set_cons_zero, List.set_cons_succ])
    refine wpAnyH_done (by kernel_rfl) ?_ _
    (try simp only [Act.put, List.setIfInBounds_toArray, List.set_cons_zero, List.set_cons_succ])
    have u0 := R2.cell 0; have u1 := R2.cell 1; have u2 := R2.cell 2
    have v0 := Y2.cell 0; have v1 := Y2.cell 1
    simp only [List.set_cons_zero, List.set_cons_succ, List.getElem?_cons_zero, List.getElem?_cons_succ] at u0 u1 u2 v0 v1
    clear R1 R2 Y1 Y2 K1 J1 K2 J2 HC HB1 HO1
    go_wp2_with fail
    refine bodyPost_ret (v := .tuple #[.agg #[.string nm, .int .i64 (st : Int), .slice A2 m c2], .agg #[.string kb, .string ks], .int .i64 (N : Nat), .int .i64 (Y : Nat)]) (by simp [results, Tryz.results60, go_sem, u0, u1, u2, v0, v1]) rfl ?_
    exact ⟨nm, st, A2, m, c2, L, kb, ks, N, Y, rfl, HDR.out, zkb, zks, by omega, by omega, HO2.out.base_le (by omega), HB2.out⟩
  · skip
    have hl8 := lit_ints w7 3 [0, 6, 7]
    have g8 : w7.grownBy (w7.alloc (.cells #[.int .i64 0, .int .i64 6, .int .i64 7] 3)) (some (w.heap.size + 2)) := World.grownBy_alloc _ _ _
    have hwl7 : w.heap.size + 2 < w7.heap.size := by omega
    go_wp2_with fail
    refine (cur_among (l := [0, 6, 7]) HS.out (grown_below HB.out hp0 g8) hp0 (HC.out.up ((Below.refl _ _).alloc (Nat.le_refl _) _)) (by omega) rfl hl8 (by decide) (by decide) (fun b o e => by injection e with e; injection e with e; omega)).mono ?_; rintro e w8 ⟨z, hzl, rfl, hc8, hg8⟩
    have hg8 := grownBy_trans g8 hg8
    have hz2 : 0 ≤ z ∧ z ≤ 7 := by
      simp only [List.mem_cons, List.not_mem_nil, or_false] at hzl
      omega
    obtain ⟨Z, rfl⟩ := Int.eq_ofNat_of_zero_le hz2.1
    have hZ : Z ≤ 7 := by omega
    have s8 := hg8.size
    clear hl8 g8 hzl hz2
    replace K := K.grown hg8 (fun e => by injection e with e; omega)
    replace J := J.grown hg8 (fun e => by injection e with e; omega)
    replace R := R.grown hg8 (fun e => by injection e with e; omega)
    replace Q := Q.grown hg8 (fun e => by injection e with e; omega)
    replace HO := Lib.hid (HO.out.past hg8 (by omega))
    replace HB := Lib.hid (grown_below HB.out hp0 hg8)
    replace HC := Lib.hid hc8
    clear hg8 hc8
    have carO : Hid (∀ u : World, w8.grownBy u (some (w.heap.size + 2)) → u.cell? ⟨b, 0, none⟩ = some (.string nm) ∧ u.cell? ⟨b, 1, none⟩ = some (.int .i64 (st : Int)) ∧ u.cell? ⟨b, 2, none⟩ = some (.slice A2 m c2) ∧ u.cell? ⟨d, 0, none⟩ = some (.string kb) ∧ u.cell? ⟨d, 1, none⟩ = some (.string ks)) := Lib.hid (fun u hu => by
      have L0 := K.grown hu (fun e => by injection e with e; omega)
      have L1 := J.grown hu (fun e => by injection e with e; omega)
      exact ⟨by simpa using L0.cell 0, by simpa using L0.cell 1, by simpa using L0.cell 2, by simpa using L1.cell 0, by simpa using L1.cell 1⟩)
    have C0 : w8.grownBy w8.drew (some (w.heap.size + 2)) := grown_any (Below.refl _ _).drew _
    go_upto_region 7 with fail
    have gA : w8.grownBy (w8.drew.alloc (.cells #[.int .i64 1, .int .i64 5, .int .i64 40, .int .i64 200, .int .i64 5000, .int .i64 5001, .int .i64 0, .int .i64 5000, .int .i64 5000] 3)) (some (w.heap.size + 2)) := grownBy_trans C0 (World.grownBy_alloc _ _ _)
    have hwl : w.heap.size + 2 < w8.heap.size := by omega
    have hlb := lit_ints w8.drew 3 [1, 5, 40, 200, 5000, 5001, 0, 5000, 5000]
    refine wp_region_held_drew (S := fun u => u.cell? ⟨b, 0, none⟩ = some (.string nm) ∧ u.cell? ⟨b, 1, none⟩ = some (.int .i64 (st : Int)) ∧ u.cell? ⟨b, 2, none⟩ = some (.slice A2 m c2) ∧ u.cell? ⟨d, 0, none⟩ = some (.string kb) ∧ u.cell? ⟨d, 1, none⟩ = some (.string ks)) (by kernel_rfl) (carO.out _ C0) (fun hHeld => ?_)
    refine wpAnyH_take (i := 0) (oi := { dst := some 26, op := _, type := _, pos := _, after := _, guard := _ }) (v := ?_) rfl (by kernel_rfl) (by kernel_rfl) (by kernel_rfl) (fun _ _ _ h => h) (Or.inl ⟨by rfl, ?_⟩) (by assumption) ?_
    rotate_left
    · (intro w hSw; (try dsimp only at hSw); go_simp) <;> with_reducible rfl
    (try simp only [Act.put, List.setIfInBounds_toArray, List.set_cons_zero, List.set_cons_succ])
    refine wpAnyH_take (i := 1) (oi := { dst := some 27, op := _, type := _, pos := _, after := _, guard := _ }) (v := ?_) rfl (by kernel_rfl) (by kernel_rfl) (by kernel_rfl) (fun _ _ _ h => h) (Or.inl ⟨by rfl, ?_⟩) (by assumption) ?_
    rotate_left
    · (intro w hSw; (try dsimp only at hSw); go_simp) <;> with_reducible rfl
    (try simp only [Act.put, List.setIfInBounds_toArray, List.set_cons_zero, List.set_cons_succ])
    refine wpAnyH_take (i := 2) (oi := { dst := some 28, op := _, type := _, pos := _, after := _, guard := _ }) (v := ?_) rfl (by kernel_rfl) (by kernel_rfl) (by kernel_rfl) (fun _ _ _ h => h) (Or.inl ⟨by rfl, ?_⟩) (by assumption) ?_
    rotate_left
    · (intro w hSw; (try dsimp only at hSw); go_simp) <;> with_reducible rfl
    (try simp only [Act.put, List.setIfInBounds_toArray, List.set_cons_zero, List.set_cons_succ])
    refine wpAnyH_take (i := 3) (oi := { dst := some 29, op := _, type := _, pos := _, after := _, guard := _ }) (v := ?_) rfl (by kernel_rfl) (by kernel_rfl) (by kernel_rfl) (fun _ _ _ h => h) (Or.inl ⟨by rfl, ?_⟩) (by assumption) ?_
    rotate_left
    · (intro w hSw; (try dsimp only at hSw); go_simp) <;> with_reducible rfl
    (try simp only [Act.put, List.setIfInBounds_toArray, List.set_cons_zero, List.set_cons_succ])
    refine wpAnyH_ready (rs := [4]) (by kernel_rfl) (by simp) ?_
    refine AllReadyH.cons (o := _) rfl (fun K0 hK0 => ?_) AllReadyH.nil
    go_simp
    refine hK0.out _ _ (carO.out _ gA) (fun hHeld => ?_)
    clear hK0 K0
    (try simp only [Act.put, List.setIfInBounds_toArray, List.set_cons_zero, List.set_cons_succ])
    refine wpAnyH_ready (rs := [5]) (by kernel_rfl) (by simp) ?_
    refine AllReadyH.cons (o := _) rfl (fun K hK => ?_) AllReadyH.nil
    go_simp
    refine (cur_among (l := [1, 5, 40, 200, 5000, 5001, 0, 5000, 5000]) HS.out (grown_below HB.out hp0 gA) hp0 ((HC.out.up (Below.refl _ _).drew).up ((Below.refl _ _).alloc (Nat.le_refl _) _)) (by omega) rfl hlb (by decide) (by decide) (fun b o e => by injection e with e; injection e with e; simp at e; omega)).mono ?_; rintro e w9 ⟨y, hy, rfl, hc9, hg9⟩
    have hg9 := grownBy_trans gA hg9
    try go_wp2_with fail
    refine hK.out _ _ (carO.out _ hg9) (fun hHeld => ?_)
    clear hK K
    (try simp only [Act.put, List.setIfInBounds_toArray, List.set_cons_zero, List.set_cons_succ])
    have hy2 : 0 ≤ y ∧ y ≤ 5001 := by
      simp only [List.mem_cons, List.not_mem_nil, or_false] at hy
      omega
    obtain ⟨Y, rfl⟩ := Int.eq_ofNat_of_zero_le hy2.1
    have hY : Y ≤ 5001 := by omega
    clear hy hy2 carO C0 gA hlb
    replace K := K.grown hg9 (fun e => by injection e with e; omega)
    replace J := J.grown hg9 (fun e => by injection e with e; omega)
    replace R := R.grown hg9 (fun e => by injection e with e; omega)
    replace Q := Q.grown hg9 (fun e => by injection e with e; omega)
    replace HO := Lib.hid (HO.out.past hg9 (by omega))
    replace HB := Lib.hid (grown_below HB.out hp0 hg9)
    replace HC := Lib.hid hc9
    clear hg9 hc9
    have rc0 := R.cell 0; have rc1 := R.cell 1; have rc2 := R.cell 2
    have rf0 := R.frozen 0; have rf1 := R.frozen 1; have rf2 := R.frozen 2
    have yc0 := Q.cell 0; have yc1 := Q.cell 1
    have yf0 := Q.frozen 0; have yf1 := Q.frozen 1
    simp only [List.getElem?_cons_zero, List.getElem?_cons_succ] at rc0 rc1 rc2 yc0 yc1
    have cS : Hid (∀ u : World, Blk u b 25 [.string nm, .int .i64 (st : Int), .slice A2 m c2] → Blk u d 27 [.string kb, .string ks] → u.cell? ⟨b, 0, none⟩ = some (.string nm) ∧ u.cell? ⟨b, 1, none⟩ = some (.int .i64 (st : Int)) ∧ u.cell? ⟨b, 2, none⟩ = some (.slice A2 m c2) ∧ u.cell? ⟨d, 0, none⟩ = some (.string kb) ∧ u.cell? ⟨d, 1, none⟩ = some (.string ks)) := Lib.hid (fun u L0 L1 => ⟨by simpa using L0.cell 0, by simpa using L0.cell 1, by simpa using L0.cell 2, by simpa using L1.cell 0, by simpa using L1.cell 1⟩)
    have q1 := sets3_grown w9 w.heap.size (.string nm) (.int .i64 (st : Int)) (.slice A2 m c2)
    have R1 := ((R.set_ 0 (.string nm)).set_ 1 (.int .i64 (st : Int))).set_ 2 (.slice A2 m c2)
    have Y1 := Q.grown q1 (fun e => by injection e with e; omega)
    have K1 := K.grown q1 (fun e => by injection e with e; omega)
    have J1 := J.grown q1 (fun e => by injection e with e; omega)
    have hbs := HB.out.size
    have HB1 := Lib.hid (HB.out.grown q1 hbs (fun k e => by injection e with e; omega))
    have HO1 := Lib.hid (HO.out.past q1 (by omega))
    obtain ⟨wA, hwA⟩ : ∃ u, u = ((w9.setCell ⟨w.heap.size, 0, none⟩ (.string nm)).setCell ⟨w.heap.size, 1, none⟩ (.int .i64 (st : Int))).setCell ⟨w.heap.size, 2, none⟩ (.slice A2 m c2) := ⟨_, rfl⟩
    rw [← hwA] at R1 Y1 K1 J1 HB1 HO1
    refine wpAnyH_ready (rs := [6]) (by kernel_rfl) (by simp) ?_
    refine AllReadyH.cons (o := _) rfl (fun K0 hK0 => ?_) AllReadyH.nil
    go_simp
    try rw [← hwA]
    refine hK0.out _ _ (cS.out _ K1 J1) (fun hHeld1 => ?_)
    clear hK0 K0 rc0 rc1 rc2 rf0 rf1 rf2 yc0 yc1 yf0 yf1 R Q K J hHeld hwA q1
    (try simp only [Act.put, List.setIfInBounds_toArray, List.set_cons_zero, List.set_cons_succ])
    have yc0 := Y1.cell 0; have yc1 := Y1.cell 1
    have yf0 := Y1.frozen 0; have yf1 := Y1.frozen 1
    simp only [List.getElem?_cons_zero, List.getElem?_cons_succ] at yc0 yc1
    have q2 := sets2_grown wA (w.heap.size + 1) (.string kb) (.string ks)
    have R2 := R1.grown q2 (fun e => by injection e with e; omega)
    have Y2 := (Y1.set_ 0 (.string kb)).set_ 1 (.string ks)
    have K2 := K1.grown q2 (fun e => by injection e with e; omega)
    have J2 := J1.grown q2 (fun e => by injection e with e; omega)
    have HB2 := Lib.hid (HB1.out.grown q2 HB1.out.size (fun k e => by injection e with e; omega))
    have HO2 := Lib.hid (HO1.out.past q2 (by omega))
    obtain ⟨wB, hwB⟩ : ∃ u, u = (wA.setCell ⟨w.heap.size + 1, 0, none⟩ (.string kb)).setCell ⟨w.heap.size + 1, 1, none⟩ (.string ks) := ⟨_, rfl⟩
    rw [← hwB] at R2 Y2 K2 J2 HB2 HO2
    refine wpAnyH_ready (rs := [7]) (by kernel_rfl) (by simp) ?_
    refine AllReadyH.cons (o := _) rfl (fun K0 hK0 => ?_) AllReadyH.nil
    go_simp
    try rw [← hwB]
    refine hK0.out _ _ (cS.out _ K2 J2) (fun hHeld2 => ?_)
    clear hK0 K0 yc0 yc1 yf0 yf1 hHeld1 hwB q2
    (try simp only [Act.put, List.setIfInBounds_toArray, List.set_cons_zero, List.set_cons_succ])
    refine wpAnyH_ready (rs := [8]) (by kernel_rfl) (by simp) ?_
    refine AllReadyH.cons (o := _) rfl (fun K0 hK0 => ?_) AllReadyH.nil
    go_simp
    refine hK0.out _ _ (cS.out _ K2 J2) (fun hHeld3 => ?_)
    clear hK0 K0 hHeld3
    (try simp only [Act.put, List.setIfInBounds_toArray, List.set_cons_zero, List.set_cons_succ])
    refine wpAnyH_ready (rs := [9]) (by kernel_rfl) (by simp) ?_
    refine AllReadyH.cons (o := _) rfl (fun K0 hK0 => ?_) AllReadyH.nil
    go_simp
    refine hK0.out _ _ (cS.out _ K2 J2) (fun hHeld3 => ?_)
    clear hK0 K0 hHeld3
    (try simp only [Act.put, List.setIfInBounds_toArray, List.set_cons_zero, List.set_cons_succ])
    refine wpAnyH_done (by kernel_rfl) ?_ _
    (try simp only [Act.put, List.setIfInBounds_toArray, List.set_cons_zero, List.set_cons_succ])
    have u0 := R2.cell 0; have u1 := R2.cell 1; have u2 := R2.cell 2
    have v0 := Y2.cell 0; have v1 := Y2.cell 1
    simp only [List.set_cons_zero, List.set_cons_succ, List.getElem?_cons_zero, List.getElem?_cons_succ] at u0 u1 u2 v0 v1
    clear R1 R2 Y1 Y2 K1 J1 K2 J2 HC HB1 HO1
    go_wp2_with fail
    refine bodyPost_ret (v := .tuple #[.agg #[.string nm, .int .i64 (st : Int), .slice A2 m c2], .agg #[.string kb, .string ks], .int .i64 (Z : Nat), .int .i64 (Y : Nat)]) (by simp [results, Tryz.results60, go_sem, u0, u1, u2, v0, v1]) rfl ?_
    exact ⟨nm, st, A2, m, c2, L, kb, ks, Z, Y, rfl, HDR.out, zkb, zks, by omega, by omega, HO2.out.base_le (by omega), HB2.out⟩
end Go.Proofs.YtidolgonmimicaaGreat
namespace Go.Proofs.YtidolgonmimicaaGreat
open Go.ChangeShapes Go.WideShapes Go.ChangeAt Go.RowKit Go.Deep
theorem Recs.sub {α : Type} {e : α → List Value} {s : Nat} {w : World} {b o : Nat} {l : List α} (h : Recs e s w (some ⟨b, o, none⟩) l) {i n : Nat} (hin : i + n ≤ l.length) : Recs e s w (some ⟨b, o + i * s, none⟩) ((l.drop i).take n) := by
  have hl : ((l.drop i).take n).length = n := by simp; omega
  have h1 : (((l.drop i).take n).flatMap e).length = n * s := by rw [flatMap_len h.1, hl]
  refine ⟨h.1, by rw [hl]; exact h1, fun hn => ?_⟩
  rw [hl] at hn
  obtain ⟨b', o', hA, hb, hc⟩ := h.2.2 (by omega)
  injection hA with hA
  injection hA with e1 e2 _
  subst e1 e2
  refine ⟨b, o + i * s, rfl, hb, fun j u hu => ?_⟩
  rw [Nat.add_assoc]
  refine hc (i * s + j) u ?_
  have hj : j < n * s := by rw [← h1]; exact (List.getElem?_eq_some_iff.1 hu).1
  have e3 : l.flatMap e = (l.take i).flatMap e ++ (((l.drop i).take n).flatMap e ++ ((l.drop i).drop n).flatMap e) := by
    rw [← List.flatMap_append, ← List.flatMap_append, List.take_append_drop, List.take_append_drop]
  have e4 : ((l.take i).flatMap e).length = i * s := by rw [flatMap_len h.1, List.length_take, Nat.min_eq_left (by omega)]
  rw [e3, List.getElem?_append_right (by omega), e4, Nat.add_sub_cancel_left, List.getElem?_append_left (by omega)]
  exact hu
def rowB (l : List (Int × Int)) : ByteArray := strOfNums (l.map fun x => 48 + x.1)
theorem rowB_0 : rowB [] = ⟨#[]⟩ := rfl
theorem rowB_snoc (l : List (Int × Int)) (x : Int × Int) : rowB (l ++ [x]) = rowB l ++ dig1 x.1 := by
  rw [rowB, rowB, dig1, strOf_append, List.map_append]; rfl
theorem rowB_size (l : List (Int × Int)) : (rowB l).size = l.length := by rw [rowB, strOfNums_size, List.length_map]
def cutAt (l : List (Int × Int)) (n k : Nat) : ByteArray := rowB ((l.drop (k * n)).take n)
def cutAll (l : List (Int × Int)) (n : Nat) : Bool := (List.range (l.length / n)).all fun k => goodRow (cutAt l n k)
def cutOk (l : List (Int × Int)) (n : Int) : Bool := (goodStrikes l && inB n 3 8) && cutAll l n.toNat
def cutL (l : List (Int × Int)) (n : Int) : List ByteArray := if cutOk l n = true then (List.range (l.length / n.toNat)).map (cutAt l n.toNat) else []
theorem cutL_f {l : List (Int × Int)} {n : Int} (h : cutOk l n = false) : cutL l n = [] := if_neg (by rw [h]; simp)
theorem cutL_t {l : List (Int × Int)} {n : Nat} (h : cutOk l n = true) : cutL l n = (List.range (l.length / n)).map (cutAt l n) := if_pos h
def cutR (l : List (Int × Int)) (n k : Nat) : List ByteArray := (List.range k).map (cutAt l n)
theorem cutR_succ (l : List (Int × Int)) (n k : Nat) : cutR l n (k + 1) = cutR l n k ++ [cutAt l n k] := by rw [cutR, List.range_succ, List.map_append]; rfl
theorem cut_bad {l : List (Int × Int)} {n k : Nat} (hk : k < l.length / n) (h : goodRow (cutAt l n k) = false) : cutAll l n = false := by
  rcases q : cutAll l n
  · rfl
  · rw [cutAll, List.all_eq_true] at q
    rw [q k (List.mem_range.2 hk)] at h; cases h
theorem cut_good {l : List (Int × Int)} {n : Nat} (h : ∀ k, k < l.length / n → goodRow (cutAt l n k) = true) : cutAll l n = true := by
  rw [cutAll, List.all_eq_true]
  exact fun k hk => h k (List.mem_range.1 hk)
theorem cut_step {a n k : Nat} (hn : 0 < n) : k * n + n ≤ a ↔ k < a / n := by
  rw [Nat.lt_div_iff_mul_lt hn]
  constructor
  · intro h
    have : n * k + n ≤ a := by rw [Nat.mul_comm]; exact h
    omega
  · intro h
    have h2 : (k + 1) * n ≤ a := by
      have := (Nat.le_div_iff_mul_le hn (x := k + 1) (y := a)).1 (by
        have := (Nat.lt_div_iff_mul_lt hn (x := k) (y := a)).2 h
        omega)
      exact this
    rw [Nat.succ_mul] at h2
    exact h2
end Go.Proofs.YtidolgonmimicaaGreat
