/- Texts 4 of 5 that the claim leans on: plain laws and the walks' contracts, in order. -/
import Derived.Test.YthffeljicohpdaaGreatDoorMStrikeTexts3
import Derived.Deep.RegionHeld3
import Derived.Lib.ItoaNum
import Derived.Lib.IndexBytes
import Derived.Lib.IndexLaws
import Derived.Lib.Split
import Derived.PlainAid
import Derived.Deep.DeepCutAuto
import Derived.Shelf.Strings.OnBuilder
import Derived.Shelf.Strings.BuilderF
import Derived.Shelf.Strings.BuilderK
import Derived.Shelf.LaysM
import Derived.Shelf.Strconv.Itoa3
import Derived.Test.YthffeljicohpdaaGreatDoorProg
import Derived.Lib.AppendIntMem
import Derived.Shelf.Strings.Cut
import Derived.Shelf.Strings.Split
import Derived.StillTailTactics
/- The walk through the reference's merging of two lists of strikes. -/
namespace Go.Proofs.YthffeljicohpdaaGreatDoor
set_option linter.unusedVariables false
set_option linter.unusedSimpArgs false
open Go.ChangeShapes Go.WideShapes Go.ChangeAt Go.RowKit Go.Deep
theorem Tryz.tailStrikes (b o n c : Nat) (h1 : 1 ≤ n) (u : World) : (Instr.slice 24 (.slice (some ⟨b, o, none⟩) n c) (some (.int .i64 1)) none none).run Tryz.prog u = .ok (.slice (some ⟨b, tailOff o 2 c, none⟩) (n - 1) (c - 1)) u := by
  have e1 : Tryz.prog.underlying 24 = some (.slice (Tryz.prog.elem 24)) := by kernel_rfl
  have e2 : (sizeOf (Tryz.prog.elem 24)).run Tryz.prog u = .ok 2 u := by kernel_rfl
  rw [run_slice_l (P := Tryz.prog) (w := u) 24 (some ⟨b, o, none⟩) n c e1 .i64 1 (by omega) (by omega), e2]
  simp only [Result.andThen_ok, sliced, tailOff]
  by_cases hc : c = 1
  · rw [if_pos hc, if_pos (by omega)]; rfl
  · rw [if_neg hc, if_neg (by omega)]; rfl
/-- Not later. -/
def leT (x y : Int × Int) : Bool := !decide (y.2 < x.2)
theorem mgT_left {x y : Int × Int} {a b : List (Int × Int)} (h : ¬ y.2 < x.2) : List.merge (x :: a) (y :: b) leT = x :: List.merge a (y :: b) leT := by
  rw [List.cons_merge_cons_pos leT a b (by simp [leT]; omega)]
theorem mgT_right {x y : Int × Int} {a b : List (Int × Int)} (h : y.2 < x.2) : List.merge (x :: a) (y :: b) leT = y :: List.merge (x :: a) b leT := by
  rw [List.cons_merge_cons_neg leT a b (by simp [leT]; omega)]
theorem head_2 {w : World} {A : Option Addr} {x : Int × Int} {l : List (Int × Int)} (h : Recs strikeE 2 w A (x :: l)) : ∃ b o, A = some ⟨b, o, none⟩ ∧ b < w.heap.size ∧ w.cell? ⟨b, o, none⟩ = some (.int .i64 x.1) ∧ w.cell? ⟨b, o + 1, none⟩ = some (.int .i64 x.2) := by
  obtain ⟨b, o, h1, h2, h3, h4⟩ := Recs.at_2 (f := fun s : Int × Int => Value.int .i64 s.1) (g := fun s : Int × Int => Value.int .i64 s.2) (k := 0) (x := x) h rfl
  refine ⟨b, o, h1, h2, ?_, ?_⟩
  · simpa using h3
  · simpa using h4
set_option maxHeartbeats 2000000 in
set_option maxRecDepth 100000 in
theorem spec_l21Merge {A B : Option Addr} {n m c d : Nat} {l1 l2 : List (Int × Int)} {w : World} (hn : l1.length = n) (h : Recs strikeE 2 w A l1) (hm : l2.length = m) (g : Recs strikeE 2 w B l2) (hz : n + m ≤ 16000000) (hnc : n ≤ c) (hmd : m ≤ d) (hc : c ≤ 9223372036854775807) (hd : d ≤ 9223372036854775807) :
    Calls Tryz.prog 37 #[.slice A n c, .slice B m d] w fun e w' => ∃ A' c', e = .returned (.slice A' (n + m) c') ∧ Owned strikeE 2 41 w' w.heap.size A' (n + m) c' (List.merge l1 l2 leT) ∧ Below w.heap.size w w' := by
  have HN := Lib.hid hn
  have HM := Lib.hid hm
  have HX := Lib.hid h
  have HY := Lib.hid g
  clear hn hm h g
  go_in
  go_wp2
  go_loopw [0, 1, 5] (fun va vb vc wr => ∃ (Aa : Option Addr) (na ca : Nat) (la : List (Int × Int)) (Ab : Option Addr) (nb cb : Nat) (lb : List (Int × Int)) (A' : Option Addr) (m' c' : Nat) (M : List (Int × Int)), va = .slice Aa na ca ∧ vb = .slice Ab nb cb ∧ vc = .slice A' m' c' ∧ na ≤ ca ∧ nb ≤ cb ∧ ca ≤ 9223372036854775807 ∧ cb ≤ 9223372036854775807 ∧ m' + na + nb = n + m ∧ Hid (la.length = na) ∧ Hid (lb.length = nb) ∧ Hid (Recs strikeE 2 w Aa la) ∧ Hid (Recs strikeE 2 w Ab lb) ∧ Hid (Owned strikeE 2 41 wr w.heap.size A' m' c' M) ∧ Hid (M ++ List.merge la lb leT = List.merge l1 l2 leT) ∧ Below w.heap.size w wr) (fun va vb _ _ => slLen va + slLen vb)
  case atStart => exact ⟨A, n, c, l1, B, m, d, l2, none, 0, 0, [], rfl, rfl, rfl, hnc, hmd, hc, hd, by omega, HN, HM, HX, HY, Lib.hid (Owned.nil strikeE_len _ _ _), Lib.hid (by simp), Below.refl _ _⟩
  case round =>
    obtain ⟨Aa, na, ca, la, Ab, nb, cb, lb, A', m', c', M, rfl, rfl, rfl, hna, hnb, hca, hcb, hsum, HLa, HLb, HA, HB, HO, HQ, hb⟩ := hrel
    rename World => wr
    have hsz := hb.size
    by_cases ha0 : na = 0
    · have HF := Lib.hid (show M ++ la ++ lb = List.merge l1 l2 leT by
        have : la = [] := List.eq_nil_of_length_eq_zero (by rw [HLa.out]; exact ha0)
        rw [← HQ.out, this, List.append_nil]; simp)
      have HS2 := Lib.hid hsum
      have hbd : m' + na + nb ≤ 16000000 := by omega
      have hI : ¬ (0 : Int) < (na : Int) := by omega
      clear ha0 hsum
      go_wp2_with (first | (at_builtin; ((refine wpList_append_recs Tryz.elStrike strikeE_one rfl (.tmp 39) (.tmp 40) rfl rfl HO.out rfl (HA.out.below hb (Nat.le_refl _)) HLa.out ?_ (by decide) ?_ ?_; (focus (first | omega | (simp only [World.size_alloc]; done) | (simp only [World.size_alloc]; omega) | (simp; done) | (simp; omega))); (focus (first | omega | (simp only [World.size_alloc]; done) | (simp only [World.size_alloc]; omega) | (simp; done) | (simp; omega))); intro A4 c4 w4 ho4 hg4 hl4; have hb4 := hb.trans (grown_base hg4 hsz (fun k hk => (HO.out.blk hk).1)); have hsz4 := hb4.size))) | (at_builtin; go_must ((refine wpList_append_recs Tryz.elStrike strikeE_one rfl (.tmp 41) (.tmp 42) rfl rfl ho4 rfl (HB.out.below hb4 (Nat.le_refl _)) HLb.out ?_ (by decide) ?_ ?_; (focus (first | omega | (simp only [World.size_alloc]; done) | (simp only [World.size_alloc]; omega) | (simp; done) | (simp; omega))); (focus (first | omega | (simp only [World.size_alloc]; done) | (simp only [World.size_alloc]; omega) | (simp; done) | (simp; omega))); intro A5 c5 w5 ho5 hg5 hl5))))
      have hb5 := hb4.trans (grown_base hg5 hsz4 (fun k hk => (ho4.blk hk).1))
      go_ret
      rw [HF.out, HS2.out] at ho5
      rw [HS2.out]
      exact ⟨_, _, rfl, ho5, hb5⟩
    · by_cases hb0 : nb = 0
      · have HF := Lib.hid (show M ++ la ++ lb = List.merge l1 l2 leT by
          have : lb = [] := List.eq_nil_of_length_eq_zero (by rw [HLb.out]; exact hb0)
          rw [← HQ.out, this, List.append_nil]; simp)
        have HS2 := Lib.hid hsum
        have hbd : m' + na + nb ≤ 16000000 := by omega
        have hI : (0 : Int) < (na : Int) := by omega
        have hJ : ¬ (0 : Int) < (nb : Int) := by omega
        clear ha0 hb0 hsum
        go_wp2_with (first | (at_builtin; ((refine wpList_append_recs Tryz.elStrike strikeE_one rfl (.tmp 39) (.tmp 40) rfl rfl HO.out rfl (HA.out.below hb (Nat.le_refl _)) HLa.out ?_ (by decide) ?_ ?_; (focus (first | omega | (simp only [World.size_alloc]; done) | (simp only [World.size_alloc]; omega) | (simp; done) | (simp; omega))); (focus (first | omega | (simp only [World.size_alloc]; done) | (simp only [World.size_alloc]; omega) | (simp; done) | (simp; omega))); intro A4 c4 w4 ho4 hg4 hl4; have hb4 := hb.trans (grown_base hg4 hsz (fun k hk => (HO.out.blk hk).1)); have hsz4 := hb4.size))) | (at_builtin; go_must ((refine wpList_append_recs Tryz.elStrike strikeE_one rfl (.tmp 41) (.tmp 42) rfl rfl ho4 rfl (HB.out.below hb4 (Nat.le_refl _)) HLb.out ?_ (by decide) ?_ ?_; (focus (first | omega | (simp only [World.size_alloc]; done) | (simp only [World.size_alloc]; omega) | (simp; done) | (simp; omega))); (focus (first | omega | (simp only [World.size_alloc]; done) | (simp only [World.size_alloc]; omega) | (simp; done) | (simp; omega))); intro A5 c5 w5 ho5 hg5 hl5))))
        have hb5 := hb4.trans (grown_base hg5 hsz4 (fun k hk => (ho4.blk hk).1))
        go_ret
        rw [HF.out, HS2.out] at ho5
        rw [HS2.out]
        exact ⟨_, _, rfl, ho5, hb5⟩
      · obtain ⟨x, la', hla⟩ : ∃ x la', la = x :: la' := by
          rcases la with _ | ⟨x, la'⟩
          · exact absurd HLa.out.symm ha0
          · exact ⟨x, la', rfl⟩
        obtain ⟨y, lb', hlb⟩ : ∃ y lb', lb = y :: lb' := by
          rcases lb with _ | ⟨y, lb'⟩
          · exact absurd HLb.out.symm hb0
          · exact ⟨y, lb', rfl⟩
        subst hla hlb
        obtain ⟨x1, x2⟩ := x
        obtain ⟨y1, y2⟩ := y
        obtain ⟨b1, o1, rfl, bb1, hx1, hx2⟩ := head_2 (HA.out.below hb (Nat.le_refl _))
        obtain ⟨b2, o2, rfl, bb2, hy1, hy2⟩ := head_2 (HB.out.below hb (Nat.le_refl _))
        simp only at hx1 hx2 hy1 hy2
        have t1 := Tryz.tailStrikes b1 o1 na ca (by omega)
        have t2 := Tryz.tailStrikes b2 o2 nb cb (by omega)
        by_cases hl : y2 < x2
        · have hq1 := Lib.hid (mgT_right (x := (x1, x2)) (y := (y1, y2)) (a := la') (b := lb') hl)
          clear t1
          go_wp2
          go_quiet (fail)
          go_wp2_with (first | (at_builtin; go_must ((refine wpList_append_rec Tryz.elStrike rfl (.tmp 23) (.tmp 27) rfl rfl ((HO.out.drewN _).alloc _) (y1, y2) rfl (Box.at_ _ [.int .i64 y1, .int .i64 y2] _ ?_) (strikeE_one _) ?_ (by decide) ?_ ?_; (focus (first | omega | (simp only [World.size_alloc]; done) | (simp only [World.size_alloc]; omega) | (simp; done) | (simp; omega))); (focus (first | omega | (simp only [World.size_alloc]; done) | (simp only [World.size_alloc]; omega) | (simp; done) | (simp; omega))); (focus (first | omega | (simp only [World.size_alloc]; done) | (simp only [World.size_alloc]; omega) | (simp; done) | (simp; omega))); intro A4 c4 w4 ho4 hg4 hb4))))
          go_roundw
          case rel => exact ⟨some ⟨b1, o1, none⟩, na, ca, (x1, x2) :: la', some ⟨b2, tailOff o2 2 cb, none⟩, nb - 1, cb - 1, lb', A4, m' + 1, c4, M ++ [(y1, y2)], rfl, rfl, rfl, by omega, by omega, by omega, by omega, by omega, HLa, Lib.hid (by have := HLb.out; simp at this; omega), HA, Lib.hid (HB.out.tail (by have := HLb.out; simpa using this) hnb), Lib.hid ho4, Lib.hid (by rw [← HQ.out, hq1.out, List.append_assoc]; rfl), ((below_drewN hb _).alloc (by simp; omega) _).trans hb4⟩
          case measure => simp [slLen]; omega
        · have hq1 := Lib.hid (mgT_left (x := (x1, x2)) (y := (y1, y2)) (a := la') (b := lb') hl)
          clear t2
          go_wp2
          go_quiet (fail)
          go_wp2_with (first | (at_builtin; go_must ((refine wpList_append_rec Tryz.elStrike rfl (.tmp 31) (.tmp 35) rfl rfl ((HO.out.drewN _).alloc _) (x1, x2) rfl (Box.at_ _ [.int .i64 x1, .int .i64 x2] _ ?_) (strikeE_one _) ?_ (by decide) ?_ ?_; (focus (first | omega | (simp only [World.size_alloc]; done) | (simp only [World.size_alloc]; omega) | (simp; done) | (simp; omega))); (focus (first | omega | (simp only [World.size_alloc]; done) | (simp only [World.size_alloc]; omega) | (simp; done) | (simp; omega))); (focus (first | omega | (simp only [World.size_alloc]; done) | (simp only [World.size_alloc]; omega) | (simp; done) | (simp; omega))); intro A4 c4 w4 ho4 hg4 hb4))))
          go_roundw
          case rel => exact ⟨some ⟨b1, tailOff o1 2 ca, none⟩, na - 1, ca - 1, la', some ⟨b2, o2, none⟩, nb, cb, (y1, y2) :: lb', A4, m' + 1, c4, M ++ [(x1, x2)], rfl, rfl, rfl, by omega, by omega, by omega, by omega, by omega, Lib.hid (by have := HLa.out; simp at this; omega), HLb, Lib.hid (HA.out.tail (by have := HLa.out; simpa using this) hna), HB, Lib.hid ho4, Lib.hid (by rw [← HQ.out, hq1.out, List.append_assoc]; rfl), ((below_drewN hb _).alloc (by simp; omega) _).trans hb4⟩
          case measure => simp [slLen]; omega
end Go.Proofs.YthffeljicohpdaaGreatDoor
/- The walks through the generators of touches and calls. -/
namespace Go.Proofs.YthffeljicohpdaaGreatDoor
set_option linter.unusedVariables false
set_option linter.unusedSimpArgs false
open Go.ChangeShapes Go.WideShapes Go.ChangeAt Go.RowKit Go.Deep
theorem sets3_grown (u : World) (r : Nat) (a b c : Value) : u.grownBy (((u.setCell ⟨r, 0, none⟩ a).setCell ⟨r, 1, none⟩ b).setCell ⟨r, 2, none⟩ c) (some r) :=
  grownBy_trans (grownBy_trans (only_set _ (p := ⟨r, 0, none⟩) _) (only_set _ (p := ⟨r, 1, none⟩) _)) (only_set _ (p := ⟨r, 2, none⟩) _)
theorem sets2_grown (u : World) (r : Nat) (a b : Value) : u.grownBy ((u.setCell ⟨r, 0, none⟩ a).setCell ⟨r, 1, none⟩ b) (some r) :=
  grownBy_trans (only_set _ (p := ⟨r, 0, none⟩) _) (only_set _ (p := ⟨r, 1, none⟩) _)
end Go.Proofs.YthffeljicohpdaaGreatDoor
/- The walks through draws of beats and strikes. -/
namespace Go.Proofs.YthffeljicohpdaaGreatDoor
set_option linter.unusedVariables false
set_option linter.unusedSimpArgs false
open Go.ChangeShapes Go.WideShapes Go.ChangeAt Go.RowKit Go.Deep
theorem spec_l1MostS (a b : Int) (w : World) :
    Calls Tryz.prog 56 #[.int .i64 a, .int .i64 b] w fun e w' => e = .returned (.int .i64 (max a b)) ∧ w = w' := by
  by_cases h : b < a
  · go_in
    go_wp2
    go_ret
    exact ⟨ret_int (by omega), rfl⟩
  · go_in
    go_wp2
    go_ret
    exact ⟨ret_int (by omega), rfl⟩
end Go.Proofs.YthffeljicohpdaaGreatDoor
/- The walks through draws of strikes. -/
namespace Go.Proofs.YthffeljicohpdaaGreatDoor
set_option linter.unusedVariables false
set_option linter.unusedSimpArgs false
open Go.ChangeShapes Go.WideShapes Go.ChangeAt Go.RowKit Go.Deep
theorem at_strike {w : World} {A : Option Addr} {l : List (Int × Int)} {k : Nat} {x1 x2 : Int} (h : Recs strikeE 2 w A l) (hx : l[k]? = some (x1, x2)) : ∃ b o, A = some ⟨b, o, none⟩ ∧ b < w.heap.size ∧ w.cell? ⟨b, o + k * 2, none⟩ = some (.int .i64 x1) ∧ w.cell? ⟨b, o + k * 2 + 1, none⟩ = some (.int .i64 x2) :=
  Recs.at_2 (f := fun s : Int × Int => Value.int .i64 s.1) (g := fun s : Int × Int => Value.int .i64 s.2) h hx
theorem lit_strike (w : World) (x y : Int) : Recs strikeE 2 (w.alloc (.cells #[.int .i64 x, .int .i64 y] 41)) (some ⟨w.heap.size, 0, none⟩) [(x, y)] := by
  refine ⟨strikeE_len, rfl, fun hn => ⟨w.heap.size, 0, rfl, by simp, fun j u hu => ?_⟩⟩
  have h := Box.new w [.int .i64 x, .int .i64 y] 41
  rw [Nat.zero_add]
  exact h j u hu
/-- Bells and times as draws make them. -/
def stkB (s : Int × Int) : Prop := (0 ≤ s.1 ∧ s.1 ≤ 9) ∧ 0 ≤ s.2 ∧ s.2 ≤ 200000000
def stkL (L : List (Int × Int)) : Prop := ∀ s ∈ L, stkB s
theorem mg_mem {P : Int × Int → Prop} {a b : List (Int × Int)} (h : ∀ s ∈ a, P s) (g : ∀ s ∈ b, P s) : ∀ s ∈ List.merge a b leT, P s := fun s hs => by
  have := (List.merge_perm_append leT).mem_iff.1 hs
  rcases List.mem_append.1 this with hs | hs
  · exact h s hs
  · exact g s hs
set_option maxHeartbeats 2000000 in
set_option maxRecDepth 100000 in
theorem cur_struck {A B : Option Addr} {n c a p m d : Nat} {x y z : Int} {l : List ByteArray} {w0 w : World} (hS : Src w0 A n) (hb : Below w0.heap.size w0 w) (hp : w0.heap.size ≤ p) (hc : Cur w p A n c a) (ha : a ≤ 900000) (hx : -1 ≤ x ∧ x ≤ 1000001) (hy : 0 ≤ y ∧ y ≤ 2001) (hzz : 0 ≤ z ∧ z ≤ 2000) (hl : l.length = m) (h : Strs w B l) (hm : m ≤ 12) (hdg : ∀ s ∈ l, digS s) :
    Calls Tryz.prog 46 #[.pointer (some ⟨p, 0, none⟩), .agg #[.int .i64 x, .int .i64 y, .int .i64 z], .slice B m d] w fun e w' => ∃ A' m' c' L, e = .returned (.slice A' m' c') ∧ m' ≤ 192 ∧ stkL L ∧ Owned strikeE 2 41 w' w.heap.size A' m' c' L ∧ Cur w' p A n c (a + 400) ∧ w.grownBy w' (some p) := by
  have hpw := hc.lt
  have G : Hid (∀ u : World, w.grownBy u (some p) → Below w0.heap.size w0 u) := Lib.hid (fun u hg => grown_below hb hp hg)
  have HS := Lib.hid hS
  have K0 := Blk.at_ w 78 [.int .i64 x, .int .i64 y, .int .i64 z] (b := w.heap.size) rfl
  have a0 : Below w.heap.size w (w.alloc (.cells #[.int .i64 x, .int .i64 y, .int .i64 z] 78)) := by (repeat' (first | (with_reducible exact Below.refl _ _) | (with_reducible assumption) | (with_reducible refine below_drewN ?_ _) | (with_reducible refine Below.drew ?_) | (with_reducible refine below_alloc ?_ _) | (with_reducible refine Below.alloc ?_ ?_ _) | (with_reducible refine Below.setCell ?_ ?_ _) | (with_reducible refine below_go ?_ (by with_reducible assumption)) | (with_reducible refine below_then (by with_reducible assumption) ?_ ?_) | go_size))
  clear hS hb
  go_in
  go_upto_region 2 with fail
  obtain ⟨v0, hv0⟩ : ∃ u, u = w.alloc (.cells #[.int .i64 x, .int .i64 y, .int .i64 z] 78) := ⟨_, rfl⟩
  have z0 : w.heap.size < v0.heap.size := by rw [hv0]; simp
  rw [← hv0] at K0 a0 ⊢
  clear hv0
  have hcv := hc.up a0
  have hgv : w.grownBy v0 (some p) := grown_any a0 _
  have k0 := K0.cell 0; have k1 := K0.cell 1; have k2 := K0.cell 2
  simp only [List.getElem?_cons_zero, List.getElem?_cons_succ] at k0 k1 k2
  go_wp2_with fail
  refine (spec_l21IdealL hl (h.up a0) hx hy hzz (by omega) hdg).mono ?_; rintro e w1 ⟨AI, cI, rfl, hoI, _, hbI⟩
  have HIB := Lib.hid (idl_bdL hx hy hzz (by omega) hdg l.length (Nat.le_refl _))
  have hIL := idl_len (x := x) (y := y) (z := z) (fun s hs => (hdg s hs).1) l.length (Nat.le_refl _)
  obtain ⟨LI, hLI⟩ : ∃ LI, LI = idl x y z l l.length := ⟨_, rfl⟩
  rw [← hLI] at hoI HIB hIL
  rw [← hLI]
  have hI96 : LI.length ≤ 96 := by omega
  obtain ⟨MI, hMI⟩ : ∃ MI, MI = LI.length := ⟨_, rfl⟩
  rw [← hMI] at hoI hI96 ⊢
  have HMI := Lib.hid hMI.symm
  have HI1 := Lib.hid (hoI.base_le (Nat.le_of_lt z0))
  have HC1 := Lib.hid (hcv.up hbI)
  have HG1 := Lib.hid (grownBy_trans hgv (grown_any hbI (some p)))
  clear hoI hLI hIL hbI hgv hcv K0 k0 k1 k2 a0 hdg h hl hMI hc
  go_wp2
  go_loopw [7, 14] (fun v i wr => ∃ (k m' : Nat) (A' : Option Addr) (c' : Nat) (L : List (Int × Int)), k ≤ MI ∧ i = .int .i64 k ∧ v = .slice A' m' c' ∧ m' ≤ 2 * k ∧ stkL L ∧ Hid (Owned strikeE 2 41 wr w.heap.size AI MI cI LI) ∧ Hid (Owned strikeE 2 41 wr w.heap.size A' m' c' L) ∧ Hid (Cur wr p A n c (a + 3 * k)) ∧ Hid (w.grownBy wr (some p))) (fun _ i _ => MI - (intOf i).toNat)
  case atStart => exact ⟨0, 0, none, 0, [], Nat.zero_le _, rfl, rfl, by omega, (fun s hs => by cases hs), HI1, Lib.hid (Owned.nil strikeE_len _ _ _), HC1, HG1⟩
  case round =>
    obtain ⟨k, m', A2, c2, L, hk, rfl, rfl, hm2, HZ, HI, HO, HC, HG⟩ := hrel
    rename World => wr
    have hsr := HG.out.size
    by_cases hlt : k < MI
    · have hI : (k : Int) < (MI : Int) := by omega
      obtain ⟨⟨xb, xa⟩, hxk⟩ := some_of_lt (l := LI) (k := k) (by rw [HMI.out]; exact hlt)
      have hxz := HIB.out _ (List.mem_of_getElem? hxk)
      dsimp only at hxz
      obtain ⟨gI, oI, rfl, hbI, cx0, cx1⟩ := at_strike HI.out.recs hxk
      have K1 := Blk.at_ wr 41 [.int .i64 xb, .int .i64 xa] (b := wr.heap.size) rfl
      have a1 : Below wr.heap.size wr (wr.alloc (.cells #[.int .i64 xb, .int .i64 xa] 41)) := by (repeat' (first | (with_reducible exact Below.refl _ _) | (with_reducible assumption) | (with_reducible refine below_drewN ?_ _) | (with_reducible refine Below.drew ?_) | (with_reducible refine below_alloc ?_ _) | (with_reducible refine Below.alloc ?_ ?_ _) | (with_reducible refine Below.setCell ?_ ?_ _) | (with_reducible refine below_go ?_ (by with_reducible assumption)) | (with_reducible refine below_then (by with_reducible assumption) ?_ ?_) | go_size))
      have HIa := Lib.hid (HI.out.up a1)
      have HOa := Lib.hid (HO.out.up a1)
      have HCa := Lib.hid (HC.out.up a1)
      have HGa := Lib.hid (grownBy_trans HG.out (grown_any a1 (some p)))
      have RI := Lib.hid HI.out.range
      have RO := Lib.hid HO.out.range
      clear hxk HI HO HC HG
      go_upto_region 5 with fail
      obtain ⟨v1, hv1⟩ : ∃ u, u = wr.alloc (.cells #[.int .i64 xb, .int .i64 xa] 41) := ⟨_, rfl⟩
      have z1 : wr.heap.size < v1.heap.size := by rw [hv1]; simp
      rw [← hv1] at K1 HIa HOa HCa HGa ⊢
      clear hv1 a1 cx0 cx1
      go_wp2_with fail
      refine (cur_one HS.out (G.out _ HGa.out) hp HCa.out (by omega) (by decide) (by decide)).mono ?_; rintro e w2 ⟨bb, rfl, hc2, hg2⟩
      have K2 := K1.grown hg2 (fun e => by injection e with e; omega)
      have HI2 := Lib.hid (HIa.out.past hg2 hpw)
      have HO2 := Lib.hid (HOa.out.past hg2 hpw)
      have HC2 := Lib.hid hc2
      have HG2 := Lib.hid (grownBy_trans HGa.out hg2)
      have s2 := hg2.size
      clear K1 HIa HOa HCa HGa hc2 hg2
      rcases bb
      · have k0 := K2.cell 0; have k1 := K2.cell 1; have f1 := K2.frozen 1
        simp only [List.getElem?_cons_zero, List.getElem?_cons_succ] at k0 k1
        have k1d : w2.drew.cell? ⟨wr.heap.size, 1, none⟩ = some (.int .i64 xa) := k1
        have hlit := lit_ints w2.drew 3 [0, 0, 10, -10, 30, -30, 80, -80]
        have bd : Below w2.heap.size w2 w2.drew := below_drewN (Below.refl _ _) 1
        have gd : w2.grownBy (w2.drew.alloc (.cells ⟨([0, 0, 10, -10, 30, -30, 80, -80] : List Int).map fun x => Value.int .i64 x⟩ 3)) (some p) := grownBy_trans (grown_any bd _) (World.grownBy_alloc _ _ _)
        have hlt2 := HC2.out.lt
        go_upto_region 6 with fail
        have kla : (w2.drew.alloc (.cells #[.int .i64 0, .int .i64 0, .int .i64 10, .int .i64 (-10), .int .i64 30, .int .i64 (-30), .int .i64 80, .int .i64 (-80)] 3)).cell? ⟨wr.heap.size, 1, none⟩ = some (.int .i64 xa) := ((K2.drewN 1).alloc (.cells #[.int .i64 0, .int .i64 0, .int .i64 10, .int .i64 (-10), .int .i64 30, .int .i64 (-30), .int .i64 80, .int .i64 (-80)] 3)).cell 1
        have hlt3 : wr.heap.size < w2.heap.size := by omega
        have hne3 : ¬ wr.heap.size = w2.heap.size := by omega
        have hne3' : ¬ w2.heap.size = wr.heap.size := by omega
        go_region_with (first | (go_at_call 38; go_must (refine (cur_among HS.out (G.out _ (grownBy_trans HG2.out gd)) hp ((HC2.out.up bd).up ((Below.refl _ _).alloc (Nat.le_refl _) _)) (by omega) rfl hlit (by decide) (by decide) (fun b o e => by injection e with e; injection e with e; rw [← e]; show w2.heap.size ≠ p; omega)).mono ?_); rintro e w3 ⟨dd, hdd, rfl, hc3, hg3⟩; have g3 := grownBy_trans gd hg3; have K3 := K2.grown g3 (fun e => by injection e with e; omega); have k1e := K3.cell 1; have f1e := K3.frozen 1; simp only [List.getElem?_cons_zero, List.getElem?_cons_succ] at k1e; have bdd : -80 ≤ dd ∧ dd ≤ 80 := (by simp only [List.mem_cons, List.not_mem_nil, or_false] at hdd; omega); have gw : IntKind.i64.wrap (xa + dd) = xa + dd := wrap_id (by omega)) | (go_at_call 56; refine (spec_l1MostS _ _ _).mono ?_; rintro e w' ⟨rfl, rfl⟩))
        all_goals
          have g3' := grownBy_trans HG2.out g3
          have hyb : 0 ≤ max 0 (xa + dd) ∧ max 0 (xa + dd) ≤ 100000100 := by omega
          obtain ⟨ya, hya⟩ : ∃ ya, ya = max 0 (xa + dd) := ⟨_, rfl⟩
          rw [← hya] at hyb ⊢
          clear hya
          have qs := only_set w3 (p := ⟨wr.heap.size, 1, none⟩) (.int .i64 ya)
          have K4 := K3.set_ 1 (.int .i64 ya)
          have HC4 := Lib.hid (hc3.grown qs (fun e => by injection e with e; dsimp only at e; omega))
          have HG4 := Lib.hid (grow_own g3' qs (fun k e => by injection e with e; dsimp only at e; omega))
          have HI4 := Lib.hid ((HI2.out.past g3 hpw).kept qs (fun kk hkk e => by have := RI.out kk hkk; injection e with e; dsimp only at e; omega))
          have HO4 := Lib.hid ((HO2.out.past g3 hpw).kept qs (fun kk hkk e => by have := RO.out kk hkk; injection e with e; dsimp only at e; omega))
          clear K2 K3 kla k1d k1e f1e k0 k1 f1 hdd gw hc3 hg3 g3 g3' gd bd hlit HI2 HO2 HC2 HG2 qs hlt2
          obtain ⟨w4, hw4⟩ : ∃ u, u = w3.setCell ⟨wr.heap.size, 1, none⟩ (.int .i64 ya) := ⟨_, rfl⟩
          rw [← hw4] at K4 HC4 HG4 HI4 HO4 ⊢
          clear hw4
          have k0 := K4.cell 0; have k1 := K4.cell 1
          simp only [List.getElem?_cons_zero, List.getElem?_cons_succ, List.set_cons_zero, List.set_cons_succ] at k0 k1
          have hcp := HO4.out.cap
          have a4 : Below w4.heap.size w4 (w4.alloc (.cells #[.int .i64 xb, .int .i64 ya] 41)) := by (repeat' (first | (with_reducible exact Below.refl _ _) | (with_reducible assumption) | (with_reducible refine below_drewN ?_ _) | (with_reducible refine Below.drew ?_) | (with_reducible refine below_alloc ?_ _) | (with_reducible refine Below.alloc ?_ ?_ _) | (with_reducible refine Below.setCell ?_ ?_ _) | (with_reducible refine below_go ?_ (by with_reducible assumption)) | (with_reducible refine below_then (by with_reducible assumption) ?_ ?_) | go_size))
          have s4 := HG4.out.size
          have z4 := K4.lt
          go_wp2_with fail
          refine (spec_l21Merge (m := 1) (d := 1) (l2 := [(xb, ya)]) HO4.out.len (HO4.out.recs.up a4) rfl (lit_strike w4 xb ya) (by omega) hcp.1 (Nat.le_refl _) hcp.2 (by decide)).mono ?_; rintro e w5 ⟨A5, c5, rfl, ho5, hb5⟩
          have hb5' := below_go a4 hb5
          have HO5 := Lib.hid (ho5.base_le (show w.heap.size ≤ _ by simp; omega))
          have HI5 := Lib.hid (HI4.out.up hb5')
          have HC5 := Lib.hid (HC4.out.up hb5')
          have HG5 := Lib.hid (grownBy_trans HG4.out (grown_any hb5' (some p)))
          have K5 := K4.up hb5'
          have HZ5 : stkL (List.merge L [(xb, ya)] leT) := mg_mem (a := L) (b := [(xb, ya)]) HZ (fun s hs => by rw [List.mem_singleton.1 hs]; exact ⟨hxz.1, by dsimp only; omega⟩)
          obtain ⟨L5, hL5⟩ : ∃ L5, L5 = List.merge L [(xb, ya)] leT := ⟨_, rfl⟩
          rw [← hL5] at HO5 HZ5
          clear hL5 ho5 hb5 hb5' HI4 HC4 HG4 HO4 K4 k0 k1 hcp a4
          go_wp2_with fail
          refine (cur_one HS.out (G.out _ HG5.out) hp HC5.out (by omega) (by decide) (by decide)).mono ?_; rintro e w6 ⟨b2, rfl, hc6, hg6⟩
          have K6 := K5.grown hg6 (fun e => by injection e with e; omega)
          have HI6 := Lib.hid (HI5.out.past hg6 hpw)
          have HO6 := Lib.hid (HO5.out.past hg6 hpw)
          have HC6 := Lib.hid hc6
          have HG6 := Lib.hid (grownBy_trans HG5.out hg6)
          clear HI5 HO5 HC5 HG5 K5 hc6 hg6
          rcases b2
          · go_wp2
            go_roundw
            case rel => exact ⟨k + 1, m' + 1, A5, c5, L5, by omega, by go_num, rfl, by omega, HZ5, HI6, HO6, Lib.hid (HC6.out.mono (by omega)), HG6⟩
            case measure => simp [intOf]; omega
          · have k0 := K6.cell 0; have k1 := K6.cell 1
            simp only [List.getElem?_cons_zero, List.getElem?_cons_succ, List.set_cons_zero, List.set_cons_succ] at k0 k1
            have hcp := HO6.out.cap
            have a6 : Below w6.heap.size w6 (w6.alloc (.cells #[.int .i64 xb, .int .i64 (ya + 60)] 41)) := by (repeat' (first | (with_reducible exact Below.refl _ _) | (with_reducible assumption) | (with_reducible refine below_drewN ?_ _) | (with_reducible refine Below.drew ?_) | (with_reducible refine below_alloc ?_ _) | (with_reducible refine Below.alloc ?_ ?_ _) | (with_reducible refine Below.setCell ?_ ?_ _) | (with_reducible refine below_go ?_ (by with_reducible assumption)) | (with_reducible refine below_then (by with_reducible assumption) ?_ ?_) | go_size))
            have s6 := HG6.out.size
            go_wp2_with fail
            refine (spec_l21Merge (m := 1) (d := 1) (l2 := [(xb, ya + 60)]) HO6.out.len (HO6.out.recs.up a6) rfl (lit_strike w6 xb (ya + 60)) (by omega) hcp.1 (Nat.le_refl _) hcp.2 (by decide)).mono ?_; rintro e w7 ⟨A7, c7, rfl, ho7, hb7⟩
            have hb7' := below_go a6 hb7
            have HO7 := Lib.hid (ho7.base_le (show w.heap.size ≤ _ by simp; omega))
            have HI7 := Lib.hid (HI6.out.up hb7')
            have HC7 := Lib.hid (HC6.out.up hb7')
            have HG7 := Lib.hid (grownBy_trans HG6.out (grown_any hb7' (some p)))
            have HZ7 : stkL (List.merge L5 [(xb, ya + 60)] leT) := mg_mem (a := L5) (b := [(xb, ya + 60)]) HZ5 (fun s hs => by rw [List.mem_singleton.1 hs]; exact ⟨hxz.1, by dsimp only; omega⟩)
            clear ho7 hb7 hb7' HI6 HC6 HG6 HO6 K6 k0 k1 hcp a6
            go_wp2
            go_roundw
            case rel => exact ⟨k + 1, m' + 1 + 1, A7, c7, _, by omega, by go_num, rfl, by omega, HZ7, HI7, HO7, Lib.hid (HC7.out.mono (by omega)), HG7⟩
            case measure => simp [intOf]; omega
      · go_wp2
        go_roundw
        case rel => exact ⟨k + 1, m', A2, c2, L, by omega, by go_num, rfl, by omega, HZ, HI2, HO2, Lib.hid (HC2.out.mono (by omega)), HG2⟩
        case measure => simp [intOf]; omega
    · have hI : ¬ (k : Int) < (MI : Int) := by omega
      go_wp2
      go_ret
      exact ⟨_, _, _, rfl, by omega, L, HZ, HO.out, HC.out.mono (by omega), HG.out⟩
set_option maxHeartbeats 1000000 in
set_option maxRecDepth 100000 in
theorem cur_anyStruck {A : Option Addr} {n c a p : Nat} {w0 w : World} (hS : Src w0 A n) (hb : Below w0.heap.size w0 w) (hp : w0.heap.size ≤ p) (hc : Cur w p A n c a) (ha : a ≤ 800000) :
    Calls Tryz.prog 29 #[.pointer (some ⟨p, 0, none⟩)] w fun e w' => ∃ A' m' c' L, e = .returned (.slice A' m' c') ∧ m' ≤ 192 ∧ Owned strikeE 2 41 w' w.heap.size A' m' c' L ∧ Cur w' p A n c (a + 700) ∧ w.grownBy w' (some p) := by
  have hpw := hc.lt
  have G : Hid (∀ u : World, w.grownBy u (some p) → Below w0.heap.size w0 u) := Lib.hid (fun u hg => grown_below hb hp hg)
  have HS := Lib.hid hS
  go_in
  go_wp2_with fail
  refine (cur_rungFew hS hb hp hc (by omega)).mono ?_; rintro e w1 ⟨A1, m1, c1, L1, rfl, hm1, hd1, ho1, hc1, hg1⟩
  have hd := Lib.hid hd1
  have s1 := hg1.size
  clear hd1 hS hb hc
  go_wp2_with fail
  refine (cur_struck (x := 100) (y := 200) (z := 200) HS.out (G.out _ hg1) hp hc1 (by omega) (by omega) (by omega) (by omega) ho1.len ho1.recs hm1 hd.out).mono ?_; rintro e w2 ⟨A2, m2, c2, L2, rfl, hm2, HZ2, ho2, hc2, hg2⟩
  have HO2 := Lib.hid (ho2.base_le s1)
  have HC2 := Lib.hid hc2
  have HG2 := Lib.hid (grownBy_trans hg1 hg2)
  have s2 := HG2.out.size
  clear hd HZ2 ho1 ho2 hc1 hc2 hg1 hg2
  by_cases h0 : 0 < m2
  · have hI : (0 : Int) < (m2 : Int) := by omega
    go_wp2_with fail
    refine (cur_pick HS.out (G.out _ HG2.out) hp HC2.out (by omega) (by omega) (by omega)).mono ?_; rintro e w3 ⟨k, rfl, ⟨k0, k1⟩, hc3, hg3⟩
    obtain ⟨K, rfl⟩ := Int.eq_ofNat_of_zero_le k0
    have hK : K < m2 := by omega
    have HO3 := Lib.hid (HO2.out.past hg3 hpw)
    have HG3 := Lib.hid (grownBy_trans HG2.out hg3)
    clear k0 k1 HO2 HG2 HC2 hg3
    go_wp2_with fail
    refine (cur_pick HS.out (G.out _ HG3.out) hp hc3 (by omega) (by decide) (by decide)).mono ?_; rintro e w4 ⟨q, rfl, ⟨q0, q1⟩, hc4, hg4⟩
    obtain ⟨Q, rfl⟩ := Int.eq_ofNat_of_zero_le q0
    have HO4 := Lib.hid (HO3.out.past hg4 hpw)
    have HC4 := Lib.hid hc4
    have HG4 := Lib.hid (grownBy_trans HG3.out hg4)
    clear q0 q1 HO3 HG3 hc3 hc4 hg4
    by_cases Q0 : Q = 0
    · subst Q0
      have hl := lit_ints w4 3 [0, 8, 9]
      have hpl := HC4.out.lt
      go_wp2_with fail
      refine (cur_among HS.out ((G.out _ HG4.out).alloc (G.out _ HG4.out).size _) hp (HC4.out.up ((Below.refl _ _).alloc (Nat.le_refl _) _)) (by omega) rfl hl (by decide) (by decide) (fun b o e => by injection e with e; injection e with e; omega)).mono ?_; rintro e w5 ⟨v, hv, rfl, hc5, hg5⟩
      have g5 := grownBy_trans (World.grownBy_alloc w4 _ (some p)) hg5
      have HO5 := Lib.hid (HO4.out.past g5 hpw)
      obtain ⟨⟨xb, xa⟩, hx⟩ := some_of_lt (l := L2) (k := K) (by rw [HO5.out.len]; exact hK)
      obtain ⟨f, rfl, f0, f1, fc, ff⟩ := HO5.out.at_ (by omega)
      have cf := fc K (xb, xa) 0 _ hx rfl
      have zf := ff (K * 2 + 0)
      have pt := HO5.out.put (k := K) (j := 0) (x := (v, xa)) (u := .int .i64 v) hx (by decide) rfl
      simp only [Nat.add_zero] at cf zf pt
      have HPT := Lib.hid pt
      have hKI : (K : Int) < (m2 : Int) := by omega
      clear fc ff hx pt hl hv
      go_wp2
      go_ret
      exact ⟨_, _, _, _, rfl, hm2, HPT.out.1, (hc5.grown HPT.out.2 (fun e => by injection e with e; omega)).mono (by omega), grow_own (grownBy_trans HG4.out g5) HPT.out.2 (fun k e => by injection e with e; omega)⟩
    · have Q0I : ¬ (Q : Int) = 0 := by omega
      by_cases Q1 : Q = 1
      · subst Q1
        have hl := lit_ints w4 3 [-1, 0, 1000000, 1000001]
        have hpl := HC4.out.lt
        go_wp2_with fail
        refine (cur_among HS.out ((G.out _ HG4.out).alloc (G.out _ HG4.out).size _) hp (HC4.out.up ((Below.refl _ _).alloc (Nat.le_refl _) _)) (by omega) rfl hl (by decide) (by decide) (fun b o e => by injection e with e; injection e with e; omega)).mono ?_; rintro e w5 ⟨v, hv, rfl, hc5, hg5⟩
        have g5 := grownBy_trans (World.grownBy_alloc w4 _ (some p)) hg5
        have HO5 := Lib.hid (HO4.out.past g5 hpw)
        obtain ⟨⟨xb, xa⟩, hx⟩ := some_of_lt (l := L2) (k := K) (by rw [HO5.out.len]; exact hK)
        obtain ⟨f, rfl, f0, f1, fc, ff⟩ := HO5.out.at_ (by omega)
        have cf := fc K (xb, xa) 1 _ hx rfl
        have zf := ff (K * 2 + 1)
        have pt := HO5.out.put (k := K) (j := 1) (x := (xb, v)) (u := .int .i64 v) hx (by decide) rfl
        skip
        have HPT := Lib.hid pt
        have hKI : (K : Int) < (m2 : Int) := by omega
        clear fc ff hx pt hl hv
        go_wp2
        go_ret
        exact ⟨_, _, _, _, rfl, hm2, HPT.out.1, (hc5.grown HPT.out.2 (fun e => by injection e with e; omega)).mono (by omega), grow_own (grownBy_trans HG4.out g5) HPT.out.2 (fun k e => by injection e with e; omega)⟩
      · have Q1I : ¬ (Q : Int) = 1 := by omega
        go_wp2
        go_ret
        exact ⟨_, _, _, L2, rfl, hm2, HO4.out, HC4.out.mono (by omega), HG4.out⟩
  · have hI : ¬ (0 : Int) < (m2 : Int) := by omega
    obtain rfl : m2 = 0 := by omega
    go_wp2
    go_ret
    exact ⟨_, _, _, L2, rfl, by omega, HO2.out, HC2.out.mono (by omega), HG2.out⟩
end Go.Proofs.YthffeljicohpdaaGreatDoor
/- The decimal text of a number: plain, and the reference's walk. -/
namespace Go.Proofs.YthffeljicohpdaaGreatDoor
set_option linter.unusedVariables false
set_option linter.unusedSimpArgs false
open Go.ChangeShapes Go.WideShapes Go.ChangeAt Go.RowKit Go.Deep
def decS (n : Nat) : ByteArray := ⟨(Lib.decDigits n).toArray⟩
theorem decS_small {n : Nat} (h : n < 10) : decS n = dig1 n := by
  rw [decS, Lib.decDigits, dif_pos h]
  have : ∀ n, n < 10 → (⟨([UInt8.ofNat (48 + n)] : List UInt8).toArray⟩ : ByteArray) = dig1 (n : Int) := of_decide_eq_true (by kernel_rfl)
  exact this n h
theorem decS_big {n : Nat} (h : ¬ n < 10) : decS n = decS (n / 10) ++ dig1 ((n % 10 : Nat) : Int) := by
  have hs := decS_small (n := n % 10) (by omega)
  rw [← hs, decS, Lib.decDigits, dif_neg h, decS, decS, Lib.decDigits.eq_1 (n % 10), dif_pos (by omega)]
  apply ByteArray.ext
  simp
theorem decS_size : ∀ (k n : Nat), n < 10 ^ (k + 1) → (decS n).size ≤ k + 1
  | 0, n, h => by rw [decS_small (by simpa using h)]; exact Nat.le_refl _
  | k + 1, n, h => by
    by_cases h1 : n < 10
    · rw [decS_small h1]; show 1 ≤ k + 1 + 1; omega
    · rw [decS_big h1, ByteArray.size_append]
      have := decS_size k (n / 10) (by rw [Nat.pow_succ] at h; omega)
      have h2 : (dig1 ((n % 10 : Nat) : Int)).size = 1 := rfl
      omega
theorem dec_small {n : Nat} (h : n ≤ 1000000000000) : (decS n).size ≤ 13 := decS_size 12 n (by omega)
theorem dig_conv (P : Program) (u : World) {g : Nat} {x : Int} {tb t8 ts : TypeId} (hb : P.underlying tb = some (.slice t8)) (h8 : P.underlying t8 = some (.int .u8)) (hs : P.underlying ts = some .string) (h : u.cell? ⟨g, 0, none⟩ = some (.int .u8 (48 + x))) :
    (convert tb ts (.slice (some ⟨g, 0, none⟩) 1 1)).run P u = .ok (.string (dig1 x)) u := by
  have := run_convert_bytes_arg (P := P) u tb t8 hb h8 g 0 1 1 [48 + x] rfl (fun i hi => by
    obtain rfl : i = 0 := by omega
    exact h) ts hs
  exact this
set_option maxHeartbeats 2000000 in
set_option maxRecDepth 100000 in
theorem spec_l1Num : ∀ (k n : Nat) (w : World), n ≤ k → n ≤ 1000000000000 →
    Calls Tryz.prog 43 #[.int .i64 (n : Int)] w fun e w' => e = .returned (.string (decS n)) ∧ Below w.heap.size w w' := by
  intro k
  induction k with
  | zero =>
    intro n w hn _
    obtain rfl : n = 0 := by omega
    rw [decS_small (by decide)]
    exact spec_l1Num_1 (by decide) (by decide)
  | succ k ih =>
    intro n w hn hz
    by_cases h10 : n < 10
    · rw [decS_small h10]
      exact spec_l1Num_1 (by omega) (by omega)
    · have hI : ¬ (n : Int) < 10 := by omega
      obtain ⟨d, hd⟩ : ∃ d : Nat, d = n % 10 := ⟨_, rfl⟩
      obtain ⟨q, hq⟩ : ∃ q : Nat, q = n / 10 := ⟨_, rfl⟩
      have HE := Lib.hid (show decS n = decS q ++ dig1 (d : Int) by rw [decS_big h10, hd, hq])
      have hd9 : d ≤ 9 := by omega
      have hq1 : IntKind.i64.wrap (Int.tdiv (n : Int) 10) = (q : Int) := by rw [Int.tdiv_eq_ediv_of_nonneg (by omega), wrap_id (by omega)]; omega
      have hq2 : IntKind.i64.wrap ((n : Int) / 10) = (q : Int) := by rw [wrap_id (by omega)]; omega
      have hm1 : (n : Int).tmod 10 = (d : Int) := by rw [Int.tmod_eq_emod_of_nonneg (by omega)]; omega
      have hm2 : (n : Int) % 10 = (d : Int) := by omega
      have hw1 : IntKind.i64.wrap (48 + (d : Int)) = 48 + (d : Int) := wrap_id (by omega)
      have hw2 : IntKind.u8.wrap (48 + (d : Int)) = 48 + (d : Int) := by rw [IntKind.wrap_u8]; omega
      have IH := Lib.hid (fun (u : World) => ih q u (by omega) (by omega))
      have hz1 : (decS q).size ≤ 13 := dec_small (by omega)
      have hz2 : (dig1 (d : Int)).size = 1 := rfl
      have hzc : ¬ 9223372036854775807 < (decS q).size + 1 := by omega
      clear hd hq ih
      go_in
      go_wp2
      -- region
      have CD : Below w.heap.size w w.drew := (Below.refl _ _).drew
      refine wp_region_held_drew (S := fun _ => True) (by kernel_rfl) trivial (fun hHeld => ?_)
      refine wpAnyH_take (i := 0) (oi := { dst := some 10, op := _, type := _, pos := _, after := _, guard := _ }) (v := ?_) rfl (by kernel_rfl) (by kernel_rfl) (by kernel_rfl) (fun _ _ _ h => h) (Or.inl ⟨by rfl, ?_⟩) (by assumption) ?_
      rotate_left
      · (intro w hSw; (try dsimp only at hSw); go_simp) <;> with_reducible rfl
      try simp only [Act.put, List.setIfInBounds_toArray, List.set_cons_zero, List.set_cons_succ]
      refine wpAnyH_take (i := 1) (oi := { dst := some 11, op := _, type := _, pos := _, after := _, guard := _ }) (v := ?_) rfl (by kernel_rfl) (by kernel_rfl) (by kernel_rfl) (fun _ _ _ h => h) (Or.inl ⟨by rfl, ?_⟩) (by assumption) ?_
      rotate_left
      · (intro w hSw; (try dsimp only at hSw); go_simp) <;> with_reducible rfl
      try simp only [Act.put, List.setIfInBounds_toArray, List.set_cons_zero, List.set_cons_succ]
      refine wpAnyH_take (i := 3) (oi := { dst := some 13, op := _, type := _, pos := _, after := _, guard := _ }) (v := ?_) rfl (by kernel_rfl) (by kernel_rfl) (by kernel_rfl) (fun _ _ _ h => h) (Or.inl ⟨by rfl, ?_⟩) (by assumption) ?_
      rotate_left
      · (intro w hSw; (try dsimp only at hSw); go_simp) <;> with_reducible rfl
      try simp only [Act.put, List.setIfInBounds_toArray, List.set_cons_zero, List.set_cons_succ]
      refine wpAnyH_take (i := 4) (oi := { dst := some 14, op := _, type := _, pos := _, after := _, guard := _ }) (v := ?_) rfl (by kernel_rfl) (by kernel_rfl) (by kernel_rfl) (fun _ _ _ h => h) (Or.inl ⟨by rfl, ?_⟩) (by assumption) ?_
      rotate_left
      · (intro w hSw; (try dsimp only at hSw); go_simp) <;> with_reducible rfl
      try simp only [Act.put, List.setIfInBounds_toArray, List.set_cons_zero, List.set_cons_succ]
      refine wpAnyH_take (i := 5) (oi := { dst := some 15, op := _, type := _, pos := _, after := _, guard := _ }) (v := ?_) rfl (by kernel_rfl) (by kernel_rfl) (by kernel_rfl) (fun _ _ _ h => h) (Or.inl ⟨by rfl, ?_⟩) (by assumption) ?_
      rotate_left
      · (intro w hSw; (try dsimp only at hSw); go_simp) <;> with_reducible rfl
      try simp only [Act.put, List.setIfInBounds_toArray, List.set_cons_zero, List.set_cons_succ]
      refine wpAnyH_take (i := 6) (oi := { dst := some 16, op := _, type := _, pos := _, after := _, guard := _ }) (v := ?_) rfl (by kernel_rfl) (by kernel_rfl) (by kernel_rfl) (fun _ _ _ h => h) (Or.inl ⟨by rfl, ?_⟩) (by assumption) ?_
      rotate_left
      · (intro w hSw; (try dsimp only at hSw); go_simp) <;> with_reducible rfl
      try simp only [Act.put, List.setIfInBounds_toArray, List.set_cons_zero, List.set_cons_succ]
      generalize w.drew = wd at CD hHeld ⊢
      refine wpAnyH_ready (rs := [2, 7]) (by kernel_rfl) (by simp) ?_
      refine AllReadyH.cons (o := _) rfl (fun K hK => ?_) (AllReadyH.cons (o := _) rfl (fun K hK => ?_) AllReadyH.nil)
      · go_simp
        refine (IH.out _).mono ?_; rintro e w1 ⟨rfl, hbw1⟩
        have Cw1 := (CD).trans (hbw1.mono (CD).size)
        try go_wp2_with fail
        refine hK.out _ _ trivial (fun hHeld => ?_)
        clear hK K
        try simp only [Act.put, List.setIfInBounds_toArray, List.set_cons_zero, List.set_cons_succ]
        refine wpAnyH_ready (rs := [7]) (by kernel_rfl) (by simp) ?_
        refine AllReadyH.cons (o := _) rfl (fun K hK => ?_) AllReadyH.nil
        go_simp
        refine hK.out _ _ trivial (fun hHeld => ?_)
        clear hK K
        try simp only [Act.put, List.setIfInBounds_toArray, List.set_cons_zero, List.set_cons_succ]
        have cv := dig_conv Tryz.prog (w1.alloc (.cells #[.int .u8 (48 + (d : Int))] 5)) (g := w1.heap.size) (x := (d : Int)) Tryz.underlying22 Tryz.underlying5 Tryz.underlying9 (Box.new w1 [.int .u8 (48 + (d : Int))] 5 0 _ rfl)
        refine wpAnyH_ready (rs := [8]) (by kernel_rfl) (by simp) ?_
        refine AllReadyH.cons (o := _) rfl (fun K hK => ?_) AllReadyH.nil
        go_simp
        refine hK.out _ _ trivial (fun hHeld => ?_)
        clear hK K
        try simp only [Act.put, List.setIfInBounds_toArray, List.set_cons_zero, List.set_cons_succ]
        refine wpAnyH_take (i := 9) (oi := { dst := some 19, op := _, type := _, pos := _, after := _, guard := _ }) (v := ?_) rfl (by kernel_rfl) (by kernel_rfl) (by kernel_rfl) (fun _ _ _ h => h) (Or.inl ⟨by rfl, ?_⟩) (by assumption) ?_
        rotate_left
        · (intro w hSw; (try dsimp only at hSw); go_simp) <;> with_reducible rfl
        try simp only [Act.put, List.setIfInBounds_toArray, List.set_cons_zero, List.set_cons_succ]
        refine wpAnyH_take (i := 10) (oi := { dst := some 2, op := _, type := _, pos := _, after := _, guard := _ }) (v := ?_) rfl (by kernel_rfl) (by kernel_rfl) (by kernel_rfl) (fun _ _ _ h => h) (Or.inl ⟨by rfl, ?_⟩) (by assumption) ?_
        rotate_left
        · (intro w hSw; (try dsimp only at hSw); go_simp) <;> with_reducible rfl
        try simp only [Act.put, List.setIfInBounds_toArray, List.set_cons_zero, List.set_cons_succ]
        refine wpAnyH_done (by kernel_rfl) ?_ _
        try simp only [Act.put, List.setIfInBounds_toArray, List.set_cons_zero, List.set_cons_succ]
        go_wp2
        go_ret
        rw [HE.out]
        exact ⟨rfl, Cw1.alloc Cw1.size _⟩
      · have CB := CD.alloc CD.size (.cells #[.int .u8 (48 + (d : Int))] 5)
        have cx : ∀ u : World, Below (wd.alloc (.cells #[.int .u8 (48 + (d : Int))] 5)).heap.size (wd.alloc (.cells #[.int .u8 (48 + (d : Int))] 5)) u → (convert 22 9 (.slice (some ⟨wd.heap.size, 0, none⟩) 1 1)).run Tryz.prog u = .ok (.string (dig1 (d : Int))) u := fun u hu => dig_conv Tryz.prog u (g := wd.heap.size) (x := (d : Int)) Tryz.underlying22 Tryz.underlying5 Tryz.underlying9 ((hu.cell (p := ⟨wd.heap.size, 0, none⟩) (by simp)).trans (Box.new wd [.int .u8 (48 + (d : Int))] 5 0 _ rfl))
        have CX := Lib.hid cx
        clear cx
        go_simp
        refine hK.out _ _ trivial (fun hHeld => ?_)
        clear hK K
        try simp only [Act.put, List.setIfInBounds_toArray, List.set_cons_zero, List.set_cons_succ]
        refine wpAnyH_ready (rs := [2, 8]) (by kernel_rfl) (by simp) ?_
        refine AllReadyH.cons (o := _) rfl (fun K hK => ?_) (AllReadyH.cons (o := _) rfl (fun K hK => ?_) AllReadyH.nil)
        · go_simp
          refine (IH.out _).mono ?_; rintro e w1 ⟨rfl, hbw1⟩
          have Cw1 := (CB).trans (hbw1.mono (CB).size)
          try go_wp2_with fail
          refine hK.out _ _ trivial (fun hHeld => ?_)
          clear hK K
          try simp only [Act.put, List.setIfInBounds_toArray, List.set_cons_zero, List.set_cons_succ]
          have cv := CX.out _ hbw1
          refine wpAnyH_ready (rs := [8]) (by kernel_rfl) (by simp) ?_
          refine AllReadyH.cons (o := _) rfl (fun K hK => ?_) AllReadyH.nil
          go_simp
          refine hK.out _ _ trivial (fun hHeld => ?_)
          clear hK K
          try simp only [Act.put, List.setIfInBounds_toArray, List.set_cons_zero, List.set_cons_succ]
          refine wpAnyH_take (i := 9) (oi := { dst := some 19, op := _, type := _, pos := _, after := _, guard := _ }) (v := ?_) rfl (by kernel_rfl) (by kernel_rfl) (by kernel_rfl) (fun _ _ _ h => h) (Or.inl ⟨by rfl, ?_⟩) (by assumption) ?_
          rotate_left
          · (intro w hSw; (try dsimp only at hSw); go_simp) <;> with_reducible rfl
          try simp only [Act.put, List.setIfInBounds_toArray, List.set_cons_zero, List.set_cons_succ]
          refine wpAnyH_take (i := 10) (oi := { dst := some 2, op := _, type := _, pos := _, after := _, guard := _ }) (v := ?_) rfl (by kernel_rfl) (by kernel_rfl) (by kernel_rfl) (fun _ _ _ h => h) (Or.inl ⟨by rfl, ?_⟩) (by assumption) ?_
          rotate_left
          · (intro w hSw; (try dsimp only at hSw); go_simp) <;> with_reducible rfl
          try simp only [Act.put, List.setIfInBounds_toArray, List.set_cons_zero, List.set_cons_succ]
          refine wpAnyH_done (by kernel_rfl) ?_ _
          try simp only [Act.put, List.setIfInBounds_toArray, List.set_cons_zero, List.set_cons_succ]
          go_wp2
          go_ret
          rw [HE.out]
          exact ⟨rfl, Cw1⟩
        · have cv := CX.out _ (Below.refl _ _)
          go_simp
          refine hK.out _ _ trivial (fun hHeld => ?_)
          clear hK K
          try simp only [Act.put, List.setIfInBounds_toArray, List.set_cons_zero, List.set_cons_succ]
          clear cv
          refine wpAnyH_ready (rs := [2]) (by kernel_rfl) (by simp) ?_
          refine AllReadyH.cons (o := _) rfl (fun K hK => ?_) AllReadyH.nil
          go_simp
          refine (IH.out _).mono ?_; rintro e w1 ⟨rfl, hbw1⟩
          have Cw1 := (CB).trans (hbw1.mono (CB).size)
          try go_wp2_with fail
          refine hK.out _ _ trivial (fun hHeld => ?_)
          clear hK K
          try simp only [Act.put, List.setIfInBounds_toArray, List.set_cons_zero, List.set_cons_succ]
          refine wpAnyH_take (i := 9) (oi := { dst := some 19, op := _, type := _, pos := _, after := _, guard := _ }) (v := ?_) rfl (by kernel_rfl) (by kernel_rfl) (by kernel_rfl) (fun _ _ _ h => h) (Or.inl ⟨by rfl, ?_⟩) (by assumption) ?_
          rotate_left
          · (intro w hSw; (try dsimp only at hSw); go_simp) <;> with_reducible rfl
          try simp only [Act.put, List.setIfInBounds_toArray, List.set_cons_zero, List.set_cons_succ]
          refine wpAnyH_take (i := 10) (oi := { dst := some 2, op := _, type := _, pos := _, after := _, guard := _ }) (v := ?_) rfl (by kernel_rfl) (by kernel_rfl) (by kernel_rfl) (fun _ _ _ h => h) (Or.inl ⟨by rfl, ?_⟩) (by assumption) ?_
          rotate_left
          · (intro w hSw; (try dsimp only at hSw); go_simp) <;> with_reducible rfl
          try simp only [Act.put, List.setIfInBounds_toArray, List.set_cons_zero, List.set_cons_succ]
          refine wpAnyH_done (by kernel_rfl) ?_ _
          try simp only [Act.put, List.setIfInBounds_toArray, List.set_cons_zero, List.set_cons_succ]
          go_wp2
          go_ret
          rw [HE.out]
          exact ⟨rfl, Cw1⟩
end Go.Proofs.YthffeljicohpdaaGreatDoor
/- The text of strikes: plain. -/
namespace Go.Proofs.YthffeljicohpdaaGreatDoor
set_option linter.unusedVariables false
set_option linter.unusedSimpArgs false
open Go.ChangeShapes Go.WideShapes Go.ChangeAt Go.RowKit Go.Deep
def sxS (x : Int × Int) : ByteArray := ((decS x.1.toNat ++ ⟨#[64]⟩) ++ decS x.2.toNat) ++ ⟨#[10]⟩
def stK (L : List (Int × Int)) (k : Nat) : ByteArray := (L.take k).foldl (fun s x => s ++ sxS x) ⟨#[]⟩
theorem stK_0 (L : List (Int × Int)) : stK L 0 = ⟨#[]⟩ := rfl
theorem stK_succ {L : List (Int × Int)} {k : Nat} {x : Int × Int} (hx : L[k]? = some x) : stK L (k + 1) = stK L k ++ sxS x := by
  rw [stK, take_succ_some hx, List.foldl_append]; rfl
theorem sxS_size {x : Int × Int} (h1 : x.1.toNat ≤ 1000) (h2 : x.2.toNat ≤ 1000000) : (sxS x).size ≤ 28 := by
  have d1 := dec_small (n := x.1.toNat) (by omega)
  have d2 := dec_small (n := x.2.toNat) (by omega)
  have e1 : (⟨#[64]⟩ : ByteArray).size = 1 := rfl
  have e3 : (⟨#[10]⟩ : ByteArray).size = 1 := rfl
  simp only [sxS, ByteArray.size_append]
  omega
theorem stK_size {L : List (Int × Int)} (hL : ∀ x ∈ L, (1 ≤ x.1 ∧ x.1 ≤ 8) ∧ 0 ≤ x.2 ∧ x.2 ≤ 1000000) : ∀ k, k ≤ L.length → (stK L k).size ≤ 28 * k
  | 0, _ => by rw [stK_0]; exact Nat.le_refl _
  | k + 1, h => by
    have ih := stK_size hL k (by omega)
    obtain ⟨x, hx⟩ := some_of_lt (l := L) (k := k) (by omega)
    have hb := hL x (List.mem_of_getElem? hx)
    have := sxS_size (x := x) (by omega) (by omega)
    rw [stK_succ hx, ByteArray.size_append]
    omega
def stR (L : List (Int × Int)) : ByteArray := if goodStrikes L = true then stK L L.length else ⟨#[]⟩
theorem stR_f {L : List (Int × Int)} (h : goodStrikes L = false) : stR L = ⟨#[]⟩ := if_neg (by rw [h]; simp)
theorem stR_t {L : List (Int × Int)} (h : goodStrikes L = true) : stR L = stK L L.length := if_pos h
end Go.Proofs.YthffeljicohpdaaGreatDoor
/- Texts cut at a byte; numerals and what they say; the text of strikes read back: plain. -/
namespace Go.Proofs.YthffeljicohpdaaGreatDoor
set_option linter.unusedVariables false
set_option linter.unusedSimpArgs false
open Go.ChangeShapes Go.WideShapes Go.ChangeAt Go.RowKit Go.Deep
/-- A text cut at each of a byte. -/
def spl (c : UInt8) : List UInt8 → List (List UInt8)
  | [] => [[]]
  | x :: l => if x = c then [] :: spl c l else match spl c l with
    | h :: t => (x :: h) :: t
    | [] => [[x]]
theorem spl_ne (c : UInt8) : ∀ l, spl c l ≠ []
  | [] => by simp [spl]
  | x :: l => by
    rw [spl]
    split
    · simp
    · rcases spl c l with _ | ⟨h, t⟩ <;> simp
theorem spl_app {c : UInt8} (r : List UInt8) : ∀ a : List UInt8, c ∉ a → spl c (a ++ c :: r) = a :: spl c r
  | [], _ => by rw [List.nil_append, spl, if_pos rfl]
  | x :: a, h => by
    have h1 : x ≠ c := fun e => h (by rw [e]; exact List.mem_cons_self ..)
    have h2 : c ∉ a := fun e => h (List.mem_cons_of_mem _ e)
    rw [List.cons_append, spl, if_neg h1, spl_app r a h2]
theorem spl_clean {c : UInt8} : ∀ a : List UInt8, c ∉ a → spl c a = [a]
  | [], _ => rfl
  | x :: a, h => by
    have h1 : x ≠ c := fun e => h (by rw [e]; exact List.mem_cons_self ..)
    have h2 : c ∉ a := fun e => h (List.mem_cons_of_mem _ e)
    rw [spl, if_neg h1, spl_clean a h2]
theorem not_mem_at {c : UInt8} {l : List UInt8} (h : ∀ k : Nat, l[k]? ≠ some c) : c ∉ l := fun hm => by
  obtain ⟨k, hk⟩ := List.getElem?_of_mem hm
  exact h k hk
theorem take_drop_at {c : UInt8} {l : List UInt8} {i : Nat} (h : l[i]? = some c) : l = l.take i ++ c :: l.drop (i + 1) := by
  obtain ⟨hk, e⟩ := List.getElem?_eq_some_iff.1 h
  rw [← e, ← List.drop_eq_getElem_cons hk, List.take_append_drop]
theorem take_clean {c : UInt8} {l : List UInt8} {i : Nat} (h : ∀ k, k < i → l[k]? ≠ some c) : c ∉ l.take i := not_mem_at fun k hk => by
  rw [List.getElem?_take] at hk
  split at hk
  · rename_i hlt
    exact h k hlt hk
  · cases hk
theorem splitK_spl (c : UInt8) : ∀ (n : Nat) (l : List UInt8), l.length ≤ n → Lib.splitK [c] 0 (Lib.count l [c]) l = spl c l ∧ (spl c l).length = Lib.count l [c] + 1
  | 0, l, h => by
    obtain rfl : l = [] := List.length_eq_zero_iff.1 (by omega)
    have : Lib.count [] [c] = 0 := Lib.count_miss (by rw [Lib.index_one]; rfl)
    rw [this]; exact ⟨rfl, rfl⟩
  | n + 1, l, h => by
    rcases Int.lt_or_le (Lib.index l [c]) 0 with h1 | h1
    · have hm : Lib.index l [c] = -1 := by have := Lib.index_ge l [c]; omega
      rw [Lib.count_miss hm]
      rw [Lib.index_one] at hm
      rw [spl_clean l (not_mem_at (Lib.indexByte_none hm))]
      exact ⟨rfl, rfl⟩
    · obtain ⟨i, hi⟩ := Int.eq_ofNat_of_zero_le h1
      have hi' := hi
      rw [Lib.index_one] at hi'
      obtain ⟨h2, h3⟩ := Lib.indexByte_some hi'
      have hil := (List.getElem?_eq_some_iff.1 h2).1
      have e1 := take_drop_at h2
      have e2 : spl c l = l.take i :: spl c (l.drop (i + 1)) := by
        conv => lhs; rw [e1]
        exact spl_app _ _ (take_clean h3)
      have ih := splitK_spl c n (l.drop (i + 1)) (by rw [List.length_drop]; omega)
      have hn : ¬ (Lib.index l [c] == -1) = true := fun e => by have := beq_iff_eq.1 e; omega
      rw [Lib.count_hit (by simp) hi, Nat.add_comm, Lib.splitK, if_neg hn, hi, e2]
      have e3 : ((i : Int)).toNat = i := rfl
      have e4 : ([c] : List UInt8).length = 1 := rfl
      rw [e3, e4, Nat.add_zero, ih.1, List.length_cons, ih.2]
      exact ⟨rfl, by omega⟩
/-- The pieces as texts. -/
def splB (c : UInt8) (s : ByteArray) : List ByteArray := (spl c s.data.toList).map fun l => ⟨l.toArray⟩
theorem splB_lib (c : UInt8) (s : ByteArray) : Lib.splitB ⟨#[c]⟩ 0 (Lib.countB s ⟨#[c]⟩) s = splB c s ∧ (splB c s).length = Lib.countB s ⟨#[c]⟩ + 1 := by
  have h := splitK_spl c s.data.toList.length s.data.toList (Nat.le_refl _)
  have h1 := Lib.splitB_data ⟨#[c]⟩ 0 (Lib.countB s ⟨#[c]⟩) s
  have e : (⟨#[c]⟩ : ByteArray).data.toList = [c] := rfl
  rw [e, show Lib.countB s ⟨#[c]⟩ = Lib.count s.data.toList [c] from rfl, h.1] at h1
  refine ⟨?_, by rw [splB, List.length_map, h.2]⟩
  rw [splB, ← h1, List.map_map]
  have : ((fun l : List UInt8 => (⟨l.toArray⟩ : ByteArray)) ∘ fun x : ByteArray => x.data.toList) = id := by
    funext x; apply ByteArray.ext; simp
  rw [this, List.map_id]
theorem splB_size {c : UInt8} (s : ByteArray) : ∀ x ∈ splB c s, x.size ≤ s.size := by
  have key : ∀ l : List UInt8, ∀ p ∈ spl c l, p.length ≤ l.length := by
    intro l
    induction l with
    | nil => intro p hp; rw [spl, List.mem_singleton] at hp; rw [hp]; exact Nat.le_refl _
    | cons x l ih =>
      intro p hp
      rw [spl] at hp
      split at hp
      · rcases List.mem_cons.1 hp with rfl | hp
        · simp
        · have := ih p hp; rw [List.length_cons]; omega
      · rcases hs : spl c l with _ | ⟨h, t⟩
        · exact absurd hs (spl_ne c l)
        · rw [hs] at hp ih
          rcases List.mem_cons.1 hp with rfl | hp
          · have := ih h (List.mem_cons_self ..); simp only [List.length_cons]; omega
          · have := ih p (List.mem_cons_of_mem _ hp); rw [List.length_cons]; omega
  intro x hx
  rw [splB, List.mem_map] at hx
  obtain ⟨p, hp, rfl⟩ := hx
  have := key _ p hp
  show p.toArray.size ≤ s.data.size
  simpa using this
/-! numerals -/
def isDg (b : UInt8) : Bool := decide (48 ≤ b.toNat) && decide (b.toNat ≤ 57)
def valL (l : List UInt8) : Nat := l.foldl (fun a b => 10 * a + (b.toNat - 48)) 0
theorem valL_snoc (l : List UInt8) (b : UInt8) : valL (l ++ [b]) = 10 * valL l + (b.toNat - 48) := by rw [valL, List.foldl_append]; rfl
theorem valL_lt : ∀ (n : Nat) (l : List UInt8), l.length = n → l.all isDg = true → valL l < 10 ^ n
  | 0, l, h, _ => by obtain rfl := List.length_eq_zero_iff.1 h; decide
  | n + 1, l, h, hd => by
    rcases List.eq_nil_or_concat l with rfl | ⟨r, b, rfl⟩
    · cases h
    · rw [List.concat_eq_append] at h hd ⊢
      rw [List.length_append, List.length_singleton] at h
      rw [List.all_append, Bool.and_eq_true] at hd
      have ih := valL_lt n r (by omega) hd.1
      have hb : isDg b = true := by simpa using hd.2
      simp only [isDg, Bool.and_eq_true, decide_eq_true_eq] at hb
      rw [valL_snoc, Nat.pow_succ]; omega
/-- A number in its one form. -/
def canon (l : List UInt8) : Bool := decide (1 ≤ l.length) && (!(decide (1 < l.length) && decide (l[0]? = some 48)) && l.all isDg)
theorem dec_all : ∀ (k n : Nat), n ≤ k → (Lib.decDigits n).all isDg = true
  | 0, n, h => by
    obtain rfl : n = 0 := by omega
    rw [Lib.decDigits_one (by decide)]; decide
  | k + 1, n, h => by
    have key : ∀ d, d < 10 → isDg (UInt8.ofNat (48 + d)) = true := of_decide_eq_true (by kernel_rfl)
    by_cases h1 : n < 10
    · rw [Lib.decDigits_one h1]; simpa using key n h1
    · rw [Lib.decDigits, dif_neg h1, List.all_append, dec_all k (n / 10) (by omega)]
      simpa using key (n % 10) (by omega)
theorem dec_val : ∀ (k n : Nat), n ≤ k → valL (Lib.decDigits n) = n
  | 0, n, h => by
    obtain rfl : n = 0 := by omega
    rw [Lib.decDigits_one (by decide)]; decide
  | k + 1, n, h => by
    have key : ∀ d, d < 10 → (UInt8.ofNat (48 + d)).toNat - 48 = d := of_decide_eq_true (by kernel_rfl)
    by_cases h1 : n < 10
    · rw [Lib.decDigits_one h1]
      show 10 * 0 + ((UInt8.ofNat (48 + n)).toNat - 48) = n
      rw [key n h1]; omega
    · rw [Lib.decDigits, dif_neg h1, valL_snoc, dec_val k (n / 10) (by omega), key (n % 10) (by omega)]; omega
theorem dec_head : ∀ (k n : Nat), n ≤ k → 1 ≤ n → (Lib.decDigits n)[0]? ≠ some 48
  | 0, n, h, h1 => by omega
  | k + 1, n, h, h1 => by
    have key : ∀ d, d < 10 → 1 ≤ d → UInt8.ofNat (48 + d) ≠ 48 := of_decide_eq_true (by kernel_rfl)
    by_cases h2 : n < 10
    · rw [Lib.decDigits_one h2]; intro e; injection e with e; exact key n h2 h1 e
    · rw [Lib.decDigits, dif_neg h2, List.getElem?_append_left (by rw [Lib.decDigits_length]; have := Lib.nDigits_pos (n / 10); omega)]
      exact dec_head k (n / 10) (by omega) (by omega)
theorem dec_canon (n : Nat) : canon (Lib.decDigits n) = true := by
  have hl : 1 ≤ (Lib.decDigits n).length := by rw [Lib.decDigits_length]; exact Lib.nDigits_pos n
  rw [canon, decide_eq_true hl, dec_all n n (Nat.le_refl _)]
  by_cases h0 : n = 0
  · subst h0; rw [Lib.decDigits_one (by decide)]; decide
  · rw [decide_eq_false (dec_head n n (Nat.le_refl _) (by omega))]; simp
theorem canon_pos : ∀ (k : Nat) (l : List UInt8), l.length ≤ k → l.all isDg = true → 1 ≤ l.length → l[0]? ≠ some 48 → 1 ≤ valL l ∧ Lib.decDigits (valL l) = l
  | 0, l, h, _, h1, _ => by omega
  | k + 1, l, h, hd, h1, h0 => by
    rcases List.eq_nil_or_concat l with rfl | ⟨r, b, rfl⟩
    · cases h1
    · rw [List.concat_eq_append] at h hd h0 ⊢
      rw [List.length_append, List.length_singleton] at h
      rw [List.all_append, Bool.and_eq_true] at hd
      have hb : isDg b = true := by simpa using hd.2
      simp only [isDg, Bool.and_eq_true, decide_eq_true_eq] at hb
      have hbb : UInt8.ofNat (48 + (b.toNat - 48)) = b := by
        rw [show 48 + (b.toNat - 48) = b.toNat by omega]; exact UInt8.ofNat_toNat
      rw [valL_snoc]
      by_cases hr : r = []
      · subst hr
        have hv : valL [] = 0 := rfl
        have hb0 : b.toNat ≠ 48 := fun e => h0 (by
          have : b = 48 := UInt8.toNat_inj.1 (by rw [e]; rfl)
          rw [this]; rfl)
        rw [hv, show 10 * 0 + (b.toNat - 48) = b.toNat - 48 by omega]
        refine ⟨by omega, ?_⟩
        rw [Lib.decDigits_one (by omega), hbb]; rfl
      · have hr1 : 1 ≤ r.length := by
          rcases r with _ | ⟨x, r⟩
          · exact absurd rfl hr
          · simp
        rw [List.getElem?_append_left hr1] at h0
        obtain ⟨i1, i2⟩ := canon_pos k r (by omega) hd.1 hr1 h0
        refine ⟨by omega, ?_⟩
        rw [Lib.decDigits, dif_neg (by omega), show (10 * valL r + (b.toNat - 48)) / 10 = valL r by omega, show (10 * valL r + (b.toNat - 48)) % 10 = b.toNat - 48 by omega, hbb, i2]
theorem canon_dec {l : List UInt8} (h : canon l = true) : Lib.decDigits (valL l) = l := by
  rw [canon] at h
  simp only [Bool.and_eq_true, decide_eq_true_eq, Bool.not_eq_true', Bool.and_eq_false_iff, decide_eq_false_iff_not] at h
  obtain ⟨h1, h2, h3⟩ := h
  by_cases h0 : l[0]? = some 48
  · have hl : l.length = 1 := by
      rcases h2 with h2 | h2
      · omega
      · exact absurd h0 h2
    match l, hl, h0 with
    | [b], _, h0 =>
      simp only [List.getElem?_cons_zero, Option.some.injEq] at h0
      subst h0
      show Lib.decDigits 0 = [48]
      rw [Lib.decDigits_one (by decide)]; rfl
  · exact (canon_pos l.length l (Nat.le_refl _) h3 h1 h0).2
theorem dec_no {n : Nat} {c : UInt8} (hc : isDg c = false) : c ∉ Lib.decDigits n := fun h => by
  have := List.all_eq_true.1 (dec_all n n (Nat.le_refl _)) c h
  rw [hc] at this; cases this
/-! the text of strikes, read -/
def lnT (x : Int × Int) : List UInt8 := Lib.decDigits x.1.toNat ++ 64 :: Lib.decDigits x.2.toNat
def stL : List (Int × Int) → List UInt8
  | [] => []
  | x :: r => lnT x ++ 10 :: stL r
theorem stL_snoc (x : Int × Int) : ∀ r, stL (r ++ [x]) = stL r ++ (lnT x ++ [10])
  | [] => rfl
  | y :: r => by rw [List.cons_append, stL, stL, stL_snoc x r]; simp
theorem sxS_list (x : Int × Int) : (sxS x).data.toList = lnT x ++ [10] := by
  simp [sxS, lnT, decS]
theorem stK_list (l : List (Int × Int)) : ∀ k, k ≤ l.length → (stK l k).data.toList = stL (l.take k)
  | 0, _ => rfl
  | k + 1, h => by
    obtain ⟨x, hx⟩ := some_of_lt (l := l) (k := k) (by omega)
    rw [stK_succ hx, take_succ_some hx, stL_snoc, ← stK_list l k (by omega), ← sxS_list]; simp
theorem lnT_no {x : Int × Int} : (10 : UInt8) ∉ lnT x := fun h => by
  rw [lnT, List.mem_append] at h
  rcases h with h | h
  · exact dec_no (by decide) h
  · rcases List.mem_cons.1 h with h | h
    · exact absurd h (by decide)
    · exact dec_no (by decide) h
theorem spl_text : ∀ l : List (Int × Int), spl 10 (stL l) = l.map lnT ++ [[]]
  | [] => rfl
  | x :: l => by rw [stL, spl_app _ _ lnT_no, spl_text l]; rfl
theorem spl_line (x : Int × Int) : spl 64 (lnT x) = [Lib.decDigits x.1.toNat, Lib.decDigits x.2.toNat] := by
  rw [lnT, spl_app _ _ (dec_no (by decide)), spl_clean _ (dec_no (by decide))]
/-- Pieces joined again. -/
def jnL : List (List UInt8) → List UInt8
  | [] => []
  | p :: ps => p ++ 10 :: jnL ps
theorem spl_join : ∀ (l : List UInt8), ∃ ps z, spl 10 l = ps ++ [z] ∧ l = jnL ps ++ z
  | [] => ⟨[], [], rfl, rfl⟩
  | x :: l => by
    obtain ⟨ps, z, h1, h2⟩ := spl_join l
    rw [spl]
    by_cases hx : x = 10
    · rw [if_pos hx]
      exact ⟨[] :: ps, z, by rw [h1]; rfl, by rw [jnL, List.nil_append, List.cons_append, ← h2, hx]⟩
    · rw [if_neg hx, h1]
      rcases ps with _ | ⟨p, ps⟩
      · exact ⟨[], x :: z, rfl, by rw [h2]; rfl⟩
      · exact ⟨(x :: p) :: ps, z, rfl, by rw [h2]; rfl⟩
theorem jnL_text : ∀ (ps : List (List UInt8)) (l : List (Int × Int)), ps = l.map lnT → jnL ps = stL l
  | _, [], rfl => rfl
  | _, x :: l, rfl => by rw [List.map_cons, jnL, stL, jnL_text _ l rfl]
end Go.Proofs.YthffeljicohpdaaGreatDoor
/- The walks through numbers read off texts and texts cut at a byte, both sides. -/
namespace Go.Proofs.YthffeljicohpdaaGreatDoor
set_option linter.unusedVariables false
set_option linter.unusedSimpArgs false
open Go.ChangeShapes Go.WideShapes Go.ChangeAt Go.RowKit Go.Deep
theorem bt_data {s : ByteArray} {k : Nat} {b : UInt8} (h : s.data.toList[k]? = some b) : PlainAid.bt s k = (b.toNat : Int) ∧ k < s.size := by
  have hk := (List.getElem?_eq_some_iff.1 h).1
  have hk' : k < s.size := by simpa using hk
  refine ⟨?_, hk'⟩
  have h2 := (List.getElem?_eq_some_iff.1 h).2
  have h3 : s[k] = b := by rw [← h2]; rfl
  rw [← PlainAid.get_bt s k hk', h3]
theorem data_at (s : ByteArray) {k : Nat} (h : k < s.size) : ∃ b, s.data.toList[k]? = some b := ⟨s.data.toList[k]'(by simpa using h), List.getElem?_eq_getElem _⟩
theorem dg_of {s : ByteArray} {k : Nat} {b : UInt8} (h : s.data.toList[k]? = some b) : isDg b = (!decide (PlainAid.bt s k < 48) && !decide (57 < PlainAid.bt s k)) := by
  rw [(bt_data h).1, isDg, Bool.eq_iff_iff]
  simp
  omega
theorem all_take_no {l : List UInt8} {k : Nat} {b : UInt8} (h : l[k]? = some b) (hb : isDg b = false) : l.all isDg = false := by
  rcases q : l.all isDg
  · rfl
  · rw [List.all_eq_true] at q
    rw [q b (List.mem_of_getElem? h)] at hb; cases hb
def numOk (s : ByteArray) (most : Int) : Bool := decide ((s.size : Int) ≤ most) && canon s.data.toList
def numV (s : ByteArray) (most : Int) : Int := if numOk s most = true then (valL s.data.toList : Int) else 0
theorem numV_f {s : ByteArray} {most : Int} (h : numOk s most = false) : numV s most = 0 := if_neg (by rw [h]; simp)
theorem numV_t {s : ByteArray} {most : Int} (h : numOk s most = true) : numV s most = (valL s.data.toList : Int) := if_pos h
theorem val_step {l : List UInt8} {k : Nat} {b : UInt8} (h : l[k]? = some b) : valL (l.take (k + 1)) = 10 * valL (l.take k) + (b.toNat - 48) := by rw [take_succ_some h, valL_snoc]
theorem val_bound {s : ByteArray} {k : Nat} (hk : k ≤ s.size) (h : (s.data.toList.take k).all isDg = true) (h8 : s.size ≤ 8) : valL (s.data.toList.take k) ≤ 100000000 := by
  have hl : (s.data.toList.take k).length = k := by rw [List.length_take]; have : s.data.toList.length = s.size := rfl; omega
  have h1 := valL_lt k _ hl h
  have h2 : 10 ^ k ≤ 10 ^ 8 := Nat.pow_le_pow_right (by decide) (by omega)
  omega
set_option maxHeartbeats 2000000 in
set_option maxRecDepth 100000 in
theorem impl_number {s : ByteArray} {most : Int} {w : World} (hz : s.size ≤ 16777216) (hm : 0 ≤ most ∧ most ≤ 8) :
    Calls Tryz.prog 28 #[.string s, .int .i64 most] w fun e w' => e = .returned (.tuple #[.int .i64 (numV s most), .bool (numOk s most)]) ∧ w = w' := by
  have HQ : Hid (numOk s most = (decide ((s.size : Int) ≤ most) && (decide (1 ≤ s.data.toList.length) && (!(decide (1 < s.data.toList.length) && decide (s.data.toList[0]? = some 48)) && s.data.toList.all isDg)))) := Lib.hid rfl
  have hlen : Hid (s.data.toList.length = s.size) := Lib.hid rfl
  have hb := PlainAid.get_bt s
  by_cases h1 : s.size < 1
  · have e2 := Lib.hid (show numOk s most = false by rw [HQ.out, hlen.out, show decide (1 ≤ s.size) = false from decide_eq_false (by omega)]; simp)
    have e1 := Lib.hid (numV_f e2.out)
    have hI : (s.size : Int) < 1 := by omega
    go_in
    go_wp2
    go_ret2
    rw [e1.out, e2.out]
    exact ⟨rfl, rfl⟩
  have hI1 : ¬ (s.size : Int) < 1 := by omega
  by_cases h2 : most < (s.size : Int)
  · have e2 := Lib.hid (show numOk s most = false by rw [HQ.out, decide_eq_false (show ¬ (s.size : Int) ≤ most by omega)]; rfl)
    have e1 := Lib.hid (numV_f e2.out)
    go_in
    go_wp2
    go_ret2
    rw [e1.out, e2.out]
    exact ⟨rfl, rfl⟩
  have h8 : s.size ≤ 8 := by omega
  obtain ⟨b0, hb0⟩ := data_at s (k := 0) (by omega)
  have hbt0 := (bt_data hb0).1
  have hpos : 0 < s.size := by omega
  have HW := Lib.hid (show (s.size > 1 → b0 ≠ 48) → numOk s most = s.data.toList.all isDg from fun h => by
    rw [HQ.out, decide_eq_true (show (s.size : Int) ≤ most by omega), hlen.out, show decide (1 ≤ s.size) = true from decide_eq_true (by omega)]
    have : (decide (1 < s.size) && decide (s.data.toList[0]? = some 48)) = false := by
      by_cases h1 : 1 < s.size
      · rw [hb0, decide_eq_false (show ¬ (some b0 = some (48 : UInt8)) from fun e => h h1 (by injection e))]; simp
      · rw [decide_eq_false h1]; rfl
    rw [this]; rfl)
  have HZ := Lib.hid (show s.size > 1 → b0 = 48 → numOk s most = false from fun h h' => by
    rw [HQ.out, hlen.out, decide_eq_true (show 1 < s.size from h), hb0, h']; simp)
  by_cases h3 : (1 : Int) < (s.size : Int)
  · by_cases h4 : PlainAid.bt s 0 = 48
    · have e2 := Lib.hid (HZ.out (by omega) (UInt8.toNat_inj.1 (by rw [h4] at hbt0; have : (48 : UInt8).toNat = 48 := rfl; omega)))
      have e1 := Lib.hid (numV_f e2.out)
      clear hb0 hbt0
      go_in
      go_wp2
      go_ret2
      rw [e1.out, e2.out]
      exact ⟨rfl, rfl⟩
    · have HA := Lib.hid (HW.out (fun _ e => h4 (by rw [hbt0, e]; rfl)))
      have h4b : (PlainAid.bt s 0 == 48) = false := by simpa using h4
      clear hb0 hbt0
      go_in
      go_wp2
      go_loopw [6, 29] (fun a i wr => ∃ k v : Nat, k ≤ s.size ∧ i = .int .i64 k ∧ a = .int .i64 v ∧ Hid (v = valL (s.data.toList.take k)) ∧ v ≤ 100000000 ∧ Hid ((s.data.toList.take k).all isDg = true) ∧ w = wr) (fun _ i _ => s.size - (intOf i).toNat)
      case atStart => exact ⟨0, 0, Nat.zero_le _, rfl, rfl, Lib.hid rfl, by decide, Lib.hid rfl, rfl⟩
      case round =>
        obtain ⟨k, v, hk, rfl, rfl, HV, hv, HD, rfl⟩ := hrel
        by_cases hlt : k < s.size
        · obtain ⟨b, hbk⟩ := data_at s hlt
          have hbt := (bt_data hbk).1
          have hdg := dg_of hbk
          rcases hd : isDg b
          · have e2 := Lib.hid (show numOk s most = false by rw [HA.out]; exact all_take_no hbk hd)
            have e1 := Lib.hid (numV_f e2.out)
            rw [hd] at hdg
            by_cases h48 : PlainAid.bt s k < 48
            · clear hdg hbk hbt
              go_wp2
              go_ret2
              rw [e1.out, e2.out]
              exact ⟨rfl, rfl⟩
            · have h57 : 57 < PlainAid.bt s k := by
                rw [decide_eq_false h48] at hdg
                by_cases h : 57 < PlainAid.bt s k
                · exact h
                · rw [decide_eq_false h] at hdg; cases hdg
              clear hdg hbk hbt
              go_wp2
              go_ret2
              rw [e1.out, e2.out]
              exact ⟨rfl, rfl⟩
          · simp only [isDg, Bool.and_eq_true, decide_eq_true_eq] at hd
            have h48 : ¬ PlainAid.bt s k < 48 := by omega
            have h57 : ¬ 57 < PlainAid.bt s k := by omega
            have hw : IntKind.u8.wrap (PlainAid.bt s k - 48) = PlainAid.bt s k - 48 := by rw [IntKind.wrap_u8]; omega
            have HD2 := Lib.hid (show (s.data.toList.take (k + 1)).all isDg = true by
              rw [take_succ_some hbk, List.all_append, HD.out]; simp [isDg, hd.1, hd.2])
            have HV2 := Lib.hid (show 10 * v + (b.toNat - 48) = valL (s.data.toList.take (k + 1)) by rw [val_step hbk, ← HV.out])
            have hv2 : 10 * v + (b.toNat - 48) ≤ 100000000 := by rw [HV2.out]; exact val_bound hlt HD2.out h8
            have HEQ := Lib.hid (show (10 * (v : Int) + (PlainAid.bt s k - 48)) = ((10 * v + (b.toNat - 48) : Nat) : Int) by omega)
            have hlo : 0 ≤ PlainAid.bt s k - 48 ∧ PlainAid.bt s k - 48 ≤ 9 := by omega
            clear hdg hbk hbt
            go_wp2
            go_roundw
            case rel => exact ⟨k + 1, 10 * v + (b.toNat - 48), by omega, by go_num, congrArg (Value.int .i64) HEQ.out, HV2, hv2, HD2, trivial⟩
            case measure => simp [intOf]; omega
        · obtain rfl : k = s.size := by omega
          have ht : s.data.toList.take s.size = s.data.toList := List.take_of_length_le (by rw [hlen.out]; exact Nat.le_refl _)
          have e2 := Lib.hid (show numOk s most = true by rw [HA.out, ← ht]; exact HD.out)
          have e1 := Lib.hid (numV_t e2.out)
          have HV3 := Lib.hid (show v = valL s.data.toList by rw [HV.out, ht])
          go_wp2
          go_ret2
          rw [e1.out, e2.out, ← HV3.out]
          exact ⟨rfl, rfl⟩
  · have HA := Lib.hid (HW.out (fun h _ => absurd h (by omega)))
    clear hb0 hbt0
    go_in
    go_wp2
    go_loopw [6, 29] (fun a i wr => ∃ k v : Nat, k ≤ s.size ∧ i = .int .i64 k ∧ a = .int .i64 v ∧ Hid (v = valL (s.data.toList.take k)) ∧ v ≤ 100000000 ∧ Hid ((s.data.toList.take k).all isDg = true) ∧ w = wr) (fun _ i _ => s.size - (intOf i).toNat)
    case atStart => exact ⟨0, 0, Nat.zero_le _, rfl, rfl, Lib.hid rfl, by decide, Lib.hid rfl, rfl⟩
    case round =>
      obtain ⟨k, v, hk, rfl, rfl, HV, hv, HD, rfl⟩ := hrel
      by_cases hlt : k < s.size
      · obtain ⟨b, hbk⟩ := data_at s hlt
        have hbt := (bt_data hbk).1
        have hdg := dg_of hbk
        rcases hd : isDg b
        · have e2 := Lib.hid (show numOk s most = false by rw [HA.out]; exact all_take_no hbk hd)
          have e1 := Lib.hid (numV_f e2.out)
          rw [hd] at hdg
          by_cases h48 : PlainAid.bt s k < 48
          · clear hdg hbk hbt
            go_wp2
            go_ret2
            rw [e1.out, e2.out]
            exact ⟨rfl, rfl⟩
          · have h57 : 57 < PlainAid.bt s k := by
              rw [decide_eq_false h48] at hdg
              by_cases h : 57 < PlainAid.bt s k
              · exact h
              · rw [decide_eq_false h] at hdg; cases hdg
            clear hdg hbk hbt
            go_wp2
            go_ret2
            rw [e1.out, e2.out]
            exact ⟨rfl, rfl⟩
        · simp only [isDg, Bool.and_eq_true, decide_eq_true_eq] at hd
          have h48 : ¬ PlainAid.bt s k < 48 := by omega
          have h57 : ¬ 57 < PlainAid.bt s k := by omega
          have hw : IntKind.u8.wrap (PlainAid.bt s k - 48) = PlainAid.bt s k - 48 := by rw [IntKind.wrap_u8]; omega
          have HD2 := Lib.hid (show (s.data.toList.take (k + 1)).all isDg = true by
            rw [take_succ_some hbk, List.all_append, HD.out]; simp [isDg, hd.1, hd.2])
          have HV2 := Lib.hid (show 10 * v + (b.toNat - 48) = valL (s.data.toList.take (k + 1)) by rw [val_step hbk, ← HV.out])
          have hv2 : 10 * v + (b.toNat - 48) ≤ 100000000 := by rw [HV2.out]; exact val_bound hlt HD2.out h8
          have HEQ := Lib.hid (show (10 * (v : Int) + (PlainAid.bt s k - 48)) = ((10 * v + (b.toNat - 48) : Nat) : Int) by omega)
          have hlo : 0 ≤ PlainAid.bt s k - 48 ∧ PlainAid.bt s k - 48 ≤ 9 := by omega
          clear hdg hbk hbt
          go_wp2
          go_roundw
          case rel => exact ⟨k + 1, 10 * v + (b.toNat - 48), by omega, by go_num, congrArg (Value.int .i64) HEQ.out, HV2, hv2, HD2, trivial⟩
          case measure => simp [intOf]; omega
      · obtain rfl : k = s.size := by omega
        have ht : s.data.toList.take s.size = s.data.toList := List.take_of_length_le (by rw [hlen.out]; exact Nat.le_refl _)
        have e2 := Lib.hid (show numOk s most = true by rw [HA.out, ← ht]; exact HD.out)
        have e1 := Lib.hid (numV_t e2.out)
        have HV3 := Lib.hid (show v = valL s.data.toList by rw [HV.out, ht])
        go_wp2
        go_ret2
        rw [e1.out, e2.out, ← HV3.out]
        exact ⟨rfl, rfl⟩
theorem str_ne_empty {s : ByteArray} (h : 0 < s.size) : s.toList.isEmpty = false := by
  rw [ByteArray.toList_eq]
  have : s.data.toList.length = s.size := rfl
  rcases e : s.data.toList with _ | ⟨x, l⟩
  · rw [e] at this; simp at this; omega
  · rfl
def l21Ok (s : ByteArray) : Bool := decide (1 ≤ s.size ∧ s.size ≤ 7) && s.data.toList.all isDg
def l21V (s : ByteArray) : Int := if l21Ok s = true then (valL s.data.toList : Int) else -1
theorem l21V_f {s : ByteArray} (h : l21Ok s = false) : l21V s = -1 := if_neg (by rw [h]; simp)
theorem l21V_t {s : ByteArray} (h : l21Ok s = true) : l21V s = (valL s.data.toList : Int) := if_pos h
set_option maxHeartbeats 2000000 in
set_option maxRecDepth 100000 in
theorem spec_l21Num {s : ByteArray} {w : World} (hz : s.size ≤ 16777216) :
    Calls Tryz.prog 33 #[.string s] w fun e w' => e = .returned (.int .i64 (l21V s)) ∧ w = w' := by
  have HQ : Hid (l21Ok s = (decide (1 ≤ s.size ∧ s.size ≤ 7) && s.data.toList.all isDg)) := Lib.hid rfl
  have hlen : Hid (s.data.toList.length = s.size) := Lib.hid rfl
  have hb := PlainAid.get_bt s
  by_cases h1 : s.size = 0
  · have e1 := Lib.hid (l21V_f (show l21Ok s = false by rw [HQ.out, decide_eq_false (by omega)]; rfl))
    have hs : s = { data := #[] } := by
      apply ByteArray.ext
      exact Array.eq_empty_of_size_eq_zero h1
    clear hb HQ hlen
    subst hs
    go_in
    go_wp2
    go_ret
    rw [e1.out]
    exact ⟨rfl, rfl⟩
  have hne := str_ne_empty (s := s) (by omega)
  by_cases h2 : 7 < s.size
  · have e1 := Lib.hid (l21V_f (show l21Ok s = false by rw [HQ.out, decide_eq_false (by omega)]; rfl))
    have hI : (7 : Int) < (s.size : Int) := by omega
    go_in
    go_wp2
    go_ret
    rw [e1.out]
    exact ⟨rfl, rfl⟩
  have hI : ¬ (7 : Int) < (s.size : Int) := by omega
  have h8 : s.size ≤ 8 := by omega
  have HA := Lib.hid (show l21Ok s = s.data.toList.all isDg by rw [HQ.out, decide_eq_true (by omega)]; rfl)
  go_in
  go_wp2
  go_loopw [3, 4] (fun a i wr => ∃ k v : Nat, k ≤ s.size ∧ i = .int .i64 k ∧ a = .int .i64 v ∧ Hid (v = valL (s.data.toList.take k)) ∧ v ≤ 100000000 ∧ Hid ((s.data.toList.take k).all isDg = true) ∧ w = wr) (fun _ i _ => s.size - (intOf i).toNat)
  case atStart => exact ⟨0, 0, Nat.zero_le _, rfl, rfl, Lib.hid rfl, by decide, Lib.hid rfl, rfl⟩
  case round =>
    obtain ⟨k, v, hk, rfl, rfl, HV, hv, HD, rfl⟩ := hrel
    by_cases hlt : k < s.size
    · obtain ⟨b, hbk⟩ := data_at s hlt
      have hbt := (bt_data hbk).1
      have hdg := dg_of hbk
      rcases hd : isDg b
      · have e1 := Lib.hid (l21V_f (show l21Ok s = false by rw [HA.out]; exact all_take_no hbk hd))
        rw [hd] at hdg
        by_cases h48 : PlainAid.bt s k < 48
        · clear hdg hbk hbt
          go_wp2
          go_ret
          rw [e1.out]
          exact ⟨rfl, rfl⟩
        · have h57 : 57 < PlainAid.bt s k := by
            rw [decide_eq_false h48] at hdg
            by_cases h : 57 < PlainAid.bt s k
            · exact h
            · rw [decide_eq_false h] at hdg; cases hdg
          clear hdg hbk hbt
          go_wp2
          go_ret
          rw [e1.out]
          exact ⟨rfl, rfl⟩
      · simp only [isDg, Bool.and_eq_true, decide_eq_true_eq] at hd
        have h48 : ¬ PlainAid.bt s k < 48 := by omega
        have h57 : ¬ 57 < PlainAid.bt s k := by omega
        have hw : IntKind.u8.wrap (PlainAid.bt s k - 48) = PlainAid.bt s k - 48 := by rw [IntKind.wrap_u8]; omega
        have HD2 := Lib.hid (show (s.data.toList.take (k + 1)).all isDg = true by
          rw [take_succ_some hbk, List.all_append, HD.out]; simp [isDg, hd.1, hd.2])
        have HV2 := Lib.hid (show 10 * v + (b.toNat - 48) = valL (s.data.toList.take (k + 1)) by rw [val_step hbk, ← HV.out])
        have hv2 : 10 * v + (b.toNat - 48) ≤ 100000000 := by rw [HV2.out]; exact val_bound hlt HD2.out h8
        have HEQ := Lib.hid (show (10 * (v : Int) + (PlainAid.bt s k - 48)) = ((10 * v + (b.toNat - 48) : Nat) : Int) by omega)
        have hlo : 0 ≤ PlainAid.bt s k - 48 ∧ PlainAid.bt s k - 48 ≤ 9 := by omega
        clear hdg hbk hbt
        go_wp2
        go_roundw
        case rel => exact ⟨k + 1, 10 * v + (b.toNat - 48), by omega, by go_num, congrArg (Value.int .i64) HEQ.out, HV2, hv2, HD2, trivial⟩
        case measure => simp [intOf]; omega
    · obtain rfl : k = s.size := by omega
      have ht : s.data.toList.take s.size = s.data.toList := List.take_of_length_le (by rw [hlen.out]; exact Nat.le_refl _)
      have e1 := Lib.hid (l21V_t (show l21Ok s = true by rw [HA.out, ← ht]; exact HD.out))
      have HV3 := Lib.hid (show v = valL s.data.toList by rw [HV.out, ht])
      go_wp2
      go_ret
      rw [e1.out, ← HV3.out]
      exact ⟨rfl, rfl⟩
theorem ext_list (s : ByteArray) (a b : Nat) : (s.extract a b).data.toList = (s.data.toList.drop a).take (b - a) := by rw [Lib.extract_data]
theorem spl_hit {c : UInt8} {D : List UInt8} {f k : Nat} (hf : f ≤ k) (hk : D[k]? = some c) (hn : ∀ j, f ≤ j → j < k → D[j]? ≠ some c) : spl c (D.drop f) = (D.drop f).take (k - f) :: spl c (D.drop (k + 1)) := by
  have h1 : (D.drop f)[k - f]? = some c := by rw [List.getElem?_drop, show f + (k - f) = k by omega]; exact hk
  have e := take_drop_at h1
  conv => lhs; rw [e]
  rw [spl_app _ _ (take_clean (fun j hj => by rw [List.getElem?_drop]; exact hn _ (by omega) (by omega))), List.drop_drop, show f + (k - f + 1) = k + 1 by omega]
theorem spl_last {c : UInt8} {D : List UInt8} {f : Nat} (hn : ∀ j, f ≤ j → j < D.length → D[j]? ≠ some c) : spl c (D.drop f) = [D.drop f] := spl_clean _ (not_mem_at fun j hj => by
  rw [List.getElem?_drop] at hj
  have := (List.getElem?_eq_some_iff.1 hj).1
  exact hn _ (by omega) this hj)
set_option maxHeartbeats 2000000 in
set_option maxRecDepth 100000 in
theorem spec_l1Split {s : ByteArray} {c : UInt8} {z : Int} {w : World} (hz : s.size ≤ 1048576) (hc : z = (c.toNat : Int)) :
    Calls Tryz.prog 32 #[.string s, .int .u8 z] w fun e w' => ∃ A' c', e = .returned (.slice A' (splB c s).length c') ∧ Owned strE 1 9 w' w.heap.size A' (splB c s).length c' (splB c s) ∧ Below w.heap.size w w' := by
  subst hc
  have hb := PlainAid.get_bt s
  have hlen : Hid (s.data.toList.length = s.size) := Lib.hid rfl
  go_in
  go_wp2
  go_loopw [5, 6, 7] (fun v f i wr => ∃ (k g m : Nat) (A' : Option Addr) (c' : Nat) (O : List ByteArray), k ≤ s.size ∧ g ≤ k ∧ m ≤ k ∧ i = .int .i64 k ∧ f = .int .i64 g ∧ v = .slice A' m c' ∧ Hid (Owned strE 1 9 wr w.heap.size A' m c' O) ∧ Hid (spl c s.data.toList = O.map (·.data.toList) ++ spl c (s.data.toList.drop g)) ∧ Hid (∀ j, g ≤ j → j < k → s.data.toList[j]? ≠ some c) ∧ Below w.heap.size w wr) (fun _ _ i _ => s.size - (intOf i).toNat)
  case atStart => exact ⟨0, 0, 0, none, 0, [], Nat.zero_le _, Nat.le_refl _, Nat.le_refl _, rfl, rfl, rfl, Lib.hid (Owned.nil strE_len _ _ _), Lib.hid rfl, Lib.hid (fun j h1 h2 => absurd h2 (by omega)), Below.refl _ _⟩
  case round =>
    obtain ⟨k, g, m, A1, c1, O, hk, hgk, hmk, rfl, rfl, rfl, HO, HS, HN, hbr⟩ := hrel
    rename World => wr
    have hszr := hbr.size
    by_cases hlt : k < s.size
    · obtain ⟨b, hbk⟩ := data_at s hlt
      have hbt := (bt_data hbk).1
      by_cases hbc : b = c
      · have heq : (PlainAid.bt s k == (c.toNat : Int)) = true := by rw [hbt, hbc]; simp
        have heq2 : PlainAid.bt s k = (c.toNat : Int) := by rw [hbt, hbc]
        have HB2 := Lib.hid (spl_hit hgk (by rw [hbk, hbc]) HN.out)
        have HS2 := Lib.hid (show spl c s.data.toList = (O ++ [s.extract g k]).map (·.data.toList) ++ spl c (s.data.toList.drop (k + 1)) by
          rw [HS.out, HB2.out, List.map_append, List.map_cons, List.map_nil, ext_list]; simp)
        have hI1 : (g : Int) ≤ (k : Int) := by omega
        have hI2 : (k : Int) ≤ (s.size : Int) := by omega
        clear hbk hbt
        go_wp2_with (first | (at_builtin; go_must ((refine wpList_append_recs Tryz.elStr strE_one rfl (.tmp 19) (.tmp 24) rfl rfl (HO.out.alloc _) rfl (own_lit1_at' strE_len _ 9 (s.extract g k) rfl (Nat.le_refl _)).recs rfl ?_ (by decide) ?_ ?_; (focus (first | omega | (simp only [World.size_alloc]; done) | (simp only [World.size_alloc]; omega) | (simp; done) | (simp; omega))); (simp; omega); intro A3 c3 w6 ho6 hg6 hl6; have hb6 : Below w.heap.size w w6 := (hbr.alloc hszr _).trans (grown_base hg6 (by simp; omega) (fun z hz => (HO.out.range z hz).1))))))
        go_roundw
        case rel => exact ⟨k + 1, k + 1, m + 1, A3, c3, O ++ [s.extract g k], by omega, Nat.le_refl _, by omega, by go_num, by go_num, by go_num, Lib.hid ho6, HS2, Lib.hid (fun j h1 h2 => absurd h2 (by omega)), hb6⟩
        case measure => simp [intOf]; omega
      · have hne0 : ¬ PlainAid.bt s k = (c.toNat : Int) := fun e => hbc (UInt8.toNat_inj.1 (by rw [hbt] at e; omega))
        have heq : (PlainAid.bt s k == (c.toNat : Int)) = false := by simpa using hne0
        have HN2 := Lib.hid (show ∀ j, g ≤ j → j < k + 1 → s.data.toList[j]? ≠ some c from fun j h1 h2 => by
          by_cases e : j < k
          · exact HN.out j h1 e
          · obtain rfl : j = k := by omega
            rw [hbk]; intro e2; injection e2 with e2; exact hbc e2)
        clear hbk hbt
        go_wp2
        go_roundw
        case rel => exact ⟨k + 1, g, m, A1, c1, O, by omega, by omega, by omega, by go_num, rfl, rfl, HO, HS, HN2, hbr⟩
        case measure => simp [intOf]; omega
    · obtain rfl : k = s.size := by omega
      have HL := Lib.hid (spl_last (c := c) (D := s.data.toList) (f := g) (fun j h1 h2 => HN.out j h1 (by rw [← hlen.out]; exact h2)))
      have HF := Lib.hid (show splB c s = O ++ [s.extract g s.size] by
        rw [splB, HS.out, HL.out, List.map_append, List.map_map]
        have : ((fun l : List UInt8 => (⟨l.toArray⟩ : ByteArray)) ∘ fun x : ByteArray => x.data.toList) = id := by
          funext x; apply ByteArray.ext; simp
        rw [this, List.map_id, List.map_cons, List.map_nil]
        congr 2
        apply ByteArray.ext
        rw [← Array.toList_inj]
        rw [ext_list, List.take_of_length_le (by rw [List.length_drop, hlen.out]; exact Nat.le_refl _)])
      have hI1 : (g : Int) ≤ (s.size : Int) := by omega
      go_wp2_with (first | (at_builtin; go_must ((refine wpList_append_recs Tryz.elStr strE_one rfl (.tmp 28) (.tmp 32) rfl rfl (HO.out.alloc _) rfl (own_lit1_at' strE_len _ 9 (s.extract g s.size) rfl (Nat.le_refl _)).recs rfl ?_ (by decide) ?_ ?_; (focus (first | omega | (simp only [World.size_alloc]; done) | (simp only [World.size_alloc]; omega) | (simp; done) | (simp; omega))); (simp; omega); intro A3 c3 w6 ho6 hg6 hl6; have hb6 : Below w.heap.size w w6 := (hbr.alloc hszr _).trans (grown_base hg6 (by simp; omega) (fun z hz => (HO.out.range z hz).1))))))
      go_ret
      have hl := ho6.len
      rw [← HF.out] at ho6 hl
      rw [hl]
      exact ⟨_, _, rfl, ho6, hb6⟩
end Go.Proofs.YthffeljicohpdaaGreatDoor
/- Strikes read off a text: what both sides answer; plain. -/
namespace Go.Proofs.YthffeljicohpdaaGreatDoor
set_option linter.unusedVariables false
set_option linter.unusedSimpArgs false
open Go.ChangeShapes Go.WideShapes Go.ChangeAt Go.RowKit Go.Deep
def hitS (s : ByteArray) (l : List (Int × Int)) : Prop := goodStrikes l = true ∧ stK l l.length = s
theorem hit_list {s : ByteArray} {l : List (Int × Int)} (h : hitS s l) : s.data.toList = stL l := by
  have := stK_list l l.length (Nat.le_refl _)
  rw [List.take_length] at this
  rw [← h.2, this]
theorem lnT_inj {x y : Int × Int} (hx : 0 ≤ x.1 ∧ 0 ≤ x.2) (hy : 0 ≤ y.1 ∧ 0 ≤ y.2) (h : lnT x = lnT y) : x = y := by
  have h1 := spl_line x
  rw [h, spl_line] at h1
  injection h1 with h1 h2
  injection h2 with h2 _
  have e1 := congrArg valL h1
  have e2 := congrArg valL h2
  rw [dec_val _ _ (Nat.le_refl _), dec_val _ _ (Nat.le_refl _)] at e1 e2
  exact Prod.ext (by omega) (by omega)
theorem map_lnT_inj : ∀ {l m : List (Int × Int)}, (∀ x ∈ l, 0 ≤ x.1 ∧ 0 ≤ x.2) → (∀ x ∈ m, 0 ≤ x.1 ∧ 0 ≤ x.2) → l.map lnT = m.map lnT → l = m
  | [], [], _, _, _ => rfl
  | [], y :: m, _, _, h => by cases h
  | x :: l, [], _, _, h => by cases h
  | x :: l, y :: m, hl, hm, h => by
    rw [List.map_cons, List.map_cons] at h
    injection h with h1 h2
    rw [lnT_inj (hl x (List.mem_cons_self ..)) (hm y (List.mem_cons_self ..)) h1, map_lnT_inj (fun z hz => hl z (List.mem_cons_of_mem _ hz)) (fun z hz => hm z (List.mem_cons_of_mem _ hz)) h2]
theorem hit_uniq {s : ByteArray} {l m : List (Int × Int)} (h : hitS s l) (g : hitS s m) : l = m := by
  have h1 := spl_text l
  rw [← hit_list h, hit_list g, spl_text] at h1
  have h2 := List.append_cancel_right h1
  exact map_lnT_inj (fun x hx => by have := (goodStrikes_t h.1).2 x hx; omega) (fun x hx => by have := (goodStrikes_t g.1).2 x hx; omega) h2.symm
noncomputable def rsR (s : ByteArray) : List (Int × Int) := by
  classical exact if h : ∃ l, hitS s l then h.choose else []
noncomputable def rsOk (s : ByteArray) : Bool := by
  classical exact if _h : ∃ l, hitS s l then true else false
theorem rs_yes {s : ByteArray} {l : List (Int × Int)} (h : hitS s l) : rsR s = l ∧ rsOk s = true := by
  have he : ∃ l, hitS s l := ⟨l, h⟩
  exact ⟨by rw [rsR, dif_pos he]; exact hit_uniq he.choose_spec h, by rw [rsOk, dif_pos he]⟩
theorem rs_no {s : ByteArray} (h : ¬ ∃ l, hitS s l) : rsR s = [] ∧ rsOk s = false := ⟨by rw [rsR, dif_neg h], by rw [rsOk, dif_neg h]⟩
def lnB (x : Int × Int) : ByteArray := ⟨(lnT x).toArray⟩
theorem hit_pieces {s : ByteArray} {l : List (Int × Int)} (h : hitS s l) : splB 10 s = l.map lnB ++ [⟨#[]⟩] := by
  rw [splB, hit_list h, spl_text, List.map_append, List.map_map]; rfl
/-- What stands ahead of a byte and behind it. -/
theorem cut_line (x : Int × Int) : Lib.cut (lnB x).data.toList (⟨#[64]⟩ : ByteArray).data.toList = (Lib.decDigits x.1.toNat, Lib.decDigits x.2.toNat, true) := by
  have hn : (64 : UInt8) ∉ Lib.decDigits x.1.toNat := dec_no (by decide)
  show Lib.cut (lnT x) [64] = _
  rw [lnT]
  generalize Lib.decDigits x.1.toNat = a at hn ⊢
  generalize Lib.decDigits x.2.toNat = b
  have hi : Lib.index (a ++ 64 :: b) [64] = (a.length : Int) := by
    rw [Lib.index_one]
    have key : ∀ a : List UInt8, (64 : UInt8) ∉ a → Lib.indexByte (a ++ 64 :: b) 64 = (a.length : Int) := by
      intro a
      induction a with
      | nil => intro _; rfl
      | cons y a ih =>
        intro hy
        have h1 : (y == 64) = false := by
          rw [beq_eq_false_iff_ne]; exact fun e => hy (by rw [e]; exact List.mem_cons_self ..)
        have h2 := ih (fun e => hy (List.mem_cons_of_mem _ e))
        have h3 : ((a.length : Int) == -1) = false := by rw [beq_eq_false_iff_ne]; omega
        rw [List.cons_append, Lib.indexByte, h1, h2, h3]
        simp
    exact key a hn
  rw [Lib.cut, if_pos (by rw [hi]; omega), hi]
  have e : ((a.length : Int)).toNat = a.length := rfl
  rw [e, List.take_left']
  · have e2 : ([64] : List UInt8).length = 1 := rfl
    rw [e2, List.drop_append]
    simp
  · rfl
theorem cut_back {y : List UInt8} (h : (Lib.cut y [64]).2.2 = true) : y = (Lib.cut y [64]).1 ++ 64 :: (Lib.cut y [64]).2.1 := by
  rw [Lib.cut] at h ⊢
  split at h
  · rename_i h0
    rw [if_pos h0]
    obtain ⟨i, hi⟩ := Int.eq_ofNat_of_zero_le h0
    have hi' := hi
    rw [Lib.index_one] at hi'
    obtain ⟨h2, _⟩ := Lib.indexByte_some hi'
    rw [hi]
    have e : ((i : Int)).toNat = i := rfl
    have e2 : ([64] : List UInt8).length = 1 := rfl
    rw [e, e2]
    exact take_drop_at h2
  · cases h
/-- Canonical lines joined are the text. -/
theorem text_of_lines {s : ByteArray} {ps : List ByteArray} {z : ByteArray} {L : List (Int × Int)} (hp : splB 10 s = ps ++ [z]) (hz : z.toList.isEmpty = true) (hL : ps.map (·.data.toList) = L.map lnT) (hg : goodStrikes L = true) : hitS s L := by
  obtain ⟨qs, y, h1, h2⟩ := spl_join s.data.toList
  rw [splB, h1, List.map_append, List.map_cons, List.map_nil] at hp
  have hlen := congrArg List.length hp
  simp only [List.length_append, List.length_map, List.length_singleton] at hlen
  obtain ⟨e1, e2⟩ := List.append_inj hp (by simp; omega)
  have hy : y = [] := by
    injection e2 with e2 _
    rw [ByteArray.toList_eq, ← e2] at hz
    simpa using hz
  have hq : qs = L.map lnT := by
    rw [← hL, ← e1, List.map_map]
    conv => lhs; rw [← List.map_id qs]
    congr 1
  refine ⟨hg, ?_⟩
  apply ByteArray.ext
  rw [← Array.toList_inj]
  have := stK_list L L.length (Nat.le_refl _)
  rw [List.take_length] at this
  rw [this, h2, hy, List.append_nil, jnL_text qs L hq]
theorem num_dec {a : Nat} {most : Int} (h : ((Lib.decDigits a).length : Int) ≤ most) : numOk ⟨(Lib.decDigits a).toArray⟩ most = true ∧ numV ⟨(Lib.decDigits a).toArray⟩ most = (a : Int) := by
  have e : (⟨(Lib.decDigits a).toArray⟩ : ByteArray).data.toList = Lib.decDigits a := rfl
  have e2 : (⟨(Lib.decDigits a).toArray⟩ : ByteArray).size = (Lib.decDigits a).length := by simp [ByteArray.size]
  have h1 : numOk ⟨(Lib.decDigits a).toArray⟩ most = true := by
    rw [numOk, e2, decide_eq_true h, e, dec_canon]; rfl
  exact ⟨h1, by rw [numV_t h1, e, dec_val _ _ (Nat.le_refl _)]⟩
theorem l21_dec {a : Nat} (h : (Lib.decDigits a).length ≤ 7) : l21V ⟨(Lib.decDigits a).toArray⟩ = (a : Int) := by
  have e : (⟨(Lib.decDigits a).toArray⟩ : ByteArray).data.toList = Lib.decDigits a := rfl
  have e2 : (⟨(Lib.decDigits a).toArray⟩ : ByteArray).size = (Lib.decDigits a).length := by simp [ByteArray.size]
  have h0 : 1 ≤ (Lib.decDigits a).length := by rw [Lib.decDigits_length]; exact Lib.nDigits_pos a
  have h1 : l21Ok ⟨(Lib.decDigits a).toArray⟩ = true := by
    rw [l21Ok, e2, decide_eq_true ⟨h0, h⟩, e, dec_all _ _ (Nat.le_refl _)]; rfl
  rw [l21V_t h1, e, dec_val _ _ (Nat.le_refl _)]
theorem dec_len1 {a : Nat} (h : a ≤ 9) : (Lib.decDigits a).length = 1 := by rw [Lib.decDigits_one (by omega)]; rfl
theorem dec_len7 {b : Nat} (h : b ≤ 1000000) : (Lib.decDigits b).length ≤ 7 := by
  have := decS_size 6 b (by omega)
  have e2 : (decS b).size = (Lib.decDigits b).length := by simp [decS, ByteArray.size]
  omega
theorem l21_bd (s : ByteArray) : -1 ≤ l21V s ∧ l21V s ≤ 10000000 := by
  rcases h : l21Ok s
  · rw [l21V_f h]; omega
  · rw [l21V_t h]
    rw [l21Ok, Bool.and_eq_true, decide_eq_true_eq] at h
    have h1 := valL_lt s.size s.data.toList rfl h.2
    have h2 : 10 ^ s.size ≤ 10 ^ 7 := Nat.pow_le_pow_right (by decide) h.1.2
    omega
theorem numV_bd {s : ByteArray} {most : Int} (h : numOk s most = true) (hm : most ≤ 7) : 0 ≤ numV s most ∧ numV s most ≤ 10000000 ∧ Lib.decDigits (numV s most).toNat = s.data.toList := by
  rw [numV_t h]
  rw [numOk, Bool.and_eq_true, decide_eq_true_eq] at h
  have hc := h.2
  rw [canon] at hc
  simp only [Bool.and_eq_true] at hc
  have h1 := valL_lt s.size s.data.toList rfl hc.2.2
  have h2 : 10 ^ s.size ≤ 10 ^ 7 := Nat.pow_le_pow_right (by decide) (by omega)
  exact ⟨by omega, by omega, canon_dec h.2⟩
end Go.Proofs.YthffeljicohpdaaGreatDoor
/-
  DERIVED: THE SHELF's CONTRACTS AT THIS DUMP, IN PLAIN WORDS (tools/lay-plain.mjs out of 'YthffeljicohpdaaGreatDoorShelf.lean', which tools/lay-shelf.mjs wrote): THE SAME DECLARATIONS UNDER THE SAME NAMES: 'import', 'namespace', 'open', 'def', 'theorem' AND NOTHING ELSE: no command of the shelf's: FOR A HAND-IN. Each laying: the table of numbers ('.._ren') and one theorem, a field a fact of the dump's own or the kernel's comparison; each contract: ONE APPLICATION.
-/
namespace Go.Proofs
open Go.Shelf
def Tryz.lays169_ren : Go.Shelf.Ren := ⟨fun | 169 => 42 | n => n, fun | 70 => 66 | 9 => 9 | 0 => 0 | 72 => 68 | 37 => 22 | 127 => 84 | 3 => 3 | 5 => 5 | n => n, fun | n => n⟩
theorem Tryz.lays169 : Go.Proofs.Lays.n169 Tryz.prog Tryz.lays169_ren := {
  mixed := by kernel_rfl
  f169 := Tryz.func42.trans (congrArg some (by kernel_rfl))
  t0 := Tryz.underlying0
  a0 := Tryz.isAgg0
  z0 := Tryz.sizeOf0
  v0 := Tryz.zeroValue0
  t3 := Tryz.underlying3
  a3 := Tryz.isAgg3
  z3 := Tryz.sizeOf3
  v3 := Tryz.zeroValue3
  t9 := Tryz.underlying9
  a9 := Tryz.isAgg9
  z9 := Tryz.sizeOf9
  v9 := Tryz.zeroValue9
  t37 := Tryz.underlying22
  a37 := Tryz.isAgg22
  z37 := Tryz.sizeOf22
  v37 := Tryz.zeroValue22
  t70 := Tryz.underlying66
  a70 := Tryz.isAgg66
  z70 := Tryz.sizeOf66
  v70 := Tryz.zeroValue66
  t72 := Tryz.underlying68
  a72 := Tryz.isAgg68
  z72 := Tryz.sizeOf68
  v72 := Tryz.zeroValue68
  t127 := Tryz.underlying84
  a127 := Tryz.isAgg84
  z127 := Tryz.sizeOf84
  v127 := Tryz.zeroValue84 }
theorem Tryz.Builder_Extra_169 : Builder.Extra Tryz.prog Tryz.lays169_ren := {
  sizeBuilder := by kernel_rfl
  liesBuilder := by kernel_rfl
  t5 := Tryz.underlying5
  a5 := Tryz.isAgg5
  z5 := Tryz.sizeOf5
  v5 := Tryz.zeroValue5
  infoByte := by kernel_rfl
  cellsByte := by kernel_rfl
  sizeByte := by kernel_rfl
  neB5 := by decide }
open Go.RowKit in
/-- (*strings.Builder).String: "String returns the accumulated string.": OF A BUILDER THAT HOLDS AT LEAST ONE BYTE. ✋ THE MODEL FREEZES THOSE BYTES IN THE BUFFER (unsafe.String): a later write INTO them ends the model's run without an answer; a later append BEHIND them goes on. The statement's order of evaluation is drawn: one draw. (LAID: no walk: one application.) -/
theorem Tryz.Builder_String (B b : Nat) (l : List UInt8) (w : World) (h : Lib.IsBuilder 68 5 B b (Lib.byteCells l) w) (h0 : l ≠ []) :
    Calls Tryz.prog 42 #[.pointer (some ⟨b, 0, none⟩)] w fun e w' => e = .returned (.string ⟨l.toArray⟩) ∧ Below B w w' := Any.Builder_String Tryz.lays169 Tryz.Builder_Extra_169 B b l w h h0
open Go.RowKit in
/-- (*strings.Builder).String OF A BUILDER THAT HOLDS NO BYTE: the empty string. (Its buffer is nil, or a row of which it has taken nothing yet; where that row has NO capacity the model lays one new block for unsafe.SliceData's 'some address'.) One draw. (LAID: no walk: one application.) -/
theorem Tryz.Builder_String_empty (B b : Nat) (w : World) (h : Lib.IsBuilder 68 5 B b [] w) (hBw : B ≤ w.heap.size) :
    Calls Tryz.prog 42 #[.pointer (some ⟨b, 0, none⟩)] w fun e w' => e = .returned (.string ⟨#[]⟩) ∧ Below B w w' := Any.Builder_String_empty Tryz.lays169 Tryz.Builder_Extra_169 B b w h hBw
open Go.RowKit in
/-- (*strings.Builder).String: "String returns the accumulated string.": WHATEVER THE BUILDER HOLDS. (LAID: no walk: one application.) -/
theorem Tryz.Builder_String_any (B b : Nat) (l : List UInt8) (w : World) (h : Lib.IsBuilder 68 5 B b (Lib.byteCells l) w) (hBw : B ≤ w.heap.size) :
    Calls Tryz.prog 42 #[.pointer (some ⟨b, 0, none⟩)] w fun e w' => e = .returned (.string ⟨l.toArray⟩) ∧ Below B w w' := Any.Builder_String_any Tryz.lays169 Tryz.Builder_Extra_169 B b l w h hBw
open Go.RowKit in
/-- (*strings.Builder).String: "String returns the accumulated string.": OF A BUILDER THAT HOLDS AT LEAST ONE BYTE. ✋ THE MODEL FREEZES THOSE BYTES IN THE BUFFER (unsafe.String): a later write INTO them ends the model's run without an answer; a later append BEHIND them goes on. The statement's order of evaluation is drawn: one draw. THE FORM '_f': IT SAYS BESIDES THAT THE BUILDER IS A BUILDER STILL ('Lib.IsBuilderF', the same bytes): SO IT CAN BE WRITTEN ON: 'b.WriteString(b.String()[:k])'. (LAID: no walk: one application.) -/
theorem Tryz.Builder_String_f (B b : Nat) (l : List UInt8) (w : World) (h : Lib.IsBuilderF 68 5 B b (Lib.byteCells l) w) (h0 : l ≠ []) :
    Calls Tryz.prog 42 #[.pointer (some ⟨b, 0, none⟩)] w fun e w' => e = .returned (.string ⟨l.toArray⟩) ∧ (Lib.IsBuilderF 68 5 B b (Lib.byteCells l) w' ∧ Below B w w') := Any.Builder_String_f Tryz.lays169 Tryz.Builder_Extra_169 B b l w h h0
open Go.RowKit in
/-- (*strings.Builder).String OF A BUILDER THAT HOLDS NO BYTE: the empty string; THE FORM '_f': a builder still. (LAID: no walk: one application.) -/
theorem Tryz.Builder_String_empty_f (B b : Nat) (w : World) (h : Lib.IsBuilderF 68 5 B b [] w) (hBw : B ≤ w.heap.size) :
    Calls Tryz.prog 42 #[.pointer (some ⟨b, 0, none⟩)] w fun e w' => e = .returned (.string ⟨#[]⟩) ∧ (Lib.IsBuilderF 68 5 B b [] w' ∧ Below B w w') := Any.Builder_String_empty_f Tryz.lays169 Tryz.Builder_Extra_169 B b w h hBw
open Go.RowKit in
/-- (*strings.Builder).String: "String returns the accumulated string.": WHATEVER THE BUILDER HOLDS; THE FORM '_f': OF A BUILDER THAT MAY HAVE BEEN READ BEFORE; AND IT IS A BUILDER STILL, holding the same bytes: it can be written on. (LAID: no walk: one application.) -/
theorem Tryz.Builder_String_any_f (B b : Nat) (l : List UInt8) (w : World) (h : Lib.IsBuilderF 68 5 B b (Lib.byteCells l) w) (hBw : B ≤ w.heap.size) :
    Calls Tryz.prog 42 #[.pointer (some ⟨b, 0, none⟩)] w fun e w' => e = .returned (.string ⟨l.toArray⟩) ∧ (Lib.IsBuilderF 68 5 B b (Lib.byteCells l) w' ∧ Below B w w') := Any.Builder_String_any_f Tryz.lays169 Tryz.Builder_Extra_169 B b l w h hBw
open Go.RowKit in
/-- (*strings.Builder).String: "String returns the accumulated string.": OF A BUILDER THAT HOLDS AT LEAST ONE BYTE. ✋ THE MODEL FREEZES THOSE BYTES IN THE BUFFER (unsafe.String): a later write INTO them ends the model's run without an answer; a later append BEHIND them goes on. The statement's order of evaluation is drawn: one draw. THE FORM '_k': OVER 'Lib.IsBuilderF' (a builder that 'String()' may have read), AND WITH THE FRAME THAT REACHES ABOVE THE BUILDER: 'Lib.OthersKept': every block that is not b and is no row of uint8's stands as it stood: the iterator of a range among them. (LAID: no walk: one application.) -/
theorem Tryz.Builder_String_k (B b : Nat) (l : List UInt8) (w : World) (h : Lib.IsBuilderF 68 5 B b (Lib.byteCells l) w) (h0 : l ≠ []) :
    Calls Tryz.prog 42 #[.pointer (some ⟨b, 0, none⟩)] w fun e w' => e = .returned (.string ⟨l.toArray⟩) ∧ (Lib.IsBuilderF 68 5 B b (Lib.byteCells l) w' ∧ Below B w w' ∧ Lib.OthersKept 5 (some b) w w') := Any.Builder_String_k Tryz.lays169 Tryz.Builder_Extra_169 B b l w h h0
open Go.RowKit in
/-- (*strings.Builder).String OF A BUILDER THAT HOLDS NO BYTE: the empty string; THE FORM '_k': OVER 'Lib.IsBuilderF' (a builder that 'String()' may have read), AND WITH THE FRAME THAT REACHES ABOVE THE BUILDER: 'Lib.OthersKept': every block that is not b and is no row of uint8's stands as it stood: the iterator of a range among them. (LAID: no walk: one application.) -/
theorem Tryz.Builder_String_empty_k (B b : Nat) (w : World) (h : Lib.IsBuilderF 68 5 B b [] w) (hBw : B ≤ w.heap.size) :
    Calls Tryz.prog 42 #[.pointer (some ⟨b, 0, none⟩)] w fun e w' => e = .returned (.string ⟨#[]⟩) ∧ (Lib.IsBuilderF 68 5 B b [] w' ∧ Below B w w' ∧ Lib.OthersKept 5 (some b) w w') := Any.Builder_String_empty_k Tryz.lays169 Tryz.Builder_Extra_169 B b w h hBw
open Go.RowKit in
/-- (*strings.Builder).String: "String returns the accumulated string.": WHATEVER THE BUILDER HOLDS; THE FORM '_k': OVER 'Lib.IsBuilderF' (a builder that 'String()' may have read), AND WITH THE FRAME THAT REACHES ABOVE THE BUILDER: 'Lib.OthersKept': every block that is not b and is no row of uint8's stands as it stood: the iterator of a range among them. (LAID: no walk: one application.) -/
theorem Tryz.Builder_String_any_k (B b : Nat) (l : List UInt8) (w : World) (h : Lib.IsBuilderF 68 5 B b (Lib.byteCells l) w) (hBw : B ≤ w.heap.size) :
    Calls Tryz.prog 42 #[.pointer (some ⟨b, 0, none⟩)] w fun e w' => e = .returned (.string ⟨l.toArray⟩) ∧ (Lib.IsBuilderF 68 5 B b (Lib.byteCells l) w' ∧ Below B w w' ∧ Lib.OthersKept 5 (some b) w w') := Any.Builder_String_any_k Tryz.lays169 Tryz.Builder_Extra_169 B b l w h hBw
def Tryz.laysM171_ren : Go.Shelf.Ren := ⟨fun | 171 => 52 | 243 => 62 | 246 => 77 | 283 => 92 | 284 => 93 | 285 => 94 | 286 => 95 | 129 => 103 | 317 => 102 | 318 => 104 | 319 => 105 | 320 => 106 | 337 => 111 | 338 => 112 | n => n, fun | 3 => 3 | 9 => 9 | 2 => 2 | 4 => 4 | 171 => 115 | 0 => 0 | 53 => 52 | 37 => 22 | 5 => 5 | 173 => 118 | 212 => 123 | 51 => 107 | 20 => 20 | 213 => 124 | 46 => 95 | 232 => 137 | 233 => 138 | n => n, fun | 17 => 1 | 18 => 4 | 19 => 5 | n => n⟩
theorem Tryz.laysM171 : Go.Proofs.LaysM.n171 Tryz.prog Tryz.laysM171_ren := {
  mixed := by kernel_rfl
  f129 := Tryz.func103.trans (congrArg some (by kernel_rfl))
  f171 := Tryz.func52.trans (congrArg some (by kernel_rfl))
  f243 := Tryz.func62.trans (congrArg some (by kernel_rfl))
  f246 := Tryz.func77.trans (congrArg some (by kernel_rfl))
  f283 := Tryz.func92.trans (congrArg some (by kernel_rfl))
  f284 := Tryz.func93.trans (congrArg some (by kernel_rfl))
  f285 := Tryz.func94.trans (congrArg some (by kernel_rfl))
  f286 := Tryz.func95.trans (congrArg some (by kernel_rfl))
  f317 := Tryz.func102.trans (congrArg some (by kernel_rfl))
  f318 := Tryz.func104.trans (congrArg some (by kernel_rfl))
  f319 := Tryz.func105.trans (congrArg some (by kernel_rfl))
  f320 := Tryz.func106.trans (congrArg some (by kernel_rfl))
  f337 := Tryz.func111.trans (congrArg some (by kernel_rfl))
  f338 := Tryz.func112.trans (congrArg some (by kernel_rfl))
  t0 := Tryz.underlying0
  a0 := Tryz.isAgg0
  z0 := Tryz.sizeOf0
  v0 := Tryz.zeroValue0
  t2 := Tryz.underlying2
  a2 := Tryz.isAgg2
  z2 := Tryz.sizeOf2
  v2 := Tryz.zeroValue2
  t3 := Tryz.underlying3
  a3 := Tryz.isAgg3
  z3 := Tryz.sizeOf3
  v3 := Tryz.zeroValue3
  t4 := Tryz.underlying4
  a4 := Tryz.isAgg4
  z4 := Tryz.sizeOf4
  v4 := Tryz.zeroValue4
  t5 := Tryz.underlying5
  a5 := Tryz.isAgg5
  z5 := Tryz.sizeOf5
  v5 := Tryz.zeroValue5
  t9 := Tryz.underlying9
  a9 := Tryz.isAgg9
  z9 := Tryz.sizeOf9
  v9 := Tryz.zeroValue9
  t20 := Tryz.underlying20
  a20 := Tryz.isAgg20
  z20 := Tryz.sizeOf20
  v20 := Tryz.zeroValue20
  t37 := Tryz.underlying22
  a37 := Tryz.isAgg22
  z37 := Tryz.sizeOf22
  v37 := Tryz.zeroValue22
  t46 := Tryz.underlying95
  a46 := Tryz.isAgg95
  z46 := Tryz.sizeOf95
  v46 := Tryz.zeroValue95
  t51 := Tryz.underlying107
  a51 := Tryz.isAgg107
  z51 := Tryz.sizeOf107
  v51 := Tryz.zeroValue107
  t53 := Tryz.underlying52
  a53 := Tryz.isAgg52
  z53 := Tryz.sizeOf52
  v53 := Tryz.zeroValue52
  t171 := Tryz.underlying115
  a171 := Tryz.isAgg115
  z171 := Tryz.sizeOf115
  v171 := Tryz.zeroValue115
  t173 := Tryz.underlying118
  a173 := Tryz.isAgg118
  z173 := Tryz.sizeOf118
  v173 := Tryz.zeroValue118
  t212 := Tryz.underlying123
  a212 := Tryz.isAgg123
  z212 := Tryz.sizeOf123
  v212 := Tryz.zeroValue123
  t213 := Tryz.underlying124
  a213 := Tryz.isAgg124
  z213 := Tryz.sizeOf124
  t232 := Tryz.underlying137
  a232 := Tryz.isAgg137
  z232 := Tryz.sizeOf137
  v232 := Tryz.zeroValue137
  t233 := Tryz.underlying138
  a233 := Tryz.isAgg138
  z233 := Tryz.sizeOf138
  v233 := Tryz.zeroValue138
  g17 := by kernel_rfl
  g18 := by kernel_rfl
  g19 := by kernel_rfl
  i0 := by kernel_rfl
  i2 := by kernel_rfl
  i3 := by kernel_rfl
  i4 := by kernel_rfl
  i5 := by kernel_rfl
  i9 := by kernel_rfl
  i20 := by kernel_rfl
  i37 := by kernel_rfl
  i46 := by kernel_rfl
  i51 := by kernel_rfl
  i53 := by kernel_rfl
  i171 := by kernel_rfl
  i173 := by kernel_rfl
  i212 := by kernel_rfl
  i232 := by kernel_rfl
  i233 := by kernel_rfl
  m17 := by kernel_rfl
  m18 := by kernel_rfl
  m19 := by kernel_rfl }
open Go.RowKit Go.Sort Go.Lib in
/-- strconv.Itoa: "Itoa is equivalent to FormatInt(int64(i), 10).": i's DECIMAL NUMERAL ('Lib.itoa': a '-' where i is negative, then the digits), FOR EVERY int. The world behind the call: the world before it, new blocks behind the heap (the library's 'var a [24]byte'), draws. (LAID: no walk: one application.) -/
theorem Tryz.strconv_Itoa (n : Int) (h0 : -9223372036854775808 ≤ n) (h1 : n ≤ 9223372036854775807) (w : World) (htab : Lib.TabIs Tryz.prog w "internal/strconv.uint64pow10" .u64 Lib.pow10Tab) :
    Calls Tryz.prog 52 #[.int .i64 n] w fun e w' => e = .returned (.string ⟨(Lib.itoa n).toArray⟩) ∧ ∃ k os, w' = grow (w.drewN k) os := Any.strconv_Itoa Tryz.laysM171 n h0 h1 w htab
def Tryz.lays171_ren : Go.Shelf.Ren := ⟨fun | 171 => 52 | 243 => 62 | 246 => 77 | 283 => 92 | 284 => 93 | 285 => 94 | 286 => 95 | 129 => 103 | 317 => 102 | 318 => 104 | 319 => 105 | 320 => 106 | 337 => 111 | 338 => 112 | n => n, fun | 3 => 3 | 9 => 9 | 2 => 2 | 4 => 4 | 171 => 115 | 0 => 0 | 53 => 52 | 37 => 22 | 5 => 5 | 173 => 118 | 212 => 123 | 51 => 107 | 20 => 20 | 213 => 124 | 46 => 95 | 232 => 137 | 233 => 138 | n => n, fun | 17 => 1 | 18 => 4 | 19 => 5 | n => n⟩
theorem Tryz.lays171 : Go.Proofs.Lays.n171 Tryz.prog Tryz.lays171_ren := {
  mixed := by kernel_rfl
  f129 := Tryz.func103.trans (congrArg some (by kernel_rfl))
  f171 := Tryz.func52.trans (congrArg some (by kernel_rfl))
  f243 := Tryz.func62.trans (congrArg some (by kernel_rfl))
  f246 := Tryz.func77.trans (congrArg some (by kernel_rfl))
  f283 := Tryz.func92.trans (congrArg some (by kernel_rfl))
  f284 := Tryz.func93.trans (congrArg some (by kernel_rfl))
  f285 := Tryz.func94.trans (congrArg some (by kernel_rfl))
  f286 := Tryz.func95.trans (congrArg some (by kernel_rfl))
  f317 := Tryz.func102.trans (congrArg some (by kernel_rfl))
  f318 := Tryz.func104.trans (congrArg some (by kernel_rfl))
  f319 := Tryz.func105.trans (congrArg some (by kernel_rfl))
  f320 := Tryz.func106.trans (congrArg some (by kernel_rfl))
  f337 := Tryz.func111.trans (congrArg some (by kernel_rfl))
  f338 := Tryz.func112.trans (congrArg some (by kernel_rfl))
  t0 := Tryz.underlying0
  a0 := Tryz.isAgg0
  z0 := Tryz.sizeOf0
  v0 := Tryz.zeroValue0
  t2 := Tryz.underlying2
  a2 := Tryz.isAgg2
  z2 := Tryz.sizeOf2
  v2 := Tryz.zeroValue2
  t3 := Tryz.underlying3
  a3 := Tryz.isAgg3
  z3 := Tryz.sizeOf3
  v3 := Tryz.zeroValue3
  t4 := Tryz.underlying4
  a4 := Tryz.isAgg4
  z4 := Tryz.sizeOf4
  v4 := Tryz.zeroValue4
  t5 := Tryz.underlying5
  a5 := Tryz.isAgg5
  z5 := Tryz.sizeOf5
  v5 := Tryz.zeroValue5
  t9 := Tryz.underlying9
  a9 := Tryz.isAgg9
  z9 := Tryz.sizeOf9
  v9 := Tryz.zeroValue9
  t20 := Tryz.underlying20
  a20 := Tryz.isAgg20
  z20 := Tryz.sizeOf20
  v20 := Tryz.zeroValue20
  t37 := Tryz.underlying22
  a37 := Tryz.isAgg22
  z37 := Tryz.sizeOf22
  v37 := Tryz.zeroValue22
  t46 := Tryz.underlying95
  a46 := Tryz.isAgg95
  z46 := Tryz.sizeOf95
  v46 := Tryz.zeroValue95
  t51 := Tryz.underlying107
  a51 := Tryz.isAgg107
  z51 := Tryz.sizeOf107
  v51 := Tryz.zeroValue107
  t53 := Tryz.underlying52
  a53 := Tryz.isAgg52
  z53 := Tryz.sizeOf52
  v53 := Tryz.zeroValue52
  t171 := Tryz.underlying115
  a171 := Tryz.isAgg115
  z171 := Tryz.sizeOf115
  v171 := Tryz.zeroValue115
  t173 := Tryz.underlying118
  a173 := Tryz.isAgg118
  z173 := Tryz.sizeOf118
  v173 := Tryz.zeroValue118
  t212 := Tryz.underlying123
  a212 := Tryz.isAgg123
  z212 := Tryz.sizeOf123
  v212 := Tryz.zeroValue123
  t213 := Tryz.underlying124
  a213 := Tryz.isAgg124
  z213 := Tryz.sizeOf124
  t232 := Tryz.underlying137
  a232 := Tryz.isAgg137
  z232 := Tryz.sizeOf137
  v232 := Tryz.zeroValue137
  t233 := Tryz.underlying138
  a233 := Tryz.isAgg138
  z233 := Tryz.sizeOf138
  v233 := Tryz.zeroValue138
  g17 := by kernel_rfl
  g18 := by kernel_rfl
  g19 := by kernel_rfl }
open Go.RowKit Go.Sort Go.Lib in
/-- THE ROAD WITHOUT THE TABLE: 0 <= i < 100: NO PREMISE ON THE WORLD, AND THE WORLD IS AS IT WAS: a row that keeps its argument in that range need list no table ('laid = []'). (LAID: no walk: one application.) -/
theorem Tryz.strconv_Itoa_small (i : Nat) (hi : i < 100) (w : World) :
    Calls Tryz.prog 52 #[.int .i64 i] w fun e w' => e = .returned (.string ⟨(Lib.decDigits i).toArray⟩) ∧ w' = w := Any.strconv_Itoa_small Tryz.lays171 i hi w
end Go.Proofs
/- The program's decimal text of a number. -/
namespace Go.Proofs.YthffeljicohpdaaGreatDoor
set_option linter.unusedVariables false
set_option linter.unusedSimpArgs false
open Go.ChangeShapes Go.WideShapes Go.ChangeAt Go.RowKit Go.Deep
theorem impl_decimal_s {i : Nat} {w : World} (hi : i < 100) :
    Calls Tryz.prog 41 #[.int .i64 (i : Int)] w fun e w' => e = .returned (.string (decS i)) ∧ w = w' := by
  go_in
  go_wp2_with (first | (go_at_call 52; refine (Tryz.strconv_Itoa_small i hi _).mono ?_; rintro e w' ⟨rfl, rfl⟩))
  go_ret
  exact ⟨rfl, rfl⟩
theorem impl_decimal_1 {x : Int} {w : World} (h0 : 0 ≤ x) (h9 : x ≤ 9) :
    Calls Tryz.prog 41 #[.int .i64 x] w fun e w' => e = .returned (.string (dig1 x)) ∧ Below w.heap.size w w' := by
  obtain ⟨i, rfl⟩ := Int.eq_ofNat_of_zero_le h0
  refine (impl_decimal_s (i := i) (by omega)).mono ?_
  rintro e w' ⟨rfl, rfl⟩
  exact ⟨by rw [decS_small (by omega)], Below.refl _ _⟩
theorem impl_decimal {n : Nat} {w : World} (hn : n ≤ 1000000000000) (htab : Lib.TabIs Tryz.prog w "internal/strconv.uint64pow10" .u64 Lib.pow10Tab) :
    Calls Tryz.prog 41 #[.int .i64 (n : Int)] w fun e w' => e = .returned (.string (decS n)) ∧ Below w.heap.size w w' := by
  have he : (⟨(Lib.itoa (n : Int)).toArray⟩ : ByteArray) = decS n := by rw [Lib.itoa, if_neg (by omega)]; rfl
  go_in
  go_wp2_with (first | (go_at_call 52; refine (Tryz.strconv_Itoa (n : Int) (by omega) (by omega) _ htab).mono ?_; rw [he]; rintro e w' ⟨rfl, k, os, rfl⟩))
  go_ret
  exact ⟨rfl, Lib.below_grow _ _ (Nat.le_refl _) k os⟩
end Go.Proofs.YthffeljicohpdaaGreatDoor
/- The library's Builder at this seat, laid by hand: a program without strings.Join. -/
namespace Go.Proofs
open Go.Shelf
def Tryz.lays166v_ren : Go.Shelf.Ren := ⟨fun | 166 => 40 | 240 => 51 | 276 => 61 | n => n, fun | 0 => 0 | 3 => 3 | 4 => 4 | 5 => 5 | 9 => 9 | 20 => 20 | 37 => 22 | 70 => 66 | 72 => 68 | 75 => 70 | 80 => 74 | 164 => 91 | n => n, fun | n => n⟩
theorem Tryz.lays166w : Go.Proofs.Lays.n166 Tryz.prog Tryz.lays166v_ren := {
  mixed := by kernel_rfl
  f166 := Tryz.func40.trans (congrArg some (by kernel_rfl))
  f240 := Tryz.func51.trans (congrArg some (by kernel_rfl))
  f276 := Tryz.func61.trans (congrArg some (by kernel_rfl))
  t0 := Tryz.underlying0
  a0 := Tryz.isAgg0
  z0 := Tryz.sizeOf0
  v0 := Tryz.zeroValue0
  t3 := Tryz.underlying3
  a3 := Tryz.isAgg3
  z3 := Tryz.sizeOf3
  v3 := Tryz.zeroValue3
  t4 := Tryz.underlying4
  a4 := Tryz.isAgg4
  z4 := Tryz.sizeOf4
  v4 := Tryz.zeroValue4
  t9 := Tryz.underlying9
  a9 := Tryz.isAgg9
  z9 := Tryz.sizeOf9
  v9 := Tryz.zeroValue9
  t20 := Tryz.underlying20
  a20 := Tryz.isAgg20
  z20 := Tryz.sizeOf20
  v20 := Tryz.zeroValue20
  t37 := Tryz.underlying22
  a37 := Tryz.isAgg22
  z37 := Tryz.sizeOf22
  v37 := Tryz.zeroValue22
  t70 := Tryz.underlying66
  a70 := Tryz.isAgg66
  z70 := Tryz.sizeOf66
  v70 := Tryz.zeroValue66
  t72 := Tryz.underlying68
  a72 := Tryz.isAgg68
  z72 := Tryz.sizeOf68
  v72 := Tryz.zeroValue68
  t75 := Tryz.underlying70
  a75 := Tryz.isAgg70
  z75 := Tryz.sizeOf70
  v75 := Tryz.zeroValue70
  t164 := Tryz.underlying91
  a164 := Tryz.isAgg91
  z164 := Tryz.sizeOf91
  v164 := Tryz.zeroValue91 }
theorem Tryz.Builder_Extra_166v : Builder.Extra Tryz.prog Tryz.lays166v_ren := {
  sizeBuilder := by kernel_rfl
  liesBuilder := by kernel_rfl
  t5 := Tryz.underlying5
  a5 := Tryz.isAgg5
  z5 := Tryz.sizeOf5
  v5 := Tryz.zeroValue5
  infoByte := by kernel_rfl
  cellsByte := by kernel_rfl
  sizeByte := by kernel_rfl
  neB5 := by decide }
open Go.RowKit in
theorem Tryz.Builder_WriteString_k (B b : Nat) (bs : List Value) (s : ByteArray) (w : World) (h : Lib.IsBuilderF 68 5 B b bs w) (hlen : bs.length + s.size ≤ 140737488355328) (hBw : B ≤ w.heap.size) :
    Calls Tryz.prog 40 #[.pointer (some ⟨b, 0, none⟩), .string s] w fun e w' => e = .returned (.tuple #[.int .i64 s.size, .nilIface]) ∧ (Lib.BuilderAtF 68 5 B b (.pointer (some ⟨b, 0, none⟩)) (bs ++ Lib.strCells s) w' ∧ Below B w w' ∧ Lib.OthersKept 5 (some b) w w') := Any.Builder_WriteString_k Tryz.lays166w Tryz.Builder_Extra_166v B b bs s w h hlen hBw
end Go.Proofs
namespace Go.Proofs.YthffeljicohpdaaGreatDoor
set_option linter.unusedVariables false
set_option linter.unusedSimpArgs false
open Go.ChangeShapes Go.WideShapes Go.ChangeAt Go.RowKit Go.Deep
theorem Blk.others {w w' : World} {g b : Nat} {t e : TypeId} {cs : List Value} (h : Blk w g t cs) (ho : Lib.OthersKept e (some b) w w') (hg : g ≠ b) (ht : t ≠ e) : Blk w' g t cs :=
  ho g _ h (fun e => hg (by injection e)) (fun c fz e => ht (by injection e))
theorem bld_up {T e : TypeId} {B b : Nat} {bs : List Value} {w w' : World} (h : Lib.IsBuilderF T e B b bs w) (hb : Below w.heap.size w w') : Lib.IsBuilderF T e B b bs w' := by
  have key : ∀ p, Lib.BuilderAtF T e B b p bs w → Lib.BuilderAtF T e B b p bs w' := fun p h => by
    have hlt := h.lt
    obtain ⟨h1, v, h2, h3, h4⟩ := h
    refine ⟨h1, v, (hb.block b hlt).trans h2, ?_, h4⟩
    exact h3.kept (grown_of_below hb) (by
      rcases q : v.ownBlock with _ | g
      · exact .inl rfl
      · exact .inr (by simp))
  exact h.elim (fun x => .inl (key _ x)) (fun x => .inr (key _ x))
end Go.Proofs.YthffeljicohpdaaGreatDoor
/- The walks through the text of strikes, both sides. -/
namespace Go.Proofs.YthffeljicohpdaaGreatDoor
set_option linter.unusedVariables false
set_option linter.unusedSimpArgs false
open Go.ChangeShapes Go.WideShapes Go.ChangeAt Go.RowKit Go.Deep
theorem cells_app (a b : ByteArray) : Lib.byteCells a.data.toList ++ Lib.strCells b = Lib.byteCells (a ++ b).data.toList := by
  rw [Lib.byteCells, Lib.strCells, Lib.byteCells, ← List.map_append]; simp
theorem cells_len (a : ByteArray) : (Lib.byteCells a.data.toList).length = a.size := by
  rw [Lib.byteCells, List.length_map]; rfl
set_option maxHeartbeats 2000000 in
set_option maxRecDepth 100000 in
theorem impl_strikesText {A : Option Addr} {n c : Nat} {l : List (Int × Int)} {w : World} (hn : l.length = n) (h : Recs strikeE 2 w A l) (hg : goodStrikes l = true) (htab : Lib.TabIs Tryz.prog w "internal/strconv.uint64pow10" .u64 Lib.pow10Tab) :
    Calls Tryz.prog 21 #[.slice A n c] w fun e w' => e = .returned (.string (stK l l.length)) ∧ Below w.heap.size w w' := by
  subst hn
  have hl2 := (goodStrikes_t hg).1
  have HST := Lib.hid (goodStrikes_t hg).2
  have HT := Lib.hid (Lib.tabBelow_of_tabIs htab)
  have HL := Lib.hid h
  have hb1 : Below w.heap.size w (w.alloc (.cells #[.pointer none, .slice none 0 0] 68)) := by (repeat' (first | (with_reducible exact Below.refl _ _) | (with_reducible assumption) | (with_reducible refine below_drewN ?_ _) | (with_reducible refine Below.drew ?_) | (with_reducible refine below_alloc ?_ _) | (with_reducible refine Below.alloc ?_ ?_ _) | (with_reducible refine Below.setCell ?_ ?_ _) | (with_reducible refine below_go ?_ (by with_reducible assumption)) | (with_reducible refine below_then (by with_reducible assumption) ?_ ?_) | go_size))
  have HB1 := Lib.hid (Lib.IsBuilderF.of (Lib.fresh_isBuilder 68 5 w))
  clear h hg htab
  go_in
  go_wp2
  go_loopw [9] (fun i wr => ∃ k : Nat, k ≤ l.length ∧ i = .int .i64 k ∧ Hid (Lib.IsBuilderF 68 5 w.heap.size w.heap.size (Lib.byteCells (stK l k).data.toList) wr) ∧ Below w.heap.size w wr) (fun i _ => l.length - (intOf i).toNat)
  case atStart => exact ⟨0, Nat.zero_le _, rfl, HB1, hb1⟩
  case round =>
    obtain ⟨k, hk, rfl, HB, hbr⟩ := hrel
    rename World => wr
    have hszr := hbr.size
    have hpl : w.heap.size < wr.heap.size := by
      rcases HB.out with q | q
      · exact q.lt
      · exact q.lt
    obtain ⟨s, hs0⟩ : ∃ s, s = stK l k := ⟨_, rfl⟩
    have hss : s.size ≤ 28 * k := by rw [hs0]; exact stK_size HST.out k hk
    rw [← hs0] at HB
    have HS0 := Lib.hid hs0
    clear hs0
    by_cases hlt : k < l.length
    · obtain ⟨⟨p, q⟩, hx⟩ := some_of_lt hlt
      have hxb := HST.out _ (List.mem_of_getElem? hx)
      dsimp only at hxb
      obtain ⟨a, rfl⟩ : ∃ a : Nat, p = (a : Int) := ⟨p.toNat, by omega⟩
      obtain ⟨b, rfl⟩ : ∃ b : Nat, q = (b : Int) := ⟨q.toNat, by omega⟩
      obtain ⟨b1, o1, hA, hbb, hc0, hc1⟩ := (HL.out.below hbr (Nat.le_refl _)).at_2 hx
      subst hA
      dsimp only at hc0 hc1
      have HSX := Lib.hid (show ((decS a ++ ⟨#[64]⟩) ++ decS b) ++ ⟨#[10]⟩ = sxS ((a : Int), (b : Int)) from rfl)
      have HS1 := Lib.hid (show s ++ (((decS a ++ ⟨#[64]⟩) ++ decS b) ++ ⟨#[10]⟩) = stK l (k + 1) by rw [HS0.out, stK_succ hx]; rfl)
      have d1 := dec_small (n := a) (by omega)
      have d2 := dec_small (n := b) (by omega)
      have z1 : ¬ 9223372036854775807 < (decS a).size + 1 := by omega
      have z2 : ¬ 9223372036854775807 < (decS a).size + 1 + (decS b).size := by omega
      have z3 : ¬ 9223372036854775807 < (decS a).size + 1 + (decS b).size + 1 := by omega
      have hzl : Hid ((Lib.byteCells s.data.toList).length + (((decS a ++ ⟨#[64]⟩) ++ decS b) ++ (⟨#[10]⟩ : ByteArray)).size ≤ 140737488355328) := Lib.hid (by
        have e1 : (⟨#[64]⟩ : ByteArray).size = 1 := rfl
        have e3 : (⟨#[10]⟩ : ByteArray).size = 1 := rfl
        rw [cells_len]
        simp only [ByteArray.size_append]
        omega)
      have ha1 : a ≤ 1000000000000 := by omega
      have hb2' : b ≤ 1000000000000 := by omega
      have IA := Lib.hid (fun (u : World) (hu : Below w.heap.size w u) => impl_decimal (w := u) ha1 (HT.out u hu))
      have IB := Lib.hid (fun (u : World) (hu : Below w.heap.size w u) => impl_decimal (w := u) hb2' (HT.out u hu))
      have hb2 : Below wr.heap.size wr (wr.alloc (.cells ⟨[.int .i64 (a : Int), .int .i64 (b : Int)]⟩ 41)) := by (repeat' (first | (with_reducible exact Below.refl _ _) | (with_reducible assumption) | (with_reducible refine below_drewN ?_ _) | (with_reducible refine Below.drew ?_) | (with_reducible refine below_alloc ?_ _) | (with_reducible refine Below.alloc ?_ ?_ _) | (with_reducible refine Below.setCell ?_ ?_ _) | (with_reducible refine below_go ?_ (by with_reducible assumption)) | (with_reducible refine below_then (by with_reducible assumption) ?_ ?_) | go_size))
      have KX := Blk.at_ wr 41 [.int .i64 (a : Int), .int .i64 (b : Int)] (b := wr.heap.size) rfl
      have HB2 := Lib.hid (bld_up HB.out hb2)
      clear hx
      go_wp2
      obtain ⟨w2, hw2⟩ : ∃ u, u = (wr.alloc (.cells #[.int .i64 (a : Int), .int .i64 (b : Int)] 41)) := ⟨_, rfl⟩
      rw [← hw2] at hb2 KX HB2 ⊢
      clear hw2
      have hBr2 := below_go hbr hb2
      have hsz2 := hBr2.size
      have carry : Hid (∀ u : World, Blk u wr.heap.size 41 [.int .i64 (a : Int), .int .i64 (b : Int)] → u.cell? ⟨wr.heap.size, 0, none⟩ = some (.int .i64 (a : Int)) ∧ u.cell? ⟨wr.heap.size, 1, none⟩ = some (.int .i64 (b : Int))) := Lib.hid (fun u hu => by
        exact ⟨by simpa using hu.cell 0, by simpa using hu.cell 1⟩)
      have C0 : Below w2.heap.size w2 w2.drew := (Below.refl _ _).drew
      have X0 := KX.up C0
      have W0 := below_go hBr2 C0
      go_region_held3 (fun u => u.cell? ⟨wr.heap.size, 0, none⟩ = some (.int .i64 (a : Int)) ∧ u.cell? ⟨wr.heap.size, 1, none⟩ = some (.int .i64 (b : Int))) (first | exact carry.out _ X3 | exact carry.out _ X2 | exact carry.out _ X1 | exact carry.out _ X0) (first | (go_at_call 40; (refine (Tryz.Builder_WriteString_k w.heap.size w.heap.size _ _ _ (bld_up HB2.out C2) hzl.out W2.size).mono ?_); rintro e w6 ⟨rfl, hbl6, hB6, ho6⟩; have X3 := X2.others ho6 (by omega) (by decide); have W3 := W2.trans hB6) | (go_at_call 41; (with_reducible refine (IA.out _ W1).mono ?_); rintro e w5 ⟨rfl, hb5⟩; have C2 := C1.trans (hb5.mono C1.size); have X2 := X1.up hb5; have W2 := below_go W1 hb5) | (go_at_call 41; (with_reducible refine (IB.out _ W1).mono ?_); rintro e w5 ⟨rfl, hb5⟩; have C2 := C1.trans (hb5.mono C1.size); have X2 := X1.up hb5; have W2 := below_go W1 hb5) | (go_at_call 41; (with_reducible refine (IA.out _ W0).mono ?_); rintro e w4 ⟨rfl, hb4⟩; have C1 := C0.trans (hb4.mono C0.size); have X1 := X0.up hb4; have W1 := below_go W0 hb4) | (go_at_call 41; (with_reducible refine (IB.out _ W0).mono ?_); rintro e w4 ⟨rfl, hb4⟩; have C1 := C0.trans (hb4.mono C0.size); have X1 := X0.up hb4; have W1 := below_go W0 hb4))
      all_goals
        rw [cells_app, HS1.out] at hbl6
        have HBF := Lib.hid (Or.inr hbl6 : Lib.IsBuilderF 68 5 w.heap.size w.heap.size (Lib.byteCells (stK l (k + 1)).data.toList) w6)
        go_wp2
        go_roundw
        case rel => exact ⟨k + 1, by omega, by go_num, HBF, W3⟩
        case measure => simp [intOf]; omega
    · obtain rfl : k = l.length := by omega
      go_wp2_with fail
      refine (Tryz.Builder_String_any_k w.heap.size w.heap.size _ _ HB.out hszr).mono ?_; rintro e w6 ⟨rfl, _, hB6, _⟩
      have hfin : (⟨s.data.toList.toArray⟩ : ByteArray) = stK l l.length := by rw [HS0.out]
      rw [hfin]
      go_wp2
      go_ret
      exact ⟨rfl, hbr.trans hB6⟩
set_option maxHeartbeats 2000000 in
set_option maxRecDepth 100000 in
theorem spec_l21Text {A : Option Addr} {n c : Nat} {l : List (Int × Int)} {w : World} (hn : l.length = n) (h : Recs strikeE 2 w A l) (hg : goodStrikes l = true) :
    Calls Tryz.prog 23 #[.slice A n c] w fun e w' => e = .returned (.string (stK l l.length)) ∧ Below w.heap.size w w' := by
  subst hn
  have hl2 := (goodStrikes_t hg).1
  have HST := Lib.hid (goodStrikes_t hg).2
  have HL := Lib.hid h
  clear h hg
  go_in
  go_wp2
  go_loopw [3, 8] (fun v i wr => ∃ k : Nat, k ≤ l.length ∧ i = .int .i64 k ∧ v = .string (stK l k) ∧ Below w.heap.size w wr) (fun _ i _ => l.length - (intOf i).toNat)
  case atStart => exact ⟨0, Nat.zero_le _, rfl, rfl, Below.refl _ _⟩
  case round =>
    obtain ⟨k, hk, rfl, rfl, hbr⟩ := hrel
    rename World => wr
    obtain ⟨s, hs0⟩ : ∃ s, s = stK l k := ⟨_, rfl⟩
    have hss : s.size ≤ 28 * k := by rw [hs0]; exact stK_size HST.out k hk
    rw [← hs0]
    have HS0 := Lib.hid hs0
    clear hs0
    by_cases hlt : k < l.length
    · obtain ⟨⟨p, q⟩, hx⟩ := some_of_lt hlt
      have hxb := HST.out _ (List.mem_of_getElem? hx)
      dsimp only at hxb
      obtain ⟨a, rfl⟩ : ∃ a : Nat, p = (a : Int) := ⟨p.toNat, by omega⟩
      obtain ⟨b, rfl⟩ : ∃ b : Nat, q = (b : Int) := ⟨q.toNat, by omega⟩
      obtain ⟨b1, o1, hA, hbb, hc0, hc1⟩ := (HL.out.below hbr (Nat.le_refl _)).at_2 hx
      subst hA
      dsimp only at hc0 hc1
      have HS1 := Lib.hid (show s ++ (((decS a ++ ⟨#[64]⟩) ++ decS b) ++ ⟨#[10]⟩) = stK l (k + 1) by rw [HS0.out, stK_succ hx]; rfl)
      have d1 := dec_small (n := a) (by omega)
      have d2 := dec_small (n := b) (by omega)
      have z1 : ¬ 9223372036854775807 < (decS a).size + 1 := by omega
      have z2 : ¬ 9223372036854775807 < (decS a).size + 1 + (decS b).size := by omega
      have z3 : ¬ 9223372036854775807 < (decS a).size + 1 + (decS b).size + 1 := by omega
      have z4 : ¬ 9223372036854775807 < s.size + ((decS a).size + 1 + (decS b).size + 1) := by omega
      have ha1 : a ≤ 1000000000000 := by omega
      have hb1 : b ≤ 1000000000000 := by omega
      have IA := Lib.hid (fun (u : World) => spec_l1Num a a u (Nat.le_refl _) ha1)
      have IB := Lib.hid (fun (u : World) => spec_l1Num b b u (Nat.le_refl _) hb1)
      have hb2 : Below wr.heap.size wr (wr.alloc (.cells ⟨[.int .i64 (a : Int), .int .i64 (b : Int)]⟩ 41)) := by (repeat' (first | (with_reducible exact Below.refl _ _) | (with_reducible assumption) | (with_reducible refine below_drewN ?_ _) | (with_reducible refine Below.drew ?_) | (with_reducible refine below_alloc ?_ _) | (with_reducible refine Below.alloc ?_ ?_ _) | (with_reducible refine Below.setCell ?_ ?_ _) | (with_reducible refine below_go ?_ (by with_reducible assumption)) | (with_reducible refine below_then (by with_reducible assumption) ?_ ?_) | go_size))
      have KX := Blk.at_ wr 41 [.int .i64 (a : Int), .int .i64 (b : Int)] (b := wr.heap.size) rfl
      clear hx
      go_wp2
      obtain ⟨w2, hw2⟩ : ∃ u, u = (wr.alloc (.cells #[.int .i64 (a : Int), .int .i64 (b : Int)] 41)) := ⟨_, rfl⟩
      rw [← hw2] at hb2 KX ⊢
      clear hw2
      have carry : Hid (∀ u : World, Below w2.heap.size w2 u → u.cell? ⟨wr.heap.size, 0, none⟩ = some (.int .i64 (a : Int)) ∧ u.cell? ⟨wr.heap.size, 1, none⟩ = some (.int .i64 (b : Int))) := Lib.hid (fun u hu => by
        have L0 := KX.up hu
        exact ⟨by simpa using L0.cell 0, by simpa using L0.cell 1⟩)
      have C0 : Below w2.heap.size w2 w2.drew := (Below.refl _ _).drew
      go_region_held3 (fun u => u.cell? ⟨wr.heap.size, 0, none⟩ = some (.int .i64 (a : Int)) ∧ u.cell? ⟨wr.heap.size, 1, none⟩ = some (.int .i64 (b : Int))) (first | exact carry.out _ C2 | exact carry.out _ C1 | exact carry.out _ C0) (first | (go_at_call 43; (with_reducible refine (IA.out _).mono ?_); rintro e w5 ⟨rfl, hb5⟩; have C2 := C1.trans (hb5.mono C1.size)) | (go_at_call 43; (with_reducible refine (IB.out _).mono ?_); rintro e w5 ⟨rfl, hb5⟩; have C2 := C1.trans (hb5.mono C1.size)) | (go_at_call 43; (with_reducible refine (IA.out _).mono ?_); rintro e w4 ⟨rfl, hb4⟩; have C1 := C0.trans (hb4.mono C0.size)) | (go_at_call 43; (with_reducible refine (IB.out _).mono ?_); rintro e w4 ⟨rfl, hb4⟩; have C1 := C0.trans (hb4.mono C0.size)))
      all_goals
        have hBE := below_go (below_go hbr hb2) C2
        go_wp2
        go_roundw
        case rel => exact ⟨k + 1, by omega, by go_num, by rw [← HS1.out], hBE⟩
        case measure => simp [intOf]; omega
    · obtain rfl : k = l.length := by omega
      go_wp2
      go_ret
      exact ⟨by rw [HS0.out]; rfl, hbr⟩
set_option maxRecDepth 100000 in
theorem impl_StrikesText {A : Option Addr} {n c : Nat} {l : List (Int × Int)} {w : World} (hn : l.length = n) (h : Recs strikeE 2 w A l) (hz : n ≤ 16777216) (htab : Lib.TabIs Tryz.prog w "internal/strconv.uint64pow10" .u64 Lib.pow10Tab) :
    Calls Tryz.prog 6 #[.slice A n c] w fun e w' => e = .returned (.tuple #[.string (stR l), .bool (goodStrikes l)]) ∧ Below w.heap.size w w' := by
  have HT := Lib.hid (Lib.tabBelow_of_tabIs htab)
  have HN := Lib.hid hn
  clear htab hn
  rcases hg : goodStrikes l
  · have e1 := Lib.hid (stR_f hg)
    have HG := Lib.hid hg
    go_in
    go_wp2_with (first | (go_at_call 8; refine (impl_GoodStrikes HN.out h hz).mono ?_; rw [HG.out]; rintro e w1 ⟨rfl, hb1⟩))
    go_ret2
    rw [e1.out]
    exact ⟨rfl, hb1⟩
  · have e1 := Lib.hid (stR_t hg)
    have HG := Lib.hid hg
    go_in
    go_wp2_with fail
    refine (impl_GoodStrikes HN.out h hz).mono ?_; rw [HG.out]; rintro e w1 ⟨rfl, hb1⟩
    go_wp2_with fail
    refine (impl_strikesText HN.out (h.up hb1) HG.out (HT.out _ hb1)).mono ?_; rintro e w2 ⟨rfl, hb2⟩
    go_wp2
    go_ret2
    rw [e1.out]
    exact ⟨rfl, below_go hb1 hb2⟩
set_option maxRecDepth 100000 in
theorem spec_StrikesText {A : Option Addr} {n c : Nat} {l : List (Int × Int)} {w : World} (hn : l.length = n) (h : Recs strikeE 2 w A l) (hz : n ≤ 16777216) :
    Calls Tryz.prog 7 #[.slice A n c] w fun e w' => e = .returned (.tuple #[.string (stR l), .bool (goodStrikes l)]) ∧ Below w.heap.size w w' := by
  have HN := Lib.hid hn
  clear hn
  rcases hg : goodStrikes l
  · have e1 := Lib.hid (stR_f hg)
    have HG := Lib.hid hg
    go_in
    go_wp2_with (first | (go_at_call 22; refine (spec_l21Good HN.out h hz).mono ?_; rw [HG.out]; rintro e w1 ⟨rfl, hb1⟩))
    go_ret2
    rw [e1.out]
    exact ⟨rfl, hb1⟩
  · have e1 := Lib.hid (stR_t hg)
    have HG := Lib.hid hg
    go_in
    go_wp2_with fail
    refine (spec_l21Good HN.out h hz).mono ?_; rw [HG.out]; rintro e w1 ⟨rfl, hb1⟩
    go_wp2_with fail
    refine (spec_l21Text HN.out (h.up hb1) HG.out).mono ?_; rintro e w2 ⟨rfl, hb2⟩
    go_wp2
    go_ret2
    rw [e1.out]
    exact ⟨rfl, below_go hb1 hb2⟩
end Go.Proofs.YthffeljicohpdaaGreatDoor
/- Strikes cut into rows: plain; a stretch of a list of structs. -/
namespace Go.Proofs.YthffeljicohpdaaGreatDoor
set_option linter.unusedVariables false
set_option linter.unusedSimpArgs false
open Go.ChangeShapes Go.WideShapes Go.ChangeAt Go.RowKit Go.Deep
theorem Recs.sub {α : Type} {e : α → List Value} {s : Nat} {w : World} {b o : Nat} {l : List α} (h : Recs e s w (some ⟨b, o, none⟩) l) {i n : Nat} (hin : i + n ≤ l.length) : Recs e s w (some ⟨b, o + i * s, none⟩) ((l.drop i).take n) := by
  have hl : ((l.drop i).take n).length = n := by simp; omega
  have h1 : (((l.drop i).take n).flatMap e).length = n * s := by rw [flatMap_len h.1, hl]
  refine ⟨h.1, by rw [hl]; exact h1, fun hn => ?_⟩
  rw [hl] at hn
  obtain ⟨b', o', hA, hb, hc⟩ := h.2.2 (by omega)
  injection hA with hA
  injection hA with e1 e2 _
  subst e1 e2
  refine ⟨b, o + i * s, rfl, hb, fun j u hu => ?_⟩
  rw [Nat.add_assoc]
  refine hc (i * s + j) u ?_
  have hj : j < n * s := by rw [← h1]; exact (List.getElem?_eq_some_iff.1 hu).1
  have e3 : l.flatMap e = (l.take i).flatMap e ++ (((l.drop i).take n).flatMap e ++ ((l.drop i).drop n).flatMap e) := by
    rw [← List.flatMap_append, ← List.flatMap_append, List.take_append_drop, List.take_append_drop]
  have e4 : ((l.take i).flatMap e).length = i * s := by rw [flatMap_len h.1, List.length_take, Nat.min_eq_left (by omega)]
  rw [e3, List.getElem?_append_right (by omega), e4, Nat.add_sub_cancel_left, List.getElem?_append_left (by omega)]
  exact hu
/-- The row that some strikes ring. -/
def rowB (l : List (Int × Int)) : ByteArray := strOfNums (l.map fun x => 48 + x.1)
theorem rowB_0 : rowB [] = ⟨#[]⟩ := rfl
theorem rowB_snoc (l : List (Int × Int)) (x : Int × Int) : rowB (l ++ [x]) = rowB l ++ dig1 x.1 := by
  rw [rowB, rowB, dig1, strOf_append, List.map_append]; rfl
theorem rowB_size (l : List (Int × Int)) : (rowB l).size = l.length := by rw [rowB, strOfNums_size, List.length_map]
def cutAt (l : List (Int × Int)) (n k : Nat) : ByteArray := rowB ((l.drop (k * n)).take n)
def cutAll (l : List (Int × Int)) (n : Nat) : Bool := (List.range (l.length / n)).all fun k => goodRow (cutAt l n k)
def cutOk (l : List (Int × Int)) (n : Int) : Bool := (goodStrikes l && inB n 3 8) && cutAll l n.toNat
def cutL (l : List (Int × Int)) (n : Int) : List ByteArray := if cutOk l n = true then (List.range (l.length / n.toNat)).map (cutAt l n.toNat) else []
theorem cutL_f {l : List (Int × Int)} {n : Int} (h : cutOk l n = false) : cutL l n = [] := if_neg (by rw [h]; simp)
theorem cutL_t {l : List (Int × Int)} {n : Nat} (h : cutOk l n = true) : cutL l n = (List.range (l.length / n)).map (cutAt l n) := if_pos h
def cutR (l : List (Int × Int)) (n k : Nat) : List ByteArray := (List.range k).map (cutAt l n)
theorem cutR_succ (l : List (Int × Int)) (n k : Nat) : cutR l n (k + 1) = cutR l n k ++ [cutAt l n k] := by rw [cutR, List.range_succ, List.map_append]; rfl
theorem cut_bad {l : List (Int × Int)} {n k : Nat} (hk : k < l.length / n) (h : goodRow (cutAt l n k) = false) : cutAll l n = false := by
  rcases q : cutAll l n
  · rfl
  · rw [cutAll, List.all_eq_true] at q
    rw [q k (List.mem_range.2 hk)] at h; cases h
theorem cut_good {l : List (Int × Int)} {n : Nat} (h : ∀ k, k < l.length / n → goodRow (cutAt l n k) = true) : cutAll l n = true := by
  rw [cutAll, List.all_eq_true]
  exact fun k hk => h k (List.mem_range.1 hk)
theorem cut_step {a n k : Nat} (hn : 0 < n) : k * n + n ≤ a ↔ k < a / n := by
  rw [Nat.lt_div_iff_mul_lt hn]
  constructor
  · intro h
    have : n * k + n ≤ a := by rw [Nat.mul_comm]; exact h
    omega
  · intro h
    have h2 : (k + 1) * n ≤ a := by
      have := (Nat.le_div_iff_mul_le hn (x := k + 1) (y := a)).1 (by
        have := (Nat.lt_div_iff_mul_lt hn (x := k) (y := a)).2 h
        omega)
      exact this
    rw [Nat.succ_mul] at h2
    exact h2
end Go.Proofs.YthffeljicohpdaaGreatDoor
/-
  DERIVED: THE SHELF's CONTRACTS AT THIS DUMP, IN PLAIN WORDS (tools/lay-plain.mjs out of 'YthffeljicohpdaaGreatDoorShelf.lean', which tools/lay-shelf.mjs wrote): THE SAME DECLARATIONS UNDER THE SAME NAMES: 'import', 'namespace', 'open', 'def', 'theorem' AND NOTHING ELSE: no command of the shelf's: FOR A HAND-IN. Each laying: the table of numbers ('.._ren') and one theorem, a field a fact of the dump's own or the kernel's comparison; each contract: ONE APPLICATION.
-/
namespace Go.Proofs
open Go.Shelf
def Tryz.lays145_ren : Go.Shelf.Ren := ⟨fun | 145 => 27 | 220 => 45 | 219 => 54 | 217 => 66 | 225 => 67 | 224 => 68 | 267 => 69 | 266 => 81 | 314 => 82 | n => n, fun | 9 => 9 | 4 => 4 | 59 => 47 | 3 => 3 | 5 => 5 | 46 => 95 | 146 => 108 | 51 => 107 | n => n, fun | 1 => 0 | n => n⟩
theorem Tryz.lays145 : Go.Proofs.Lays.n145 Tryz.prog Tryz.lays145_ren := {
  mixed := by kernel_rfl
  f145 := Tryz.func27.trans (congrArg some (by kernel_rfl))
  f217 := Tryz.func66.trans (congrArg some (by kernel_rfl))
  f219 := Tryz.func54.trans (congrArg some (by kernel_rfl))
  f220 := Tryz.func45.trans (congrArg some (by kernel_rfl))
  f224 := Tryz.func68.trans (congrArg some (by kernel_rfl))
  f225 := Tryz.func67.trans (congrArg some (by kernel_rfl))
  f266 := Tryz.func81.trans (congrArg some (by kernel_rfl))
  f267 := Tryz.func69.trans (congrArg some (by kernel_rfl))
  f314 := Tryz.func82.trans (congrArg some (by kernel_rfl))
  t3 := Tryz.underlying3
  a3 := Tryz.isAgg3
  z3 := Tryz.sizeOf3
  v3 := Tryz.zeroValue3
  t4 := Tryz.underlying4
  a4 := Tryz.isAgg4
  z4 := Tryz.sizeOf4
  v4 := Tryz.zeroValue4
  t5 := Tryz.underlying5
  a5 := Tryz.isAgg5
  z5 := Tryz.sizeOf5
  v5 := Tryz.zeroValue5
  t9 := Tryz.underlying9
  a9 := Tryz.isAgg9
  z9 := Tryz.sizeOf9
  v9 := Tryz.zeroValue9
  t46 := Tryz.underlying95
  a46 := Tryz.isAgg95
  z46 := Tryz.sizeOf95
  v46 := Tryz.zeroValue95
  t51 := Tryz.underlying107
  a51 := Tryz.isAgg107
  z51 := Tryz.sizeOf107
  v51 := Tryz.zeroValue107
  t59 := Tryz.underlying47
  a59 := Tryz.isAgg47
  z59 := Tryz.sizeOf47
  v59 := Tryz.zeroValue47
  t146 := Tryz.underlying108
  a146 := Tryz.isAgg108
  z146 := Tryz.sizeOf108
  v146 := Tryz.zeroValue108
  g1 := by kernel_rfl }
open Go.RowKit Go.Lib in
/-- strings.Cut: "Cut slices s around the first instance of sep, returning the text before and after sep. The found result reports whether sep appears in s. If sep does not appear in s, cut returns s, "", false.": IT RETURNS 'Lib.cut s sep'; the world is as it was but for the count of draws. (LAID: no walk: one application.) -/
theorem Tryz.strings_Cut (s sep : ByteArray) (m : Int) (w : World) (hs : s.size < 4294967281) (hm : w.cell? ⟨0, 0, none⟩ = some (.int .i64 m)) :
    Calls Tryz.prog 27 #[.string s, .string sep] w fun e w' => e = .returned (.tuple #[.string ⟨(Lib.cut s.data.toList sep.data.toList).1.toArray⟩, .string ⟨(Lib.cut s.data.toList sep.data.toList).2.1.toArray⟩, .bool (Lib.cut s.data.toList sep.data.toList).2.2]) ∧ ∃ n, w' = w.drewN n := Any.strings_Cut Tryz.lays145 s sep m w hs hm
def Tryz.lays146_ren : Go.Shelf.Ren := ⟨fun | 146 => 44 | 221 => 53 | 268 => 63 | 138 => 64 | 143 => 65 | 195 => 78 | 197 => 79 | 218 => 80 | 219 => 54 | 260 => 96 | 217 => 66 | 225 => 67 | 224 => 68 | 267 => 69 | 266 => 81 | 314 => 82 | n => n, fun | 9 => 9 | 31 => 44 | 3 => 3 | 4 => 4 | 0 => 0 | 105 => 105 | 21 => 21 | 5 => 5 | 46 => 95 | 119 => 126 | 139 => 129 | 138 => 128 | 146 => 108 | 51 => 107 | n => n, fun | 1 => 0 | 3 => 2 | 4 => 3 | n => n⟩
theorem Tryz.lays146 : Go.Proofs.Lays.n146 Tryz.prog Tryz.lays146_ren := {
  mixed := by kernel_rfl
  f138 := Tryz.func64.trans (congrArg some (by kernel_rfl))
  f143 := Tryz.func65.trans (congrArg some (by kernel_rfl))
  f146 := Tryz.func44.trans (congrArg some (by kernel_rfl))
  f195 := Tryz.func78.trans (congrArg some (by kernel_rfl))
  f197 := Tryz.func79.trans (congrArg some (by kernel_rfl))
  f217 := Tryz.func66.trans (congrArg some (by kernel_rfl))
  f218 := Tryz.func80.trans (congrArg some (by kernel_rfl))
  f219 := Tryz.func54.trans (congrArg some (by kernel_rfl))
  f221 := Tryz.func53.trans (congrArg some (by kernel_rfl))
  f224 := Tryz.func68.trans (congrArg some (by kernel_rfl))
  f225 := Tryz.func67.trans (congrArg some (by kernel_rfl))
  f260 := Tryz.func96.trans (congrArg some (by kernel_rfl))
  f266 := Tryz.func81.trans (congrArg some (by kernel_rfl))
  f267 := Tryz.func69.trans (congrArg some (by kernel_rfl))
  f268 := Tryz.func63.trans (congrArg some (by kernel_rfl))
  f314 := Tryz.func82.trans (congrArg some (by kernel_rfl))
  t0 := Tryz.underlying0
  a0 := Tryz.isAgg0
  z0 := Tryz.sizeOf0
  v0 := Tryz.zeroValue0
  t3 := Tryz.underlying3
  a3 := Tryz.isAgg3
  z3 := Tryz.sizeOf3
  v3 := Tryz.zeroValue3
  t4 := Tryz.underlying4
  a4 := Tryz.isAgg4
  z4 := Tryz.sizeOf4
  v4 := Tryz.zeroValue4
  t5 := Tryz.underlying5
  a5 := Tryz.isAgg5
  z5 := Tryz.sizeOf5
  v5 := Tryz.zeroValue5
  t9 := Tryz.underlying9
  a9 := Tryz.isAgg9
  z9 := Tryz.sizeOf9
  v9 := Tryz.zeroValue9
  t21 := Tryz.underlying21
  a21 := Tryz.isAgg21
  z21 := Tryz.sizeOf21
  v21 := Tryz.zeroValue21
  t31 := Tryz.underlying44
  a31 := Tryz.isAgg44
  z31 := Tryz.sizeOf44
  v31 := Tryz.zeroValue44
  t46 := Tryz.underlying95
  a46 := Tryz.isAgg95
  z46 := Tryz.sizeOf95
  v46 := Tryz.zeroValue95
  t51 := Tryz.underlying107
  a51 := Tryz.isAgg107
  z51 := Tryz.sizeOf107
  v51 := Tryz.zeroValue107
  t105 := Tryz.underlying105
  a105 := Tryz.isAgg105
  z105 := Tryz.sizeOf105
  v105 := Tryz.zeroValue105
  t119 := Tryz.underlying126
  a119 := Tryz.isAgg126
  z119 := Tryz.sizeOf126
  t138 := Tryz.underlying128
  a138 := Tryz.isAgg128
  z138 := Tryz.sizeOf128
  v138 := Tryz.zeroValue128
  t139 := Tryz.underlying129
  a139 := Tryz.isAgg129
  z139 := Tryz.sizeOf129
  v139 := Tryz.zeroValue129
  t146 := Tryz.underlying108
  a146 := Tryz.isAgg108
  z146 := Tryz.sizeOf108
  v146 := Tryz.zeroValue108
  g1 := by kernel_rfl
  g3 := by kernel_rfl
  g4 := by kernel_rfl }
open Go.RowKit Go.Lib in
/-- strings.Split. (LAID: no walk: one application.) -/
theorem Tryz.strings_Split (s sep : ByteArray) (m : Int) (w : World) (hs : s.size < 4294967281) (hm : w.cell? ⟨0, 0, none⟩ = some (.int .i64 m)) (h1 : 1 ≤ sep.size) :
    Calls Tryz.prog 44 #[.string s, .string sep] w fun e w' =>
      e = .returned (.slice (some ⟨w.heap.size, 0, none⟩) (Lib.countB s sep + 1) (Lib.countB s sep + 1)) ∧ w' = w.alloc (.cells ((Lib.splitB sep 0 (Lib.countB s sep) s).map Value.string).toArray 9) := Any.strings_Split Tryz.lays146 (by kernel_rfl) s sep m w hs hm h1
end Go.Proofs
/- The walks through ReadStrikes, both sides. -/
namespace Go.Proofs.YthffeljicohpdaaGreatDoor
set_option linter.unusedVariables false
set_option linter.unusedSimpArgs false
open Go.ChangeShapes Go.WideShapes Go.ChangeAt Go.RowKit Go.Deep
theorem lit_strs (w : World) (t : TypeId) (l : List ByteArray) : Strs (w.alloc (.cells ⟨l.map Value.string⟩ t)) (some ⟨w.heap.size, 0, none⟩) l := by
  refine ⟨strE_len, by rw [flatMap_len strE_len], fun hn => ⟨w.heap.size, 0, rfl, by simp, fun j u hu => ?_⟩⟩
  have h := Box.new w (l.map Value.string) t
  rw [Nat.zero_add]
  refine h j u ?_
  rw [← hu]
  congr 1
  exact (flatMap_one Value.string l).symm
theorem strs_front {w : World} {b o : Nat} {ps : List ByteArray} {z : ByteArray} (h : Strs w (some ⟨b, o, none⟩) (ps ++ [z])) : Strs w (some ⟨b, o, none⟩) ps := by
  have h1 := Recs.sub h (i := 0) (n := ps.length) (by simp)
  simpa using h1
theorem pieces_len {c : UInt8} {s : ByteArray} : (splB c s).length ≤ s.size + 2 := by
  rw [(splB_lib c s).2]
  have := Lib.count_le s.data.toList (⟨#[c]⟩ : ByteArray).data.toList
  have e : s.data.toList.length = s.size := rfl
  show Lib.count s.data.toList _ + 1 ≤ _
  omega
theorem Recs.grown {α : Type} {e : α → List Value} {s b o : Nat} {w w' : World} {l : List α} {row : Option Nat} (h : Recs e s w (some ⟨b, o, none⟩) l) (hg : w.grownBy w' row) (hne : some b ≠ row) : Recs e s w' (some ⟨b, o, none⟩) l := by
  refine ⟨h.1, h.2.1, fun hn => ?_⟩
  obtain ⟨b', o', hA, hb, hc⟩ := h.2.2 hn
  injection hA with hA
  injection hA with e1 e2 _
  subst e1 e2
  exact ⟨b, o, rfl, Nat.lt_of_lt_of_le hb hg.size, fun j u hu => (hg.cell_far ⟨b, o + j, none⟩ hb hne).trans (hc j u hu)⟩
set_option maxHeartbeats 1000000 in
set_option maxRecDepth 100000 in
theorem impl_linesOf {s z : ByteArray} {ps : List ByteArray} {m : Int} {w : World} (hz : s.size ≤ 1048576) (hm : w.cell? ⟨0, 0, none⟩ = some (.int .i64 m)) (hps : splB 10 s = ps ++ [z]) :
    Calls Tryz.prog 26 #[.string s] w fun e w' => e = .returned (.tuple #[.slice (some ⟨w.heap.size, 0, none⟩) ps.length (ps.length + 1), .bool z.toList.isEmpty]) ∧ Strs w' (some ⟨w.heap.size, 0, none⟩) ps ∧ Below w.heap.size w w' ∧ w.heap.size < w'.heap.size := by
  have hl := splB_lib 10 s
  have hpl := pieces_len (c := 10) (s := s)
  rw [hps, List.length_append, List.length_singleton] at hl hpl
  have HC := Lib.hid (show Lib.countB s ⟨#[10]⟩ = ps.length by omega)
  have HS := Lib.hid hl.1
  have hb1 : Below w.heap.size w (w.alloc (.cells ⟨(ps ++ [z]).map Value.string⟩ 9)) := by (repeat' (first | (with_reducible exact Below.refl _ _) | (with_reducible assumption) | (with_reducible refine below_drewN ?_ _) | (with_reducible refine Below.drew ?_) | (with_reducible refine below_alloc ?_ _) | (with_reducible refine Below.alloc ?_ ?_ _) | (with_reducible refine Below.setCell ?_ ?_ _) | (with_reducible refine below_go ?_ (by with_reducible assumption)) | (with_reducible refine below_then (by with_reducible assumption) ?_ ?_) | go_size))
  have HR := Lib.hid (lit_strs w 9 (ps ++ [z]))
  have hn : ps.length ≤ 1048578 := by omega
  clear hl hpl hps
  go_in
  go_wp2_with fail
  refine (Tryz.strings_Split s { data := #[10] } m w (by omega) hm (by decide)).mono ?_
  rw [HC.out, show Lib.splitB { data := #[10] } 0 ps.length s = ps ++ [z] by rw [← HC.out]; exact HS.out]
  rintro e w1 ⟨rfl, hw1⟩
  have hw1' : w1 = w.alloc (.cells ⟨(ps ++ [z]).map Value.string⟩ 9) := hw1
  have hlt1 : w.heap.size < w1.heap.size := by rw [hw1']; simp
  rw [← hw1'] at hb1 HR
  clear hw1 hw1'
  obtain ⟨b3, o3, y, hA, hbb, hy, hcy⟩ := HR.out.at_str (k := ps.length) (by simp)
  injection hA with hA
  injection hA with e1 e2 _
  subst e1 e2
  have hyz : y = z := by
    rw [List.getElem?_append_right (Nat.le_refl _), Nat.sub_self] at hy
    injection hy with hy
    exact hy.symm
  subst hyz
  simp only [Nat.zero_add] at hcy
  clear hy hbb
  have hw : IntKind.i64.wrap ((ps.length : Int) + 1 - 1) = (ps.length : Int) := by rw [wrap_id (by omega)]; omega
  have hw2 : (((ps.length + 1 : Nat) : Int)) = (ps.length : Int) + 1 := by omega
  have hI : (ps.length : Int) ≤ (ps.length : Int) + 1 := by omega
  have hJ : (ps.length : Int) < (ps.length : Int) + 1 := by omega
  go_wp2
  go_quiet (fail)
  go_wp2
  go_ret2
  exact ⟨rfl, (strs_front HR.out).up (below_drewN (Below.refl _ _) _), below_drewN hb1 _, hlt1⟩
theorem flat_concat {L : List (Int × Int)} {ps : List ByteArray} {k : Nat} {y : ByteArray} {x : Int × Int} (hL : (ps.take k).map (·.data.toList) = L.map lnT) (hy : ps[k]? = some y) (hx : y.data.toList = lnT x) : (ps.take (k + 1)).map (·.data.toList) = (L ++ [x]).map lnT := by
  rw [take_succ_some hy, List.map_append, List.map_append, hL, List.map_cons, List.map_nil, List.map_cons, List.map_nil, hx]
set_option maxHeartbeats 2000000 in
set_option maxRecDepth 100000 in
theorem impl_ReadStrikes_yes {s : ByteArray} {m : Int} {l : List (Int × Int)} {w : World} (hz : s.size ≤ 1048576) (hm : w.cell? ⟨0, 0, none⟩ = some (.int .i64 m)) (hmw : 0 < w.heap.size) (hh : hitS s l) :
    Calls Tryz.prog 10 #[.string s] w fun e w' => ∃ A' c', e = .returned (.tuple #[.slice A' l.length c', .bool true]) ∧ Owned strikeE 2 41 w' w.heap.size A' l.length c' l ∧ Below w.heap.size w w' := by
  have hp := hit_pieces hh
  have HG := Lib.hid hh.1
  have HST := Lib.hid (goodStrikes_t hh.1).2
  have hl2 := (goodStrikes_t hh.1).1
  have HM := Lib.hid (fun (u : World) (hu : Below w.heap.size w u) => (hu.cell (p := ⟨0, 0, none⟩) hmw).trans hm)
  have hlen : (l.map lnB).length = l.length := List.length_map _
  go_in
  go_wp2_with fail
  refine (impl_linesOf hz hm hp).mono ?_
  rw [hlen]
  rintro e w1 ⟨rfl, hR, hb1, hlt1⟩
  have HR := Lib.hid hR
  have hem : ({ data := #[] } : ByteArray).toList.isEmpty = true := by simp [ByteArray.toList_eq]
  rw [hem]
  have hI : ¬ (2000 : Int) < (l.length : Int) := by omega
  have HE := Lib.hid (Owned.empty (E := 41) (base := w.heap.size + 1) strikeE_len w1 hlt1)
  clear hp hh hm hlen hem hR
  go_wp2
  go_loopw [6, 31] (fun v i wr => ∃ (k : Nat) (A' : Option Addr) (c' : Nat), k ≤ l.length ∧ i = .int .i64 k ∧ v = .slice A' k c' ∧ Hid (Owned strikeE 2 41 wr (w.heap.size + 1) A' k c' (l.take k)) ∧ w.heap.size < wr.heap.size ∧ Hid (Strs wr (some ⟨w.heap.size, 0, none⟩) (l.map lnB)) ∧ Below w.heap.size w wr) (fun _ i _ => l.length - (intOf i).toNat)
  case atStart => exact ⟨0, _, _, Nat.zero_le _, rfl, rfl, HE, by (simp; omega), Lib.hid (HR.out.alloc _), by (repeat' (first | (with_reducible exact Below.refl _ _) | (with_reducible assumption) | (with_reducible refine below_drewN ?_ _) | (with_reducible refine Below.drew ?_) | (with_reducible refine below_alloc ?_ _) | (with_reducible refine Below.alloc ?_ ?_ _) | (with_reducible refine Below.setCell ?_ ?_ _) | (with_reducible refine below_go ?_ (by with_reducible assumption)) | (with_reducible refine below_then (by with_reducible assumption) ?_ ?_) | go_size))⟩
  case round =>
    obtain ⟨k, A1, c1, hk, rfl, rfl, HO, hszr, HR, hbr⟩ := hrel
    rename World => wr
    by_cases hlt : k < l.length
    · obtain ⟨⟨p, q⟩, hx⟩ := some_of_lt hlt
      have hxb := HST.out _ (List.mem_of_getElem? hx)
      dsimp only at hxb
      obtain ⟨a, rfl⟩ : ∃ a : Nat, p = (a : Int) := ⟨p.toNat, by omega⟩
      obtain ⟨b, rfl⟩ : ∃ b : Nat, q = (b : Int) := ⟨q.toNat, by omega⟩
      obtain ⟨b3, o3, y, hA, hbb, hy, hcy⟩ := HR.out.at_str (k := k) (by rw [List.length_map]; exact hlt)
      injection hA with hA
      injection hA with e1 e2 _
      subst e1 e2
      have hyl : y = lnB ((a : Int), (b : Int)) := by
        rw [List.getElem?_map, hx] at hy
        injection hy with hy
        exact hy.symm
      have HCT := Lib.hid (show Lib.cut y.data.toList (⟨#[64]⟩ : ByteArray).data.toList = (Lib.decDigits a, Lib.decDigits b, true) by rw [hyl]; exact cut_line _)
      have hys : y.size ≤ 16777216 := by
        rw [hyl]
        have d1 := dec_len1 (a := a) (by omega); have d2 := dec_len7 (b := b) (by omega)
        have : (lnB ((a : Int), (b : Int))).size = (lnT ((a : Int), (b : Int))).length := by simp [lnB, ByteArray.size]
        rw [this, lnT, List.length_append, List.length_cons]
        show (Lib.decDigits a).length + ((Lib.decDigits b).length + 1) ≤ _
        omega
      have hn1 := num_dec (a := a) (most := 1) (by rw [dec_len1 (by omega)]; decide)
      have hn2 := num_dec (a := b) (most := 7) (by have := dec_len7 (b := b) (by omega); omega)
      have hs1 : (⟨(Lib.decDigits a).toArray⟩ : ByteArray).size ≤ 16777216 := by
        have := dec_len1 (a := a) (by omega)
        have e : (⟨(Lib.decDigits a).toArray⟩ : ByteArray).size = (Lib.decDigits a).length := by simp [ByteArray.size]
        omega
      have hs2 : (⟨(Lib.decDigits b).toArray⟩ : ByteArray).size ≤ 16777216 := by
        have := dec_len7 (b := b) (by omega)
        have e : (⟨(Lib.decDigits b).toArray⟩ : ByteArray).size = (Lib.decDigits b).length := by simp [ByteArray.size]
        omega
      have HT := Lib.hid (show l.take (k + 1) = l.take k ++ [((a : Int), (b : Int))] from take_succ_some hx)
      have HN1 := Lib.hid hn1; have HN2 := Lib.hid hn2
      clear hx hy hyl hn1 hn2
      simp only [Nat.zero_add] at hcy
      go_wp2_with fail
      refine (Tryz.strings_Cut y { data := #[64] } m wr (by omega) (HM.out _ hbr)).mono ?_
      rw [HCT.out]; rintro e w2 ⟨rfl, nq, hw2⟩
      have hb2 : Below wr.heap.size wr w2 := by rw [hw2]; exact below_drewN (Below.refl _ _) _
      clear hw2
      have hB8 := below_go hbr hb2
      have HO8 := Lib.hid (HO.out.up hb2)
      have HR8 := Lib.hid (HR.out.up hb2)
      have hs8 : w.heap.size < w2.heap.size := by have := hb2.size; omega
      go_wp2_with fail
      refine (impl_number hs1 (by decide)).mono ?_; rw [HN1.out.1, HN1.out.2]; rintro e w' ⟨rfl, rfl⟩
      go_wp2_with fail
      refine (impl_number hs2 (by decide)).mono ?_; rw [HN2.out.1, HN2.out.2]; rintro e w' ⟨rfl, rfl⟩
      have HAL := Lib.hid (HR8.out.alloc (.cells ⟨strikeE ((a : Int), (b : Int))⟩ 41))
      go_wp2_with (first | (at_builtin; go_must ((refine wpList_append_recs Tryz.elStrike strikeE_one rfl (.tmp 61) (.tmp 65) rfl rfl (HO8.out.alloc _) rfl (own_lit1_at' strikeE_len _ 41 ((a : Int), (b : Int)) rfl (Nat.le_refl _)).recs rfl ?_ (by decide) ?_ ?_; (focus (first | omega | (simp only [World.size_alloc]; done) | (simp only [World.size_alloc]; omega) | (simp; done) | (simp; omega))); (simp; omega); intro A3 c3 w6 ho6 hg6 hl6; have hb6 : Below w.heap.size w w6 := (hB8.alloc hB8.size _).trans (grown_base hg6 (by simp; omega) (fun z hz => by have := (HO8.out.range z hz).1; omega))))))
      have HR9 := Lib.hid (HAL.out.grown hg6 (fun e => by have := (HO8.out.blk e.symm).1; omega))
      have hs9 : w.heap.size < w6.heap.size := by have := hg6.size; simp at this; omega
      go_roundw
      case rel => exact ⟨k + 1, A3, c3, by omega, by go_num, by go_num, Lib.hid (by rw [HT.out]; exact ho6), hs9, HR9, hb6⟩
      case measure => simp [intOf]; omega
    · obtain rfl : k = l.length := by omega
      have hOl : l.take l.length = l := List.take_length
      have HOL := Lib.hid (show Owned strikeE 2 41 wr w.heap.size A1 l.length c1 l by have := HO.out; rw [hOl] at this; exact this.base_le (by omega))
      go_wp2_with fail
      refine (impl_GoodStrikes rfl HOL.out.recs (by omega)).mono ?_; rw [HG.out]; rintro e w2 ⟨rfl, hb2⟩
      go_wp2
      go_ret2
      exact ⟨_, _, rfl, HOL.out.up hb2, below_go hbr hb2⟩
theorem cut_len (y c : List UInt8) : (Lib.cut y c).1.length ≤ y.length ∧ (Lib.cut y c).2.1.length ≤ y.length := by
  rw [Lib.cut]
  split
  · exact ⟨by rw [List.length_take]; omega, by rw [List.length_drop]; omega⟩
  · exact ⟨Nat.le_refl _, by simp⟩
theorem arr_size (l : List UInt8) : (⟨l.toArray⟩ : ByteArray).size = l.length := by simp [ByteArray.size]
theorem spl_last_one (c : UInt8) (s : ByteArray) : ∃ ps z, splB c s = ps ++ [z] := by
  rcases List.eq_nil_or_concat (splB c s) with h | ⟨r, b, h⟩
  · rw [splB, List.map_eq_nil_iff] at h
    exact absurd h (spl_ne c _)
  · exact ⟨r, b, by rw [h, List.concat_eq_append]⟩
set_option maxHeartbeats 2000000 in
set_option maxRecDepth 100000 in
theorem impl_ReadStrikes_no {s : ByteArray} {m : Int} {w : World} (hz : s.size ≤ 1048576) (hm : w.cell? ⟨0, 0, none⟩ = some (.int .i64 m)) (hmw : 0 < w.heap.size) (hno : ¬ ∃ l, hitS s l) :
    Calls Tryz.prog 10 #[.string s] w fun e w' => e = .returned (.tuple #[.slice none 0 0, .bool false]) ∧ Below w.heap.size w w' := by
  obtain ⟨ps, z, hp⟩ := spl_last_one 10 s
  have HP := Lib.hid hp
  have HNO := Lib.hid hno
  have HM := Lib.hid (fun (u : World) (hu : Below w.heap.size w u) => (hu.cell (p := ⟨0, 0, none⟩) hmw).trans hm)
  have HSZ := Lib.hid (fun (x : ByteArray) (hx : x ∈ ps) => show x.size ≤ 1048576 from Nat.le_trans (splB_size (c := 10) s x (by rw [hp]; exact List.mem_append_left _ hx)) hz)
  have hpl := pieces_len (c := 10) (s := s)
  rw [hp, List.length_append, List.length_singleton] at hpl
  go_in
  go_wp2_with fail
  refine (impl_linesOf hz hm hp).mono ?_
  rintro e w1 ⟨rfl, hR, hb1, hlt1⟩
  have HR := Lib.hid hR
  clear hp hno hm hR
  rcases hze : z.toList.isEmpty
  · go_wp2
    go_ret2
    exact ⟨rfl, hb1⟩
  have HZE := Lib.hid hze
  by_cases h2 : (2000 : Int) < (ps.length : Int)
  · clear hze
    go_wp2
    go_ret2
    exact ⟨rfl, hb1⟩
  have HE := Lib.hid (Owned.empty (E := 41) (base := w.heap.size + 1) strikeE_len w1 hlt1)
  clear hze
  go_wp2
  go_loopw [6, 31] (fun v i wr => ∃ (k : Nat) (A' : Option Addr) (c' : Nat) (L : List (Int × Int)), k ≤ ps.length ∧ i = .int .i64 k ∧ v = .slice A' k c' ∧ Hid (Owned strikeE 2 41 wr (w.heap.size + 1) A' k c' L) ∧ Hid ((ps.take k).map (·.data.toList) = L.map lnT) ∧ w.heap.size < wr.heap.size ∧ Hid (Strs wr (some ⟨w.heap.size, 0, none⟩) ps) ∧ Below w.heap.size w wr) (fun _ i _ => ps.length - (intOf i).toNat)
  case atStart => exact ⟨0, _, _, [], Nat.zero_le _, rfl, rfl, HE, Lib.hid rfl, by (simp; omega), Lib.hid (HR.out.alloc _), by (repeat' (first | (with_reducible exact Below.refl _ _) | (with_reducible assumption) | (with_reducible refine below_drewN ?_ _) | (with_reducible refine Below.drew ?_) | (with_reducible refine below_alloc ?_ _) | (with_reducible refine Below.alloc ?_ ?_ _) | (with_reducible refine Below.setCell ?_ ?_ _) | (with_reducible refine below_go ?_ (by with_reducible assumption)) | (with_reducible refine below_then (by with_reducible assumption) ?_ ?_) | go_size))⟩
  case round =>
    obtain ⟨k, A1, c1, L, hk, rfl, rfl, HO, HL, hszr, HR, hbr⟩ := hrel
    rename World => wr
    by_cases hlt : k < ps.length
    · obtain ⟨b3, o3, y, hA, hbb, hy, hcy⟩ := HR.out.at_str hlt
      injection hA with hA
      injection hA with e1 e2 _
      subst e1 e2
      have hys := HSZ.out y (List.mem_of_getElem? hy)
      have HY := Lib.hid hy
      obtain ⟨P, hP⟩ : ∃ P, P = (Lib.cut y.data.toList (⟨#[64]⟩ : ByteArray).data.toList).1 := ⟨_, rfl⟩
      obtain ⟨Q, hQ⟩ : ∃ Q, Q = (Lib.cut y.data.toList (⟨#[64]⟩ : ByteArray).data.toList).2.1 := ⟨_, rfl⟩
      obtain ⟨f, hf⟩ : ∃ f, f = (Lib.cut y.data.toList (⟨#[64]⟩ : ByteArray).data.toList).2.2 := ⟨_, rfl⟩
      have HBK := Lib.hid (show f = true → y.data.toList = P ++ 64 :: Q from fun h => by rw [hP, hQ]; exact cut_back (by rw [← h, hf]))
      have hyl : y.data.toList.length = y.size := rfl
      have hPl : P.length ≤ 1048576 := by have := (cut_len y.data.toList (⟨#[64]⟩ : ByteArray).data.toList).1; rw [← hP] at this; omega
      have hQl : Q.length ≤ 1048576 := by have := (cut_len y.data.toList (⟨#[64]⟩ : ByteArray).data.toList).2; rw [← hQ] at this; omega
      have hs1 : (⟨P.toArray⟩ : ByteArray).size ≤ 16777216 := by rw [arr_size]; omega
      have hs2 : (⟨Q.toArray⟩ : ByteArray).size ≤ 16777216 := by rw [arr_size]; omega
      have HC := Lib.hid (And.intro hP (And.intro hQ hf))
      clear hy hP hQ hf hyl
      simp only [Nat.zero_add] at hcy
      go_wp2_with fail
      refine (Tryz.strings_Cut y { data := #[64] } m wr (by omega) (HM.out _ hbr)).mono ?_
      rw [← HC.out.1, ← HC.out.2.1, ← HC.out.2.2]; rintro e w2 ⟨rfl, nq, hw2⟩
      have hb2 : Below wr.heap.size wr w2 := by rw [hw2]; exact below_drewN (Below.refl _ _) _
      clear hw2
      have hB8 := below_go hbr hb2
      have HO8 := Lib.hid (HO.out.up hb2)
      have HR8 := Lib.hid (HR.out.up hb2)
      have hs8 : w.heap.size < w2.heap.size := by have := hb2.size; omega
      go_wp2_with fail
      refine (impl_number hs1 (by decide)).mono ?_; rintro e w' ⟨rfl, rfl⟩
      obtain ⟨v1, hv1⟩ : ∃ v, v = numV ⟨P.toArray⟩ 1 := ⟨_, rfl⟩
      obtain ⟨n1, hn1⟩ : ∃ v, v = numOk ⟨P.toArray⟩ 1 := ⟨_, rfl⟩
      rw [← hv1, ← hn1]
      have HV1 := Lib.hid hv1; have HN1 := Lib.hid hn1
      clear hv1 hn1
      go_wp2_with fail
      refine (impl_number hs2 (by decide)).mono ?_; rintro e w' ⟨rfl, rfl⟩
      obtain ⟨v2, hv2⟩ : ∃ v, v = numV ⟨Q.toArray⟩ 7 := ⟨_, rfl⟩
      obtain ⟨n2, hn2⟩ : ∃ v, v = numOk ⟨Q.toArray⟩ 7 := ⟨_, rfl⟩
      rw [← hv2, ← hn2]
      have HV2 := Lib.hid hv2; have HN2 := Lib.hid hn2
      clear hv2 hn2
      rcases f
      · go_wp2
        go_ret2
        exact ⟨rfl, hB8⟩
      rcases n1
      · go_wp2
        go_ret2
        exact ⟨rfl, hB8⟩
      rcases n2
      · go_wp2
        go_ret2
        exact ⟨rfl, hB8⟩
      have HL2 := Lib.hid (show (ps.take (k + 1)).map (·.data.toList) = (L ++ [(v1, v2)]).map lnT from flat_concat HL.out HY.out (by
        have q1 := (numV_bd HN1.out.symm (by decide)).2.2
        have q2 := (numV_bd HN2.out.symm (by decide)).2.2
        rw [← HV1.out] at q1
        rw [← HV2.out] at q2
        rw [HBK.out rfl]
        show _ = Lib.decDigits v1.toNat ++ 64 :: Lib.decDigits v2.toNat
        rw [q1, q2]))
      have HAL := Lib.hid (HR8.out.alloc (.cells ⟨strikeE (v1, v2)⟩ 41))
      go_wp2_with (first | (at_builtin; go_must ((refine wpList_append_recs Tryz.elStrike strikeE_one rfl (.tmp 61) (.tmp 65) rfl rfl (HO8.out.alloc _) rfl (own_lit1_at' strikeE_len _ 41 (v1, v2) rfl (Nat.le_refl _)).recs rfl ?_ (by decide) ?_ ?_; (focus (first | omega | (simp only [World.size_alloc]; done) | (simp only [World.size_alloc]; omega) | (simp; done) | (simp; omega))); (simp; omega); intro A3 c3 w6 ho6 hg6 hl6; have hb6 : Below w.heap.size w w6 := (hB8.alloc hB8.size _).trans (grown_base hg6 (by simp; omega) (fun z hz => by have := (HO8.out.range z hz).1; omega))))))
      have HR9 := Lib.hid (HAL.out.grown hg6 (fun e => by have := (HO8.out.blk e.symm).1; omega))
      have hs9 : w.heap.size < w6.heap.size := by have := hg6.size; simp at this; omega
      go_roundw
      case rel => exact ⟨k + 1, A3, c3, L ++ [(v1, v2)], by omega, by go_num, by go_num, Lib.hid ho6, HL2, hs9, HR9, hb6⟩
      case measure => simp [intOf]; omega
    · obtain rfl : k = ps.length := by omega
      have hLl := HO.out.len
      rcases hg : goodStrikes L
      · have HG := Lib.hid hg
        go_wp2_with fail
        refine (impl_GoodStrikes hLl HO.out.recs (by omega)).mono ?_; rw [HG.out]; rintro e w2 ⟨rfl, hb2⟩
        go_wp2
        go_ret2
        exact ⟨rfl, below_go hbr hb2⟩
      · exact absurd ⟨L, text_of_lines HP.out HZE.out (by have := HL.out; rwa [List.take_length] at this) hg⟩ HNO.out
theorem impl_ReadStrikes {s : ByteArray} {m : Int} {w : World} (hz : s.size ≤ 1048576) (hm : w.cell? ⟨0, 0, none⟩ = some (.int .i64 m)) (hmw : 0 < w.heap.size) :
    Calls Tryz.prog 10 #[.string s] w fun e w' => ∃ A' c', e = .returned (.tuple #[.slice A' (rsR s).length c', .bool (rsOk s)]) ∧ Owned strikeE 2 41 w' w.heap.size A' (rsR s).length c' (rsR s) ∧ (rsR s).length ≤ 16777216 ∧ Below w.heap.size w w' := by
  by_cases h : ∃ l, hitS s l
  · obtain ⟨l, hl⟩ := h
    have e := rs_yes hl
    have h2 := (goodStrikes_t hl.1).1
    rw [e.1, e.2]
    refine (impl_ReadStrikes_yes hz hm hmw hl).mono ?_
    rintro _ w' ⟨A', c', rfl, ho, hb⟩
    exact ⟨A', c', rfl, ho, by omega, hb⟩
  · have e := rs_no h
    rw [e.1, e.2]
    refine (impl_ReadStrikes_no hz hm hmw h).mono ?_
    rintro _ w' ⟨rfl, hb⟩
    exact ⟨none, 0, rfl, Owned.nil strikeE_len _ _ _, by decide, hb⟩
end Go.Proofs.YthffeljicohpdaaGreatDoor
/- The reference's ReadStrikes walked. -/
namespace Go.Proofs.YthffeljicohpdaaGreatDoor
set_option linter.unusedVariables false
set_option linter.unusedSimpArgs false
open Go.ChangeShapes Go.WideShapes Go.ChangeAt Go.RowKit Go.Deep
theorem turnQ {P : Program} {f : FuncId} {args : Array Value} {w : World} {v : Value} (h : Calls P f args w fun e w' => e = .returned v ∧ w = w') : Calls P f args w fun e w' => e = .returned v ∧ w' = w :=
  h.mono fun _ _ ⟨he, hw⟩ => ⟨he, hw.symm⟩
def lnRd (y : ByteArray) (x : Int × Int) : Prop := ∃ a b, splB 64 y = [a, b] ∧ x = (l21V a, l21V b)
theorem splB_ln (x : Int × Int) : splB 64 (lnB x) = [⟨(Lib.decDigits x.1.toNat).toArray⟩, ⟨(Lib.decDigits x.2.toNat).toArray⟩] := by
  rw [splB]
  show (spl 64 (lnT x)).map _ = _
  rw [spl_line]; rfl
theorem lnRd_line {x z : Int × Int} (h1 : 0 ≤ x.1 ∧ x.1 ≤ 9) (h2 : 0 ≤ x.2 ∧ x.2 ≤ 1000000) (h : lnRd (lnB x) z) : z = x := by
  obtain ⟨a, b, e, rfl⟩ := h
  rw [splB_ln] at e
  injection e with ea e
  injection e with eb _
  subst ea eb
  rw [l21_dec (by rw [dec_len1 (by omega)]; decide), l21_dec (dec_len7 (by omega))]
  exact Prod.ext (by show ((x.1.toNat : Nat) : Int) = x.1; omega) (by show ((x.2.toNat : Nat) : Int) = x.2; omega)
theorem rd_all {s z : ByteArray} {l L : List (Int × Int)} {ps : List ByteArray} (hh : hitS s l) (hp : splB 10 s = ps ++ [z]) (hl : L.length = ps.length) (hr : ∀ (j : Nat) (y : ByteArray), ps[j]? = some y → ∃ x, L[j]? = some x ∧ lnRd y x) : L = l := by
  have h1 := hit_pieces hh
  rw [hp] at h1
  have h2 : ps = l.map lnB := (List.append_inj' h1 rfl).1
  subst h2
  rw [List.length_map] at hl
  apply List.ext_getElem? 
  intro j
  by_cases hj : j < l.length
  · obtain ⟨x, hx⟩ := some_of_lt hj
    obtain ⟨q, hq, hr2⟩ := hr j (lnB x) (by rw [List.getElem?_map, hx]; rfl)
    have hb := (goodStrikes_t hh.1).2 x (List.mem_of_getElem? hx)
    rw [hq, hx, lnRd_line (by omega) (by omega) hr2]
  · rw [List.getElem?_eq_none (by omega), List.getElem?_eq_none (by omega)]
theorem rd_two {s z y : ByteArray} {l : List (Int × Int)} {ps : List ByteArray} (hh : hitS s l) (hp : splB 10 s = ps ++ [z]) (hy : y ∈ ps) : (splB 64 y).length = 2 := by
  have h1 := hit_pieces hh
  rw [hp] at h1
  have h2 : ps = l.map lnB := (List.append_inj' h1 rfl).1
  subst h2
  obtain ⟨x, _, rfl⟩ := List.mem_map.1 hy
  rw [splB_ln]; rfl
theorem hit_empty : hitS ⟨#[]⟩ [] := ⟨rfl, rfl⟩
theorem Owned.capLe {α : Type} {e : α → List Value} {s : Nat} {E : TypeId} {w : World} {base n c : Nat} {a : Addr} {l : List α} (h : Owned e s E w base (some a) n c l) : n ≤ c := by
  rcases h.2.2.2 with ⟨hv, _⟩ | ⟨g, cap, cur, hv, _, _, hnc, _⟩
  · cases hv
  · injection hv with _ _ hc
    subst hc
    exact hnc
theorem rd_step {ps : List ByteArray} {L : List (Int × Int)} {k : Nat} {y : ByteArray} {x : Int × Int} (hl : L.length = k) (h : ∀ (j : Nat) (y : ByteArray), j < k → ps[j]? = some y → ∃ x, L[j]? = some x ∧ lnRd y x) (hy : ps[k]? = some y) (hx : lnRd y x) : ∀ (j : Nat) (y : ByteArray), j < k + 1 → ps[j]? = some y → ∃ x', (L ++ [x])[j]? = some x' ∧ lnRd y x' := by
  intro j y' hj hy'
  by_cases e : j < k
  · obtain ⟨x', h1, h2⟩ := h j y' e hy'
    exact ⟨x', by rw [List.getElem?_append_left (by omega)]; exact h1, h2⟩
  · obtain rfl : j = k := by omega
    rw [hy] at hy'
    injection hy' with hy'
    subst hy'
    exact ⟨x, by rw [← hl, List.getElem?_append_right (Nat.le_refl _), Nat.sub_self]; rfl, hx⟩
set_option maxHeartbeats 4000000 in
set_option maxRecDepth 100000 in
theorem spec_ReadStrikes {s : ByteArray} {w : World} (hz : s.size ≤ 1048576) :
    Calls Tryz.prog 13 #[.string s] w fun e w' => ∃ A' c', e = .returned (.tuple #[.slice A' (rsR s).length c', .bool (rsOk s)]) ∧ Owned strikeE 2 41 w' w.heap.size A' (rsR s).length c' (rsR s) ∧ (rsR s).length ≤ 16777216 ∧ Below w.heap.size w w' := by
  by_cases h0 : s.size = 0
  · have hs : s = { data := #[] } := by
      apply ByteArray.ext
      exact Array.eq_empty_of_size_eq_zero h0
    subst hs
    have e := rs_yes hit_empty
    have HE1 := Lib.hid e.1; have HE2 := Lib.hid e.2
    have HG := Lib.hid (show goodStrikes [] = true from rfl)
    have HX := Lib.hid (show stK [] ([] : List (Int × Int)).length = ⟨#[]⟩ from rfl)
    clear e
    go_in
    go_wp2_with fail
    refine (spec_l21Good (l := []) rfl (Owned.nil (E := 41) strikeE_len w w.heap.size).recs (by decide)).mono ?_; rw [HG.out]; rintro e w1 ⟨rfl, hb1⟩
    go_wp2_with fail
    refine (spec_l21Text (l := []) rfl (Owned.nil (E := 41) strikeE_len w1 w.heap.size).recs HG.out).mono ?_; rw [HX.out]; rintro e w2 ⟨rfl, hb2⟩
    go_wp2
    go_ret2
    rw [HE1.out, HE2.out]
    exact ⟨none, 0, rfl, Owned.nil strikeE_len _ _ _, by decide, below_go hb1 hb2⟩
  have hne := str_ne_empty (s := s) (by omega)
  obtain ⟨ps, z, hp⟩ := spl_last_one 10 s
  have hpl := pieces_len (c := 10) (s := s)
  have HP := Lib.hid hp
  have HSZ := Lib.hid (fun (x : ByteArray) (hx : x ∈ ps) => show x.size ≤ 1048576 from Nat.le_trans (splB_size (c := 10) s x (by rw [hp]; exact List.mem_append_left _ hx)) hz)
  have hlen : (splB 10 s).length = ps.length + 1 := by rw [hp, List.length_append, List.length_singleton]
  have hps : ps.length ≤ 1048577 := by omega
  have hw : IntKind.i64.wrap ((ps.length : Int) + 1 - 1) = (ps.length : Int) := by rw [wrap_id (by omega)]; omega
  have hw2 : (((ps.length + 1 : Nat) : Int)) = (ps.length : Int) + 1 := by omega
  have hI : (ps.length : Int) ≤ (ps.length : Int) + 1 := by omega
  have hJ : (ps.length : Int) < (ps.length : Int) + 1 := by omega
  clear hp
  go_in
  go_wp2_with fail
  refine (spec_l1Split hz (c := 10) rfl).mono ?_; rw [hlen]; rintro e w1 ⟨A1, c1, rfl, ho1, hb1⟩
  obtain ⟨g, rfl, hg1, hg2, _, _⟩ := ho1.at_ (by omega)
  have HR := Lib.hid (show Strs w1 (some ⟨g, 0, none⟩) ps from strs_front (z := z) (by have := ho1.recs; rwa [HP.out] at this))
  have hsz1 := hb1.size
  have hcap := ho1.capLe
  have hcap2 : (ps.length : Int) ≤ (c1 : Int) := by omega
  have hw3 : wrap64 (ps.length : Int) = (ps.length : Int) := by rw [wrap64]; omega
  clear ho1 hlen
  go_wp2
  go_loopw [4, 19] (fun v i wr => ∃ (k : Nat) (A' : Option Addr) (c' : Nat) (L : List (Int × Int)), k ≤ ps.length ∧ i = .int .i64 k ∧ v = .slice A' k c' ∧ Hid (Owned strikeE 2 41 wr w1.heap.size A' k c' L) ∧ Hid (∀ (j : Nat) (y : ByteArray), j < k → ps[j]? = some y → ∃ x, L[j]? = some x ∧ lnRd y x) ∧ w1.heap.size ≤ wr.heap.size ∧ Hid (Strs wr (some ⟨g, 0, none⟩) ps) ∧ Below w.heap.size w wr) (fun _ i _ => ps.length - (intOf i).toNat)
  case atStart => exact ⟨0, _, _, [], Nat.zero_le _, rfl, rfl, Lib.hid (Owned.nil strikeE_len _ _ _), Lib.hid (fun j y hj => absurd hj (by omega)), Nat.le_refl _, HR, hb1⟩
  case round =>
    obtain ⟨k, A2, c2, L, hk, rfl, rfl, HO, HL, hszr, HR, hbr⟩ := hrel
    rename World => wr
    by_cases hlt : k < ps.length
    · obtain ⟨b3, o3, y, hA, hbb, hy, hcy⟩ := HR.out.at_str hlt
      injection hA with hA
      injection hA with e1 e2 _
      subst e1 e2
      have hys := HSZ.out y (List.mem_of_getElem? hy)
      have HY := Lib.hid hy
      clear hy
      simp only [Nat.zero_add] at hcy
      go_wp2_with fail
      refine (spec_l1Split hys (c := 64) rfl).mono ?_
      by_cases h2 : (splB 64 y).length = 2
      · obtain ⟨pa, pb, hab⟩ : ∃ pa pb, splB 64 y = [pa, pb] := by
          rcases q : splB 64 y with _ | ⟨pa, _ | ⟨pb, _ | ⟨_, _⟩⟩⟩
          · rw [q] at h2; cases h2
          · rw [q] at h2; cases h2
          · exact ⟨pa, pb, rfl⟩
          · rw [q] at h2; simp at h2
        rw [h2]
        rintro e w2 ⟨A3, c3, rfl, ho3, hb2⟩
        rw [hab] at ho3
        have hpa := splB_size (c := 64) y pa (by rw [hab]; exact List.mem_cons_self ..)
        have hpb := splB_size (c := 64) y pb (by rw [hab]; exact List.mem_cons_of_mem _ (List.mem_cons_self ..))
        obtain ⟨g3, rfl, hg3, hg4, cc, _⟩ := ho3.at_ (by omega)
        have q0 := cc 0 pa 0 _ rfl rfl
        have q1 := cc 1 pb 0 _ rfl rfl
        simp only [Nat.zero_mul, Nat.one_mul, Nat.zero_add, Nat.add_zero] at q0 q1
        have hB8 := below_go hbr hb2
        have HO8 := Lib.hid (HO.out.up hb2)
        have HR8 := Lib.hid (HR.out.up hb2)
        have hs8 : w1.heap.size ≤ w2.heap.size := by have := hb2.size; omega
        obtain ⟨v1, hv1⟩ : ∃ v, v = l21V pa := ⟨_, rfl⟩
        obtain ⟨v2, hv2⟩ : ∃ v, v = l21V pb := ⟨_, rfl⟩
        have HL2 := Lib.hid (rd_step (x := (v1, v2)) HO.out.len HL.out HY.out ⟨pa, pb, hab, by rw [hv1, hv2]⟩)
        have HV1 := Lib.hid (show ∀ u : World, Calls Tryz.prog 33 #[.string pa] u fun e w' => e = .returned (.int .i64 v1) ∧ u = w' from fun u => by rw [hv1]; exact spec_l21Num (by omega))
        have HV2 := Lib.hid (show ∀ u : World, Calls Tryz.prog 33 #[.string pb] u fun e w' => e = .returned (.int .i64 v2) ∧ u = w' from fun u => by rw [hv2]; exact spec_l21Num (by omega))
        have hOb := Lib.hid (fun z hz => (HO.out.blk (k := z) hz).2)
        have carry : Hid (∀ u : World, Below w2.heap.size w2 u → u.cell? ⟨g3, 0, none⟩ = some (.string pa) ∧ u.cell? ⟨g3, 1, none⟩ = some (.string pb)) := Lib.hid (fun u hu =>
          have q : ∀ o : Nat, u.cell? ⟨g3, o, none⟩ = w2.cell? ⟨g3, o, none⟩ := fun o => hu.cell (p := ⟨g3, o, none⟩) hg4
          ⟨(q 0).trans q0, (q 1).trans q1⟩)
        have far : Hid (∀ v u : World, Below w2.heap.size w2 v → v.grownBy u (Value.slice A2 k c2).ownBlock → u.cell? ⟨g3, 0, none⟩ = some (.string pa) ∧ u.cell? ⟨g3, 1, none⟩ = some (.string pb)) := Lib.hid (fun v u hv hg => by
          have hvs := hv.size
          have f1 : ∀ o : Nat, u.cell? ⟨g3, o, none⟩ = v.cell? ⟨g3, o, none⟩ := fun o => hg.cell_far _ (by show g3 < v.heap.size; omega) (fun e => by have := hOb.out g3 e.symm; omega)
          rw [f1, f1]
          exact carry.out v hv)
        have HW2 : Below w2.heap.size w2 w2.drew := below_drewN (Below.refl _ _) 1
        have HO9 := Lib.hid (HO8.out.up HW2)
        have HB9 : Below w.heap.size w w2.drew := below_go hB8 HW2
        have hs9 : w1.heap.size ≤ w2.drew.heap.size := hs8
        have HAL := Lib.hid ((HR8.out.up HW2).alloc (.cells ⟨strikeE (v1, v2)⟩ 41))
        clear cc ho3 hb2 hbr hv1 hv2 hab h2 hcy q0 q1
        go_wp2
        go_region_held3 (fun u => u.cell? ⟨g3, 0, none⟩ = some (.string pa) ∧ u.cell? ⟨g3, 1, none⟩ = some (.string pb)) (first | exact far.out _ _ (HW2.alloc HW2.size _) hg6 | exact carry.out _ (HW2.alloc HW2.size _) | exact carry.out _ HW2) (first | (go_at_call 33; (with_reducible refine (HV1.out _).mono ?_); rintro e w' ⟨rfl, rfl⟩) | (go_at_call 33; (with_reducible refine (HV2.out _).mono ?_); rintro e w' ⟨rfl, rfl⟩) | ((refine step_append_rec Tryz.elStrike (by rfl) _ _ (by rfl) (by rfl) (HO9.out.alloc _) (v1, v2) (by rfl) (Box.at_ _ [.int .i64 v1, .int .i64 v2] _ (by rfl)) (strikeE_one _) (by omega) (by decide) (by simp; omega) ?_; intro A4 c4 w6 ho6 hg6 hb6)))
        all_goals
          have HR9 := Lib.hid (HAL.out.grown hg6 (fun e => by have := (HO9.out.blk e.symm).1; omega))
          have hs10 : w1.heap.size ≤ w6.heap.size := by have := hg6.size; simp at this; omega
          have hfin := (HB9.alloc HB9.size _).trans (hb6.mono (by omega))
          clear far carry
          go_wp2
          go_roundw
          case rel => exact ⟨k + 1, A4, c4, L ++ [(v1, v2)], by omega, by go_num, by go_num, Lib.hid ho6, HL2, hs10, HR9, hfin⟩
          case measure => simp [intOf]; omega
      · have HNO := Lib.hid (show ¬ ∃ l, hitS s l from fun ⟨l, hl⟩ => h2 (rd_two hl HP.out (List.mem_of_getElem? HY.out)))
        obtain ⟨m, hm⟩ : ∃ m, m = (splB 64 y).length := ⟨_, rfl⟩
        rw [← hm] at h2 ⊢
        rintro e w2 ⟨A3, c3, rfl, ho3, hb2⟩
        have hI2 : ¬ (m : Int) = 2 := by omega
        have hI3 : ((m : Int) == 2) = false := by simpa using hI2
        have e := rs_no HNO.out
        have HE1 := Lib.hid e.1; have HE2 := Lib.hid e.2
        have HB := below_go hbr hb2
        clear e ho3 hm
        go_wp2
        go_ret2
        rw [HE1.out, HE2.out]
        exact ⟨none, 0, rfl, Owned.nil strikeE_len _ _ _, by decide, HB⟩
    · obtain rfl : k = ps.length := by omega
      have hLl := HO.out.len
      have HALL := Lib.hid (fun (l : List (Int × Int)) (hl : hitS s l) => rd_all hl HP.out hLl (fun j y hy => HL.out j y (List.getElem?_eq_some_iff.1 hy).1 hy))
      rcases hg : goodStrikes L
      · have HG := Lib.hid hg
        have e := rs_no (s := s) (fun ⟨l, hl⟩ => by have := HALL.out l hl; rw [this, hl.1] at hg; cases hg)
        have HE1 := Lib.hid e.1; have HE2 := Lib.hid e.2
        clear e hg
        go_wp2_with fail
        refine (spec_l21Good hLl HO.out.recs (by omega)).mono ?_; rw [HG.out]; rintro e w2 ⟨rfl, hb2⟩
        go_wp2
        go_ret2
        rw [HE1.out, HE2.out]
        exact ⟨none, 0, rfl, Owned.nil strikeE_len _ _ _, by decide, below_go hbr hb2⟩
      · have HG := Lib.hid hg
        clear hg
        obtain ⟨T, hT⟩ : ∃ T, T = stK L L.length := ⟨_, rfl⟩
        by_cases he : T = s
        · have e := rs_yes (s := s) (l := L) ⟨HG.out, by rw [← hT]; exact he⟩
          have HE1 := Lib.hid e.1; have HE2 := Lib.hid e.2
          have HT := Lib.hid (hT.symm.trans he)
          clear e hT he
          go_wp2_with fail
          refine (spec_l21Good hLl HO.out.recs (by omega)).mono ?_; rw [HG.out]; rintro e w2 ⟨rfl, hb2⟩
          go_wp2_with fail
          refine (spec_l21Text hLl (HO.out.up hb2).recs HG.out).mono ?_; rw [HT.out]; rintro e w3 ⟨rfl, hb3⟩
          have HO3 := Lib.hid (((HO.out.up hb2).up hb3).base_le hsz1)
          go_wp2
          go_ret2
          rw [HE1.out, HE2.out, hLl]
          exact ⟨_, _, rfl, HO3.out, by omega, below_go (below_go hbr hb2) hb3⟩
        · have e := rs_no (s := s) (fun ⟨l, hl⟩ => he (by rw [hT, HALL.out l hl]; exact hl.2))
          have HE1 := Lib.hid e.1; have HE2 := Lib.hid e.2
          have HT := Lib.hid hT
          have hbe : (T.toList == s.toList) = false := by
            rw [beq_eq_false_iff_ne]
            intro q
            rw [ByteArray.toList_eq, ByteArray.toList_eq] at q
            exact he (ByteArray.ext (Array.toList_inj.1 q))
          clear e hT
          go_wp2_with fail
          refine (spec_l21Good hLl HO.out.recs (by omega)).mono ?_; rw [HG.out]; rintro e w2 ⟨rfl, hb2⟩
          go_wp2_with fail
          refine (spec_l21Text hLl (HO.out.up hb2).recs HG.out).mono ?_; rw [← HT.out]; rintro e w3 ⟨rfl, hb3⟩
          go_wp2
          go_ret2
          rw [HE1.out, HE2.out]
          exact ⟨none, 0, rfl, Owned.nil strikeE_len _ _ _, by decide, below_go (below_go hbr hb2) hb3⟩
end Go.Proofs.YthffeljicohpdaaGreatDoor
/- The walks through the draws of FnStrikeTexts. -/
namespace Go.Proofs.YthffeljicohpdaaGreatDoor
set_option linter.unusedVariables false
set_option linter.unusedSimpArgs false
open Go.ChangeShapes Go.WideShapes Go.ChangeAt Go.RowKit Go.Deep
theorem stR_size {L : List (Int × Int)} (h : L.length ≤ 192) : (stR L).size ≤ 10000 := by
  rcases hg : goodStrikes L
  · rw [stR_f hg]; decide
  · rw [stR_t hg]
    have := stK_size (goodStrikes_t hg).2 L.length (Nat.le_refl _)
    omega
set_option maxHeartbeats 1000000 in
set_option maxRecDepth 100000 in
theorem draw_GoodStrikes {A : Option Addr} {n c : Nat} {w : World} (hS : Src w A n) :
    Calls Tryz.prog 20 #[.slice A n c] w fun e w' => ∃ (A' : Option Addr) (m c' : Nat) (L : List (Int × Int)), e = .returned (.slice A' m c') ∧ L.length = m ∧ m ≤ 192 ∧ Recs strikeE 2 w' A' L ∧ Below w.heap.size w w' := by
  have b0 : Below w.heap.size w (w.alloc (.cells #[.slice A n c, .int .i64 0, .int .u64 0] 54)) := by (repeat' (first | (with_reducible exact Below.refl _ _) | (with_reducible assumption) | (with_reducible refine below_drewN ?_ _) | (with_reducible refine Below.drew ?_) | (with_reducible refine below_alloc ?_ _) | (with_reducible refine Below.alloc ?_ ?_ _) | (with_reducible refine Below.setCell ?_ ?_ _) | (with_reducible refine below_go ?_ (by with_reducible assumption)) | (with_reducible refine below_then (by with_reducible assumption) ?_ ?_) | go_size))
  have c0 := cur_fresh w A n c
  go_in
  go_wp2_with fail
  obtain ⟨w1, hw1⟩ : ∃ u, u = w.alloc (.cells #[.slice A n c, .int .i64 0, .int .u64 0] 54) := ⟨_, rfl⟩
  rw [← hw1] at b0 c0 ⊢
  clear hw1
  refine (cur_anyStruck hS b0 (Nat.le_refl _) c0 (by omega)).mono ?_; rintro e w2 ⟨A2, m2, c2, L2, rfl, hm2, ho2, hc2, hg2⟩
  have hB2 := grown_below b0 (Nat.le_refl _) hg2
  go_wp2
  go_ret
  exact ⟨A2, m2, c2, L2, rfl, ho2.len, hm2, ho2.recs, hB2⟩
theorem draw_StrikesText {A : Option Addr} {n c : Nat} {w : World} (hS : Src w A n) :
    Calls Tryz.prog 5 #[.slice A n c] w fun e w' => ∃ (A' : Option Addr) (m c' : Nat) (L : List (Int × Int)), e = .returned (.slice A' m c') ∧ L.length = m ∧ m ≤ 192 ∧ Recs strikeE 2 w' A' L ∧ Below w.heap.size w w' := by
  go_in
  go_wp2_with fail
  refine (draw_GoodStrikes hS).mono ?_; rintro e w2 ⟨A2, m2, c2, L2, rfl, hl2, hm2, hr2, hb2⟩
  go_wp2
  go_ret
  exact ⟨A2, m2, c2, L2, rfl, hl2, hm2, hr2, hb2⟩
set_option maxHeartbeats 1000000 in
set_option maxRecDepth 100000 in
theorem draw_MergeStrikes {A : Option Addr} {n c : Nat} {w : World} (hS : Src w A n) :
    Calls Tryz.prog 14 #[.slice A n c] w fun e w' => ∃ (A1 : Option Addr) (m1 d1 : Nat) (L1 : List (Int × Int)) (A2 : Option Addr) (m2 d2 : Nat) (L2 : List (Int × Int)), e = .returned (.tuple #[.slice A1 m1 d1, .slice A2 m2 d2]) ∧ (L1.length = m1 ∧ m1 ≤ 192 ∧ m1 ≤ d1 ∧ d1 ≤ 9223372036854775807 ∧ Recs strikeE 2 w' A1 L1) ∧ (L2.length = m2 ∧ m2 ≤ 192 ∧ m2 ≤ d2 ∧ d2 ≤ 9223372036854775807 ∧ Recs strikeE 2 w' A2 L2) ∧ Below w.heap.size w w' := by
  have b0 : Below w.heap.size w (w.alloc (.cells #[.slice A n c, .int .i64 0, .int .u64 0] 54)) := by (repeat' (first | (with_reducible exact Below.refl _ _) | (with_reducible assumption) | (with_reducible refine below_drewN ?_ _) | (with_reducible refine Below.drew ?_) | (with_reducible refine below_alloc ?_ _) | (with_reducible refine Below.alloc ?_ ?_ _) | (with_reducible refine Below.setCell ?_ ?_ _) | (with_reducible refine below_go ?_ (by with_reducible assumption)) | (with_reducible refine below_then (by with_reducible assumption) ?_ ?_) | go_size))
  have c0 := cur_fresh w A n c
  go_in
  go_wp2_with fail
  obtain ⟨w1, hw1⟩ : ∃ u, u = w.alloc (.cells #[.slice A n c, .int .i64 0, .int .u64 0] 54) := ⟨_, rfl⟩
  rw [← hw1] at b0 c0 ⊢
  clear hw1
  refine (cur_anyStruck hS b0 (Nat.le_refl _) c0 (by omega)).mono ?_; rintro e w2 ⟨A2, m2, c2, L2, rfl, hm2, ho2, hc2, hg2⟩
  have hB2 := grown_below b0 (Nat.le_refl _) hg2
  have hlw := c0.lt
  go_wp2_with fail
  refine (cur_anyStruck hS hB2 (Nat.le_refl _) hc2 (by omega)).mono ?_; rintro e w3 ⟨A3, m3, c3, L3, rfl, hm3, ho3, hc3, hg3⟩
  have ho2' := ho2.past hg3 hlw
  go_wp2
  go_ret2
  exact ⟨A2, m2, c2, L2, A3, m3, c3, L3, rfl, ⟨ho2.len, hm2, ho2.cap.1, ho2.cap.2, ho2'.recs⟩, ⟨ho3.len, hm3, ho3.cap.1, ho3.cap.2, ho3.recs⟩, grown_below hB2 (Nat.le_refl _) hg3⟩
set_option maxHeartbeats 1000000 in
set_option maxRecDepth 100000 in
theorem draw_ShiftStrikes {A : Option Addr} {n c : Nat} {w : World} (hS : Src w A n) :
    Calls Tryz.prog 17 #[.slice A n c] w fun e w' => ∃ (A' : Option Addr) (m c' : Nat) (L : List (Int × Int)) (s : Int), e = .returned (.tuple #[.slice A' m c', .int .i64 s]) ∧ L.length = m ∧ m ≤ 192 ∧ Recs strikeE 2 w' A' L ∧ Below w.heap.size w w' := by
  have b0 : Below w.heap.size w (w.alloc (.cells #[.slice A n c, .int .i64 0, .int .u64 0] 54)) := by (repeat' (first | (with_reducible exact Below.refl _ _) | (with_reducible assumption) | (with_reducible refine below_drewN ?_ _) | (with_reducible refine Below.drew ?_) | (with_reducible refine below_alloc ?_ _) | (with_reducible refine Below.alloc ?_ ?_ _) | (with_reducible refine Below.setCell ?_ ?_ _) | (with_reducible refine below_go ?_ (by with_reducible assumption)) | (with_reducible refine below_then (by with_reducible assumption) ?_ ?_) | go_size))
  have c0 := cur_fresh w A n c
  go_in
  go_wp2_with fail
  obtain ⟨w1, hw1⟩ : ∃ u, u = w.alloc (.cells #[.slice A n c, .int .i64 0, .int .u64 0] 54) := ⟨_, rfl⟩
  rw [← hw1] at b0 c0 ⊢
  clear hw1
  refine (cur_anyStruck hS b0 (Nat.le_refl _) c0 (by omega)).mono ?_; rintro e w2 ⟨A2, m2, c2, L2, rfl, hm2, ho2, hc2, hg2⟩
  have hB2 := grown_below b0 (Nat.le_refl _) hg2
  have hlw := c0.lt
  have hlw2 := hc2.lt
  have hl := lit_ints w2 3 [0, 5, -5, 100, -100, 1000000, -1000001]
  go_wp2_with fail
  refine (cur_among hS (hB2.alloc hB2.size _) (Nat.le_refl _) (hc2.up ((Below.refl _ _).alloc (Nat.le_refl _) _)) (by omega) rfl hl (by decide) (by decide) (fun b o e => by injection e with e; injection e with e; omega)).mono ?_; rintro e w3 ⟨s, _, rfl, hc3, hg3⟩
  have hg4 : w2.grownBy w3 (some w.heap.size) := grownBy_trans (World.grownBy_alloc _ _ _) hg3
  go_wp2
  go_ret2
  exact ⟨A2, m2, c2, L2, s, rfl, ho2.len, hm2, (ho2.past hg4 hlw).recs, grown_below hB2 (Nat.le_refl _) hg4⟩
set_option maxHeartbeats 1000000 in
set_option maxRecDepth 100000 in
theorem draw_ReadStrikes {A : Option Addr} {n c : Nat} {w : World} (hS : Src w A n) :
    Calls Tryz.prog 12 #[.slice A n c] w fun e w' => ∃ s : ByteArray, e = .returned (.string s) ∧ s.size ≤ 20000 ∧ Below w.heap.size w w' := by
  have b0 : Below w.heap.size w (w.alloc (.cells #[.slice A n c, .int .i64 0, .int .u64 0] 54)) := by (repeat' (first | (with_reducible exact Below.refl _ _) | (with_reducible assumption) | (with_reducible refine below_drewN ?_ _) | (with_reducible refine Below.drew ?_) | (with_reducible refine below_alloc ?_ _) | (with_reducible refine Below.alloc ?_ ?_ _) | (with_reducible refine Below.setCell ?_ ?_ _) | (with_reducible refine below_go ?_ (by with_reducible assumption)) | (with_reducible refine below_then (by with_reducible assumption) ?_ ?_) | go_size))
  have c0 := cur_fresh w A n c
  go_in
  go_wp2_with fail
  obtain ⟨w1, hw1⟩ : ∃ u, u = w.alloc (.cells #[.slice A n c, .int .i64 0, .int .u64 0] 54) := ⟨_, rfl⟩
  rw [← hw1] at b0 c0 ⊢
  clear hw1
  refine (cur_anyStruck hS b0 (Nat.le_refl _) c0 (by omega)).mono ?_; rintro e w2 ⟨A2, m2, c2, L2, rfl, hm2, ho2, hc2, hg2⟩
  have hB2 := grown_below b0 (Nat.le_refl _) hg2
  have hsz := stR_size (L := L2) (by rw [ho2.len]; exact hm2)
  go_wp2_with fail
  refine (spec_StrikesText ho2.len ho2.recs (by omega)).mono ?_; rintro e w3 ⟨rfl, hb3⟩
  have hB3 := below_go hB2 hb3
  have hc3 := hc2.up hb3
  obtain ⟨s, hs⟩ : ∃ s, s = stR L2 := ⟨_, rfl⟩
  rw [← hs] at hsz ⊢
  clear hs
  go_wp2_with fail
  refine (cur_one hS hB3 (Nat.le_refl _) hc3 (by omega) (by decide) (by decide)).mono ?_; rintro e w4 ⟨q, rfl, hc4, hg4⟩
  have hB4 := grown_below hB3 (Nat.le_refl _) hg4
  rcases q
  · go_wp2
    go_ret
    exact ⟨s, rfl, by omega, hB4⟩
  · go_wp2_with fail
    refine (cur_spoilt (v := { data := #[64, 49, 57, 10, 48] }) hS hB4 (Nat.le_refl _) hc4 (by omega) hsz (by decide) (by decide) (by decide)).mono ?_; rintro e w5 ⟨t, rfl, ht, hc5, hg5⟩
    go_wp2
    go_ret
    exact ⟨t, rfl, by omega, grown_below hB4 (Nat.le_refl _) hg5⟩
end Go.Proofs.YthffeljicohpdaaGreatDoor
/- The walks through the laws' comparisons of lists of strikes, texts and ints, where both are the same list. -/
namespace Go.Proofs.YthffeljicohpdaaGreatDoor
set_option linter.unusedVariables false
set_option linter.unusedSimpArgs false
open Go.ChangeShapes Go.WideShapes Go.ChangeAt Go.RowKit Go.Deep
theorem laws_big3 (A B : Option Addr) (n m c d : Nat) (w : World) (hn : n ≤ 9223372036854775807) (hm : m ≤ 9223372036854775807) :
    Calls Tryz.prog 4 #[.slice A n c, .slice B m d] w fun e w' => e = .returned (.bool (!decide (n + m ≤ 1048576))) ∧ w = w' := by
  by_cases h1 : n ≤ 1048576
  · have hI : ¬ (1048576 : Int) < (n : Int) := by omega
    have hW : IntKind.i64.wrap (1048576 - (n : Int)) = 1048576 - (n : Int) := wrap_id (by omega)
    go_in
    go_wp2
    go_ret
    refine ⟨ret_bool ?_, rfl⟩
    by_cases h2 : n + m ≤ 1048576
    · simp [h2]; omega
    · simp [h2]; omega
  · have hI : (1048576 : Int) < (n : Int) := by omega
    go_in
    go_wp2
    go_ret
    refine ⟨ret_bool ?_, rfl⟩
    have h2 : ¬ n + m ≤ 1048576 := by omega
    simp [h2]
set_option maxRecDepth 100000 in
theorem laws_sameStrikesB {A B : Option Addr} {n c d : Nat} {l : List (Int × Int)} {w : World} (hn : l.length = n) (h : Recs strikeE 2 w A l) (g : Recs strikeE 2 w B l) (hz : n ≤ 16777216) :
    Calls Tryz.prog 11 #[.slice A n c, .slice B n d] w fun e w' => e = .returned (.bool true) ∧ Below w.heap.size w w' := by
  subst hn
  go_in
  go_wp2
  go_loopw [13] (fun i wr => ∃ k : Nat, k ≤ l.length ∧ i = .int .i64 k ∧ Below w.heap.size w wr) (fun i _ => l.length - (intOf i).toNat)
  case atStart => exact ⟨0, Nat.zero_le _, rfl, Below.refl _ _⟩
  case round =>
    obtain ⟨k, hk, rfl, hb⟩ := hrel
    by_cases hlt : k < l.length
    · obtain ⟨⟨x1, x2⟩, hx⟩ := some_of_lt hlt
      obtain ⟨b1, o1, rfl, _, hc1, hc2⟩ := Recs.at_2 (f := fun s : Int × Int => Value.int .i64 s.1) (g := fun s : Int × Int => Value.int .i64 s.2) (h.below hb (Nat.le_refl _)) hx
      obtain ⟨b2, o2, rfl, _, hd1, hd2⟩ := Recs.at_2 (f := fun s : Int × Int => Value.int .i64 s.1) (g := fun s : Int × Int => Value.int .i64 s.2) (g.below hb (Nat.le_refl _)) hx
      dsimp only at hc1 hc2 hd1 hd2
      clear hx h g
      go_wp2
      go_quiet (fail)
      go_wp2
      go_roundw
      case rel => exact ⟨k + 1, by omega, by go_num, below_drewN hb _⟩
      case measure => simp [intOf]; omega
    · go_wp2
      go_ret
      exact ⟨rfl, hb⟩
end Go.Proofs.YthffeljicohpdaaGreatDoor
/- Stable merging of strikes, in plain Lean. -/
namespace Go.Proofs.YthffeljicohpdaaGreatDoor
set_option linter.unusedVariables false
set_option linter.unusedSimpArgs false
open Go.ChangeShapes Go.WideShapes Go.ChangeAt Go.RowKit Go.Deep
theorem mgT_nil (l : List (Int × Int)) : List.merge [] l leT = l := by simp
theorem mgT_nil' (l : List (Int × Int)) : List.merge l [] leT = l := by simp
/-- A merge may be cut where all that lies to the left is to come first. -/
theorem mgT_cut (n : Nat) : ∀ (A1 B1 A2 B2 : List (Int × Int)), A1.length + B1.length ≤ n → (∀ x ∈ A1, ∀ y ∈ B2, x.2 ≤ y.2) → (∀ x ∈ A2, ∀ y ∈ B1, y.2 < x.2) →
    List.merge (A1 ++ A2) (B1 ++ B2) leT = List.merge A1 B1 leT ++ List.merge A2 B2 leT := by
  induction n with
  | zero =>
    intro A1 B1 A2 B2 hn _ _
    obtain rfl := List.eq_nil_of_length_eq_zero (show A1.length = 0 by omega)
    obtain rfl := List.eq_nil_of_length_eq_zero (show B1.length = 0 by omega)
    simp
  | succ n ih =>
    intro A1 B1 A2 B2 hn h1 h2
    rcases A1 with _ | ⟨x, A1⟩
    · rcases B1 with _ | ⟨y, B1⟩
      · simp
      · rcases A2 with _ | ⟨z, A2⟩
        · simp
        · rw [List.nil_append, List.cons_append, mgT_right (h2 z (List.mem_cons_self ..) y (List.mem_cons_self ..))]
          have := ih [] B1 (z :: A2) B2 (by simp at hn ⊢; omega) (fun x hx => by cases hx) (fun x hx y hy => h2 x hx y (List.mem_cons_of_mem _ hy))
          rw [List.nil_append] at this
          rw [this, mgT_nil, mgT_nil, List.cons_append]
    · rcases B1 with _ | ⟨y, B1⟩
      · rcases B2 with _ | ⟨z, B2⟩
        · simp
        · have hx := h1 x (List.mem_cons_self ..) z (List.mem_cons_self ..)
          rw [List.nil_append, List.cons_append, mgT_left (by omega)]
          have := ih A1 [] A2 (z :: B2) (by simp at hn ⊢; omega) (fun x hx y hy => h1 x (List.mem_cons_of_mem _ hx) y hy) (fun x hx y hy => by cases hy)
          rw [List.nil_append] at this
          rw [this, mgT_nil', mgT_nil', List.cons_append]
      · by_cases h : y.2 < x.2
        · have := ih (x :: A1) B1 A2 B2 (by simp at hn ⊢; omega) h1 (fun x hx y hy => h2 x hx y (List.mem_cons_of_mem _ hy))
          rw [List.cons_append] at this
          rw [List.cons_append, List.cons_append, mgT_right h, mgT_right h, this, List.cons_append]
        · have := ih A1 (y :: B1) A2 B2 (by simp at hn ⊢; omega) (fun x hx y hy => h1 x (List.mem_cons_of_mem _ hx) y hy) h2
          rw [List.cons_append] at this
          rw [List.cons_append, List.cons_append, mgT_left h, mgT_left h, this, List.cons_append]
theorem mgT_first {x : Int × Int} {B1 B2 : List (Int × Int)} (h1 : ∀ y ∈ B1, y.2 < x.2) (h2 : ∀ y ∈ B2, x.2 ≤ y.2) : List.merge [x] (B1 ++ B2) leT = B1 ++ x :: B2 := by
  have e1 := mgT_cut _ [] B1 [x] B2 (Nat.le_refl _) (fun x hx => by cases hx) (fun z hz y hy => by rw [List.mem_singleton.1 hz]; exact h1 y hy)
  have e2 := mgT_cut _ [x] [] [] B2 (Nat.le_refl _) (fun z hz y hy => by rw [List.mem_singleton.1 hz]; exact h2 y hy) (fun x hx => by cases hx)
  simp only [List.nil_append, List.append_nil, mgT_nil, mgT_nil'] at e1 e2
  rw [e1, e2]; rfl
theorem mgT_last {x : Int × Int} {A1 A2 : List (Int × Int)} (h1 : ∀ y ∈ A1, y.2 ≤ x.2) (h2 : ∀ y ∈ A2, x.2 < y.2) : List.merge (A1 ++ A2) [x] leT = A1 ++ x :: A2 := by
  have e1 := mgT_cut _ A1 [x] A2 [] (Nat.le_refl _) (fun x hx y hy => by cases hy) (fun z hz y hy => by rw [List.mem_singleton.1 hy]; exact h2 z hz)
  have e2 := mgT_cut _ A1 [] [] [x] (Nat.le_refl _) (fun z hz y hy => by rw [List.mem_singleton.1 hy]; exact h1 z hz) (fun x hx y hy => by cases hy)
  simp only [List.nil_append, List.append_nil, mgT_nil, mgT_nil'] at e1 e2
  rw [e1, e2]; simp
theorem mgT_one (x : Int × Int) (n : Nat) : ∀ p q : List (Int × Int), p.length + q.length ≤ n → List.merge [x] (List.merge p q leT) leT = List.merge (List.merge [x] p leT) q leT := by
  induction n with
  | zero =>
    intro p q hn
    obtain rfl := List.eq_nil_of_length_eq_zero (show p.length = 0 by omega)
    obtain rfl := List.eq_nil_of_length_eq_zero (show q.length = 0 by omega)
    simp
  | succ n ih =>
    intro p q hn
    rcases p with _ | ⟨a, p⟩
    · rw [mgT_nil, mgT_nil']
    rcases q with _ | ⟨b, q⟩
    · rw [mgT_nil', mgT_nil']
    by_cases hba : b.2 < a.2
    · rw [mgT_right hba]
      by_cases hbx : b.2 < x.2
      · rw [mgT_right hbx, ih (a :: p) q (by simp at hn ⊢; omega)]
        by_cases hax : a.2 < x.2
        · rw [mgT_right hax, mgT_right hba]
        · rw [mgT_left hax, mgT_nil, mgT_right hbx]
      · rw [mgT_left hbx, mgT_nil, mgT_left (show ¬ a.2 < x.2 by omega), mgT_nil, mgT_left hbx, mgT_right hba]
    · rw [mgT_left hba]
      by_cases hax : a.2 < x.2
      · rw [mgT_right hax, mgT_right hax, mgT_left hba, ih p (b :: q) (by simp at hn ⊢; omega)]
      · rw [mgT_left hax, mgT_nil, mgT_left hax, mgT_nil, mgT_left (show ¬ b.2 < x.2 by omega), mgT_left hba]
/-- A list in order of time, those of the same time as they stood. -/
def stT : List (Int × Int) → List (Int × Int)
  | [] => []
  | x :: l => List.merge [x] (stT l) leT
theorem stT_app : ∀ l m, stT (l ++ m) = List.merge (stT l) (stT m) leT
  | [], m => by rw [List.nil_append, stT, mgT_nil]
  | x :: l, m => by rw [List.cons_append, stT, stT, stT_app l m, mgT_one x _ _ _ (Nat.le_refl _)]
def srtT (l : List (Int × Int)) : Prop := l.Pairwise fun x y => x.2 ≤ y.2
theorem stT_of : ∀ {l}, srtT l → stT l = l
  | [], _ => rfl
  | x :: l, h => by
    obtain ⟨h1, h2⟩ := List.pairwise_cons.1 h
    rw [stT, stT_of h2]
    exact mgT_first (B1 := []) (fun y hy => by cases hy) h1
theorem stT_one (x : Int × Int) : stT [x] = [x] := by rw [stT, stT, mgT_nil']
theorem stT_snoc (l : List (Int × Int)) (x : Int × Int) : stT (l ++ [x]) = List.merge (stT l) [x] leT := by rw [stT_app, stT_one]
theorem mgT_mem {A B : List (Int × Int)} {x : Int × Int} : x ∈ List.merge A B leT ↔ x ∈ A ∨ x ∈ B := by
  rw [(List.merge_perm_append (le := leT)).mem_iff, List.mem_append]
theorem mgT_len (A B : List (Int × Int)) : (List.merge A B leT).length = A.length + B.length := by
  rw [(List.merge_perm_append (le := leT)).length_eq, List.length_append]
theorem stT_len : ∀ l, (stT l).length = l.length
  | [] => rfl
  | x :: l => by rw [stT, mgT_len, stT_len l]; simp; omega
theorem mgT_srt {A B : List (Int × Int)} (h : srtT A) (g : srtT B) : srtT (List.merge A B leT) := by
  have key : ∀ x y : Int × Int, leT x y = true ↔ x.2 ≤ y.2 := fun x y => by rw [leT]; simp
  have h' : A.Pairwise fun x y => leT x y = true := h.imp fun q => (key _ _).2 q
  have g' : B.Pairwise fun x y => leT x y = true := g.imp fun q => (key _ _).2 q
  have := List.pairwise_merge (le := leT) (fun a b c q r => (key a c).2 (Int.le_trans ((key a b).1 q) ((key b c).1 r))) (fun a b => by
    rcases Int.le_total a.2 b.2 with q | q
    · rw [(key a b).2 q]; rfl
    · rw [(key b a).2 q, Bool.or_true]) A B h' g'
  exact this.imp fun q => (key _ _).1 q
theorem stT_srt : ∀ l, srtT (stT l)
  | [] => List.Pairwise.nil
  | x :: l => mgT_srt (List.pairwise_singleton ..) (stT_srt l)
theorem stT_merge {a b : List (Int × Int)} (ha : srtT a) (hb : srtT b) : stT (a ++ b) = List.merge a b leT := by rw [stT_app, stT_of ha, stT_of hb]
end Go.Proofs.YthffeljicohpdaaGreatDoor
