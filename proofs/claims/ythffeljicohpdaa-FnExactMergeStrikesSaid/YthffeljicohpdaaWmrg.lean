/- The walk through the reference's merging of two lists of strikes. -/
import Derived.Test.YthffeljicohpdaaCstrike
import Derived.Test.YthffeljicohpdaaW6s
namespace Go.Proofs.Ythffeljicohpdaa
set_option linter.unusedVariables false
set_option linter.unusedSimpArgs false
open Go.ChangeShapes Go.WideShapes Go.ChangeAt Go.RowKit Go.Deep
theorem Try.tailStrikes (b o n c : Nat) (h1 : 1 ≤ n) (u : World) : (Instr.slice 24 (.slice (some ⟨b, o, none⟩) n c) (some (.int .i64 1)) none none).run Try.prog u = .ok (.slice (some ⟨b, tailOff o 2 c, none⟩) (n - 1) (c - 1)) u := by
  have e1 : Try.prog.underlying 24 = some (.slice (Try.prog.elem 24)) := by kernel_rfl
  have e2 : (sizeOf (Try.prog.elem 24)).run Try.prog u = .ok 2 u := by kernel_rfl
  rw [run_slice_l (P := Try.prog) (w := u) 24 (some ⟨b, o, none⟩) n c e1 .i64 1 (by omega) (by omega), e2]
  simp only [Result.andThen_ok, sliced, tailOff]
  by_cases hc : c = 1
  · rw [if_pos hc, if_pos (by omega)]; rfl
  · rw [if_neg hc, if_neg (by omega)]; rfl
/-- Not later. -/
def leT (x y : Int × Int) : Bool := !decide (y.2 < x.2)
theorem mgT_left {x y : Int × Int} {a b : List (Int × Int)} (h : ¬ y.2 < x.2) : List.merge (x :: a) (y :: b) leT = x :: List.merge a (y :: b) leT := by
  rw [List.cons_merge_cons_pos leT a b (by simp [leT]; omega)]
theorem mgT_right {x y : Int × Int} {a b : List (Int × Int)} (h : y.2 < x.2) : List.merge (x :: a) (y :: b) leT = y :: List.merge (x :: a) b leT := by
  rw [List.cons_merge_cons_neg leT a b (by simp [leT]; omega)]
theorem head_2 {w : World} {A : Option Addr} {x : Int × Int} {l : List (Int × Int)} (h : Recs strikeE 2 w A (x :: l)) : ∃ b o, A = some ⟨b, o, none⟩ ∧ b < w.heap.size ∧ w.cell? ⟨b, o, none⟩ = some (.int .i64 x.1) ∧ w.cell? ⟨b, o + 1, none⟩ = some (.int .i64 x.2) := by
  obtain ⟨b, o, h1, h2, h3, h4⟩ := Recs.at_2 (f := fun s : Int × Int => Value.int .i64 s.1) (g := fun s : Int × Int => Value.int .i64 s.2) (k := 0) (x := x) h rfl
  refine ⟨b, o, h1, h2, ?_, ?_⟩
  · simpa using h3
  · simpa using h4
set_option maxHeartbeats 2000000 in
set_option maxRecDepth 100000 in
theorem spec_l21Merge {A B : Option Addr} {n m c d : Nat} {l1 l2 : List (Int × Int)} {w : World} (hn : l1.length = n) (h : Recs strikeE 2 w A l1) (hm : l2.length = m) (g : Recs strikeE 2 w B l2) (hz : n + m ≤ 16000000) (hnc : n ≤ c) (hmd : m ≤ d) (hc : c ≤ 9223372036854775807) (hd : d ≤ 9223372036854775807) :
    Calls Try.prog 12 #[.slice A n c, .slice B m d] w fun e w' => ∃ A' c', e = .returned (.slice A' (n + m) c') ∧ Owned strikeE 2 34 w' w.heap.size A' (n + m) c' (List.merge l1 l2 leT) ∧ Below w.heap.size w w' := by
  have HN := Lib.hid hn
  have HM := Lib.hid hm
  have HX := Lib.hid h
  have HY := Lib.hid g
  clear hn hm h g
  go_in
  go_wp2
  go_loopw [0, 1, 5] (fun va vb vc wr => ∃ (Aa : Option Addr) (na ca : Nat) (la : List (Int × Int)) (Ab : Option Addr) (nb cb : Nat) (lb : List (Int × Int)) (A' : Option Addr) (m' c' : Nat) (M : List (Int × Int)), va = .slice Aa na ca ∧ vb = .slice Ab nb cb ∧ vc = .slice A' m' c' ∧ na ≤ ca ∧ nb ≤ cb ∧ ca ≤ 9223372036854775807 ∧ cb ≤ 9223372036854775807 ∧ m' + na + nb = n + m ∧ Hid (la.length = na) ∧ Hid (lb.length = nb) ∧ Hid (Recs strikeE 2 w Aa la) ∧ Hid (Recs strikeE 2 w Ab lb) ∧ Hid (Owned strikeE 2 34 wr w.heap.size A' m' c' M) ∧ Hid (M ++ List.merge la lb leT = List.merge l1 l2 leT) ∧ Below w.heap.size w wr) (fun va vb _ _ => slLen va + slLen vb)
  case atStart => exact ⟨A, n, c, l1, B, m, d, l2, none, 0, 0, [], rfl, rfl, rfl, hnc, hmd, hc, hd, by omega, HN, HM, HX, HY, Lib.hid (Owned.nil strikeE_len _ _ _), Lib.hid (by simp), Below.refl _ _⟩
  case round =>
    obtain ⟨Aa, na, ca, la, Ab, nb, cb, lb, A', m', c', M, rfl, rfl, rfl, hna, hnb, hca, hcb, hsum, HLa, HLb, HA, HB, HO, HQ, hb⟩ := hrel
    rename World => wr
    have hsz := hb.size
    by_cases ha0 : na = 0
    · have HF := Lib.hid (show M ++ la ++ lb = List.merge l1 l2 leT by
        have : la = [] := List.eq_nil_of_length_eq_zero (by rw [HLa.out]; exact ha0)
        rw [← HQ.out, this, List.append_nil]; simp)
      have HS2 := Lib.hid hsum
      have hbd : m' + na + nb ≤ 16000000 := by omega
      have hI : ¬ (0 : Int) < (na : Int) := by omega
      clear ha0 hsum
      go_wp2_with (first | (at_builtin; ((refine wpList_append_recs Try.elStrike strikeE_one rfl (.tmp 39) (.tmp 40) rfl rfl HO.out rfl (HA.out.below hb (Nat.le_refl _)) HLa.out ?_ (by decide) ?_ ?_; (focus (first | omega | (simp only [World.size_alloc]; done) | (simp only [World.size_alloc]; omega) | (simp; done) | (simp; omega))); (focus (first | omega | (simp only [World.size_alloc]; done) | (simp only [World.size_alloc]; omega) | (simp; done) | (simp; omega))); intro A4 c4 w4 ho4 hg4 hl4; have hb4 := hb.trans (grown_base hg4 hsz (fun k hk => (HO.out.blk hk).1)); have hsz4 := hb4.size))) | (at_builtin; go_must ((refine wpList_append_recs Try.elStrike strikeE_one rfl (.tmp 41) (.tmp 42) rfl rfl ho4 rfl (HB.out.below hb4 (Nat.le_refl _)) HLb.out ?_ (by decide) ?_ ?_; (focus (first | omega | (simp only [World.size_alloc]; done) | (simp only [World.size_alloc]; omega) | (simp; done) | (simp; omega))); (focus (first | omega | (simp only [World.size_alloc]; done) | (simp only [World.size_alloc]; omega) | (simp; done) | (simp; omega))); intro A5 c5 w5 ho5 hg5 hl5))))
      have hb5 := hb4.trans (grown_base hg5 hsz4 (fun k hk => (ho4.blk hk).1))
      go_ret
      rw [HF.out, HS2.out] at ho5
      rw [HS2.out]
      exact ⟨_, _, rfl, ho5, hb5⟩
    · by_cases hb0 : nb = 0
      · have HF := Lib.hid (show M ++ la ++ lb = List.merge l1 l2 leT by
          have : lb = [] := List.eq_nil_of_length_eq_zero (by rw [HLb.out]; exact hb0)
          rw [← HQ.out, this, List.append_nil]; simp)
        have HS2 := Lib.hid hsum
        have hbd : m' + na + nb ≤ 16000000 := by omega
        have hI : (0 : Int) < (na : Int) := by omega
        have hJ : ¬ (0 : Int) < (nb : Int) := by omega
        clear ha0 hb0 hsum
        go_wp2_with (first | (at_builtin; ((refine wpList_append_recs Try.elStrike strikeE_one rfl (.tmp 39) (.tmp 40) rfl rfl HO.out rfl (HA.out.below hb (Nat.le_refl _)) HLa.out ?_ (by decide) ?_ ?_; (focus (first | omega | (simp only [World.size_alloc]; done) | (simp only [World.size_alloc]; omega) | (simp; done) | (simp; omega))); (focus (first | omega | (simp only [World.size_alloc]; done) | (simp only [World.size_alloc]; omega) | (simp; done) | (simp; omega))); intro A4 c4 w4 ho4 hg4 hl4; have hb4 := hb.trans (grown_base hg4 hsz (fun k hk => (HO.out.blk hk).1)); have hsz4 := hb4.size))) | (at_builtin; go_must ((refine wpList_append_recs Try.elStrike strikeE_one rfl (.tmp 41) (.tmp 42) rfl rfl ho4 rfl (HB.out.below hb4 (Nat.le_refl _)) HLb.out ?_ (by decide) ?_ ?_; (focus (first | omega | (simp only [World.size_alloc]; done) | (simp only [World.size_alloc]; omega) | (simp; done) | (simp; omega))); (focus (first | omega | (simp only [World.size_alloc]; done) | (simp only [World.size_alloc]; omega) | (simp; done) | (simp; omega))); intro A5 c5 w5 ho5 hg5 hl5))))
        have hb5 := hb4.trans (grown_base hg5 hsz4 (fun k hk => (ho4.blk hk).1))
        go_ret
        rw [HF.out, HS2.out] at ho5
        rw [HS2.out]
        exact ⟨_, _, rfl, ho5, hb5⟩
      · obtain ⟨x, la', hla⟩ : ∃ x la', la = x :: la' := by
          rcases la with _ | ⟨x, la'⟩
          · exact absurd HLa.out.symm ha0
          · exact ⟨x, la', rfl⟩
        obtain ⟨y, lb', hlb⟩ : ∃ y lb', lb = y :: lb' := by
          rcases lb with _ | ⟨y, lb'⟩
          · exact absurd HLb.out.symm hb0
          · exact ⟨y, lb', rfl⟩
        subst hla hlb
        obtain ⟨x1, x2⟩ := x
        obtain ⟨y1, y2⟩ := y
        obtain ⟨b1, o1, rfl, bb1, hx1, hx2⟩ := head_2 (HA.out.below hb (Nat.le_refl _))
        obtain ⟨b2, o2, rfl, bb2, hy1, hy2⟩ := head_2 (HB.out.below hb (Nat.le_refl _))
        simp only at hx1 hx2 hy1 hy2
        have t1 := Try.tailStrikes b1 o1 na ca (by omega)
        have t2 := Try.tailStrikes b2 o2 nb cb (by omega)
        by_cases hl : y2 < x2
        · have hq1 := Lib.hid (mgT_right (x := (x1, x2)) (y := (y1, y2)) (a := la') (b := lb') hl)
          clear t1
          go_wp2
          go_quiet (fail)
          go_wp2_with (first | (at_builtin; go_must ((refine wpList_append_rec Try.elStrike rfl (.tmp 23) (.tmp 27) rfl rfl ((HO.out.drewN _).alloc _) (y1, y2) rfl (Box.at_ _ [.int .i64 y1, .int .i64 y2] _ ?_) (strikeE_one _) ?_ (by decide) ?_ ?_; (focus (first | omega | (simp only [World.size_alloc]; done) | (simp only [World.size_alloc]; omega) | (simp; done) | (simp; omega))); (focus (first | omega | (simp only [World.size_alloc]; done) | (simp only [World.size_alloc]; omega) | (simp; done) | (simp; omega))); (focus (first | omega | (simp only [World.size_alloc]; done) | (simp only [World.size_alloc]; omega) | (simp; done) | (simp; omega))); intro A4 c4 w4 ho4 hg4 hb4))))
          go_roundw
          case rel => exact ⟨some ⟨b1, o1, none⟩, na, ca, (x1, x2) :: la', some ⟨b2, tailOff o2 2 cb, none⟩, nb - 1, cb - 1, lb', A4, m' + 1, c4, M ++ [(y1, y2)], rfl, rfl, rfl, by omega, by omega, by omega, by omega, by omega, HLa, Lib.hid (by have := HLb.out; simp at this; omega), HA, Lib.hid (HB.out.tail (by have := HLb.out; simpa using this) hnb), Lib.hid ho4, Lib.hid (by rw [← HQ.out, hq1.out, List.append_assoc]; rfl), ((below_drewN hb _).alloc (by simp; omega) _).trans hb4⟩
          case measure => simp [slLen]; omega
        · have hq1 := Lib.hid (mgT_left (x := (x1, x2)) (y := (y1, y2)) (a := la') (b := lb') hl)
          clear t2
          go_wp2
          go_quiet (fail)
          go_wp2_with (first | (at_builtin; go_must ((refine wpList_append_rec Try.elStrike rfl (.tmp 31) (.tmp 35) rfl rfl ((HO.out.drewN _).alloc _) (x1, x2) rfl (Box.at_ _ [.int .i64 x1, .int .i64 x2] _ ?_) (strikeE_one _) ?_ (by decide) ?_ ?_; (focus (first | omega | (simp only [World.size_alloc]; done) | (simp only [World.size_alloc]; omega) | (simp; done) | (simp; omega))); (focus (first | omega | (simp only [World.size_alloc]; done) | (simp only [World.size_alloc]; omega) | (simp; done) | (simp; omega))); (focus (first | omega | (simp only [World.size_alloc]; done) | (simp only [World.size_alloc]; omega) | (simp; done) | (simp; omega))); intro A4 c4 w4 ho4 hg4 hb4))))
          go_roundw
          case rel => exact ⟨some ⟨b1, tailOff o1 2 ca, none⟩, na - 1, ca - 1, la', some ⟨b2, o2, none⟩, nb, cb, (y1, y2) :: lb', A4, m' + 1, c4, M ++ [(x1, x2)], rfl, rfl, rfl, by omega, by omega, by omega, by omega, by omega, Lib.hid (by have := HLa.out; simp at this; omega), HLb, Lib.hid (HA.out.tail (by have := HLa.out; simpa using this) hna), HB, Lib.hid ho4, Lib.hid (by rw [← HQ.out, hq1.out, List.append_assoc]; rfl), ((below_drewN hb _).alloc (by simp; omega) _).trans hb4⟩
          case measure => simp [slLen]; omega
end Go.Proofs.Ythffeljicohpdaa
