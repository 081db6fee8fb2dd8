/- The walks through the reference's sort of texts, and its search for repeats. -/
import Derived.Test.YtmdmnjjlpefigaaP6s
import Derived.Test.YtmdmnjjlpefigaaApp2
import Derived.Test.YtmdmnjjlpefigaaW7t
namespace Go.Proofs.Ytmdmnjjlpefigaa
set_option linter.unusedVariables false
set_option linter.unusedSimpArgs false
open Go.ChangeShapes Go.WideShapes Go.ChangeAt Go.RowKit Go.Deep
/-- A part of a row. -/
theorem Recs.part {α : Type} {e : α → List Value} {s : Nat} {w : World} {b o : Nat} {l : List α} (h : Recs e s w (some ⟨b, o, none⟩) l) (i j : Nat) (hij : i ≤ j) (hj : j ≤ l.length) : Recs e s w (some ⟨b, o + i * s, none⟩) ((l.drop i).take (j - i)) := by
  refine ⟨h.1, by rw [flatMap_len h.1], fun hn => ?_⟩
  have hlen : ((l.drop i).take (j - i)).length = j - i := by rw [List.length_take, List.length_drop]; omega
  obtain ⟨b', o', e1, hb, hc⟩ := h.cells (by omega)
  injection e1 with e1
  injection e1 with e1 e2
  subst e1 e2
  refine ⟨b, o + i * s, rfl, hb, fun q u hu => ?_⟩
  have hq := (List.getElem?_eq_some_iff.1 hu).1
  rw [flatMap_len h.1, hlen] at hq
  have hs : 0 < s := by
    rcases Nat.eq_zero_or_pos s with h0 | h0
    · subst h0; omega
    · exact h0
  have hdm : q / s * s + q % s = q := Nat.div_add_mod' q s
  have hqs : q / s < j - i := Nat.div_lt_of_lt_mul (by rw [Nat.mul_comm]; exact hq)
  obtain ⟨x, hx⟩ := some_of_lt (l := (l.drop i).take (j - i)) (k := q / s) (by omega)
  have a1 := flatMap_at h.1 _ (q / s) x (q % s) hx (Nat.mod_lt q hs)
  rw [hdm, hu] at a1
  have hx2 : l[i + q / s]? = some x := by
    rw [List.getElem?_take, if_pos hqs, List.getElem?_drop] at hx; exact hx
  have := hc (i + q / s) x (q % s) u hx2 a1.symm
  rw [show o + i * s + q = o + (i + q / s) * s + q % s by rw [Nat.add_mul]; omega]
  exact this
theorem Owned.cap {α : Type} {e : α → List Value} {s : Nat} {E : TypeId} {w : World} {base : Nat} {A : Option Addr} {n c : Nat} {l : List α} (h : Owned e s E w base A n c l) : n ≤ c ∧ c ≤ 9223372036854775807 := by
  rcases h.2.2.2 with ⟨hv, h0⟩ | ⟨g, cap, cur, hv, _, _, hnc, hcap, _, _⟩
  · injection hv with _ _ e3
    subst e3 h0
    exact ⟨Nat.le_refl _, by omega⟩
  · injection hv with _ _ e3
    subst e3
    exact ⟨hnc, by unfold maxLen at hcap; omega⟩
theorem spec_l1OwnS {A : Option Addr} {N c : Nat} {l : List ByteArray} {w : World} (hN : l.length = N) (h : Strs w A l) (hz : N ≤ 16000000) :
    Calls Try.prog 72 #[.slice A N c] w fun e w' => ∃ A' c', e = .returned (.slice A' N c') ∧ Owned strE 1 9 w' w.heap.size A' N c' l ∧ Below w.heap.size w w' := by
  go_in
  go_wp2_with (first | (at_builtin; go_must ((refine wpList_append_recs Try.elStr strE_one rfl (.tmp 3) (.tmp 4) rfl rfl (Owned.empty (E := 9) strE_len w (Nat.le_refl _)) rfl (h.up (by (repeat' (first | (with_reducible exact Below.refl _ _) | (with_reducible assumption) | (with_reducible refine below_drewN ?_ _) | (with_reducible refine Below.drew ?_) | (with_reducible refine below_alloc ?_ _) | (with_reducible refine Below.alloc ?_ ?_ _) | (with_reducible refine Below.setCell ?_ ?_ _) | (with_reducible refine below_go ?_ (by with_reducible assumption)) | (with_reducible refine below_then (by with_reducible assumption) ?_ ?_) | go_size)))) hN ?_ (by decide) ?_ ?_; (focus (first | omega | (simp only [World.size_alloc]; done) | (simp only [World.size_alloc]; omega) | (simp; done) | (simp; omega))); (focus (first | omega | (simp only [World.size_alloc]; done) | (simp only [World.size_alloc]; omega) | (simp; done) | (simp; omega))); intro A2 c2 w2 ho2 hg2 hl2))))
  go_ret
  have hb := lit_app hg2
  rw [Nat.zero_add, List.nil_append] at ho2
  exact ⟨_, _, rfl, ho2, hb⟩
/-- Where x[1:] begins. -/
def tailOff (o s c : Nat) : Nat := if c = 1 then o else o + s
theorem Try.tailStrs (b o n c : Nat) (h1 : 1 ≤ n) (u : World) : (Instr.slice 22 (.slice (some ⟨b, o, none⟩) n c) (some (.int .i64 1)) none none).run Try.prog u = .ok (.slice (some ⟨b, tailOff o 1 c, none⟩) (n - 1) (c - 1)) u := by
  have e1 : Try.prog.underlying 22 = some (.slice (Try.prog.elem 22)) := by kernel_rfl
  have e2 : (sizeOf (Try.prog.elem 22)).run Try.prog u = .ok 1 u := by kernel_rfl
  rw [run_slice_l (P := Try.prog) (w := u) 22 (some ⟨b, o, none⟩) n c e1 .i64 1 (by omega) (by omega), e2]
  simp only [Result.andThen_ok, sliced, tailOff]
  by_cases hc : c = 1
  · rw [if_pos hc, if_pos (by omega)]; rfl
  · rw [if_neg hc, if_neg (by omega)]; rfl
theorem Recs.tail {α : Type} {e : α → List Value} {s : Nat} {w : World} {b o n c : Nat} {x : α} {l : List α} (h : Recs e s w (some ⟨b, o, none⟩) (x :: l)) (hn : l.length + 1 = n) (hc : n ≤ c) : Recs e s w (some ⟨b, tailOff o s c, none⟩) l := by
  by_cases h1 : c = 1
  · have : l = [] := List.eq_nil_of_length_eq_zero (by omega)
    subst this
    exact ⟨h.1, Rd.none_ _ _ _⟩
  · rw [tailOff, if_neg h1]
    have := h.part 1 (l.length + 1) (by omega) (by simp)
    rw [Nat.one_mul, List.drop_succ_cons, List.drop_zero, Nat.add_sub_cancel, List.take_of_length_le (Nat.le_refl _)] at this
    exact this
def slLen : Value → Nat
  | .slice _ n _ => n
  | _ => 0
theorem merge_left {x y : ByteArray} {a b : List ByteArray} (h : less y x = false) : List.merge (x :: a) (y :: b) leS = x :: List.merge a (y :: b) leS := by
  rw [List.cons_merge_cons_pos leS a b (by simp [leS, h])]
theorem merge_right {x y : ByteArray} {a b : List ByteArray} (h : less y x = true) : List.merge (x :: a) (y :: b) leS = y :: List.merge (x :: a) b leS := by
  rw [List.cons_merge_cons_neg leS a b (by simp [leS, h])]
set_option maxHeartbeats 2000000 in
set_option maxRecDepth 100000 in
theorem spec_l6Sort : ∀ (N : Nat) (A : Option Addr) (c : Nat) (l : List ByteArray) (w : World), l.length = N → Strs w A l → N ≤ 16000000 → (∀ s ∈ l, s.size ≤ 16777216) →
    Calls Try.prog 108 #[.slice A N c] w fun e w' => ∃ A' c' L, e = .returned (.slice A' N c') ∧ Owned strE 1 9 w' w.heap.size A' N c' L ∧ L.Perm l ∧ Srt L ∧ Below w.heap.size w w' := by
  intro N
  induction N using Nat.strongRecOn with
  | ind N ih =>
    intro A c l w hN h hz hs
    have HS := Lib.hid hs
    have IH := Lib.hid ih
    clear hs ih
    by_cases h2 : N < 2
    · have hsrt : Srt l := by
        match l, hN with
        | [], _ => exact List.Pairwise.nil
        | [x], _ => exact List.pairwise_singleton _ _
        | x :: y :: r, e => simp at e; omega
      go_in
      go_wp2_with fail
      refine (spec_l1OwnS hN h hz).mono ?_; rintro e w1 ⟨A1, c1, rfl, ho, hb1⟩
      go_wp2
      go_ret
      exact ⟨_, _, l, rfl, ho, List.Perm.refl _, hsrt, hb1⟩
    · subst hN
      obtain ⟨m, hm⟩ : ∃ m, m = l.length / 2 := ⟨_, rfl⟩
      have hm1 : 1 ≤ m := by omega
      have hm2 : m < l.length := by omega
      go_in
      go_wp2_with fail
      refine (spec_l1OwnS rfl h hz).mono ?_; rintro e w1 ⟨A1, c1, rfl, ho, hb1⟩
      obtain ⟨g, rfl, g0, g1, _, _⟩ := ho.at_ (by omega)
      go_wp2
      have hR := ho.recs
      have R1 : Hid (Strs w1.drew (some ⟨g, 0, none⟩) (l.take m)) := Lib.hid (by have := (hR.part 0 m (Nat.zero_le _) (by omega)).drew; simpa using this)
      have R2 : Hid (Strs w1 (some ⟨g, m, none⟩) (l.drop m)) := Lib.hid (by have := hR.part m l.length (by omega) (Nat.le_refl _); rw [Nat.mul_one, Nat.zero_add, List.take_of_length_le (by rw [List.length_drop]; omega)] at this; exact this)
      have T1 := Lib.hid (show (l.take m).length = m by rw [List.length_take]; omega)
      have T2 := Lib.hid (show (l.drop m).length = l.length - m by rw [List.length_drop])
      have hq : ((l.length : Int)).tdiv 2 = (m : Int) := by rw [Int.tdiv_eq_ediv_of_nonneg (by omega)]; omega
      have hw : IntKind.i64.wrap (m : Int) = (m : Int) := wrap_id (by omega)
      obtain ⟨hc1, hc2⟩ := ho.cap
      have hw2 : wrap64 (m : Int) = (m : Int) := by unfold wrap64; omega
      have hq2 : (l.length : Int) / 2 = (m : Int) := by omega
      have hle1 : (m : Int) ≤ (c1 : Int) := by omega
      have hle2 : (m : Int) ≤ (l.length : Int) := by omega
      have hle3 : (l.length : Int) ≤ (c1 : Int) := by omega
      have hne : ¬ c1 = m := by omega
      have hne2 : ¬ c1 - m = 0 := by omega
      clear hm
      go_region_held3 (fun u => True) (first | trivial) (first | (go_at_call 108; ((with_reducible refine (IH.out (l.length - m) (by omega) (some ⟨g, m, none⟩) (c1 - m) (l.drop m) _ T2.out (R2.out.up hb2) (by omega) (fun s hs => HS.out s (List.mem_of_mem_drop hs))).mono ?_); rintro e w3 ⟨A3, c3, L3, rfl, o3, p3, s3, hb3⟩)) | (go_at_call 108; refine (IH.out m (by omega) (some ⟨g, 0, none⟩) c1 (l.take m) _ T1.out R1.out (by omega) (fun s hs => HS.out s (List.mem_of_mem_take hs))).mono ?_; rintro e w2 ⟨A2, c2, L2, rfl, o2, p2, s2, hbd2⟩; have hb2 := below_of_drew hbd2))
      clear hw hw2 hq hq2
      have HM := Lib.hid (show (List.merge L2 L3 leS).Perm l from (merge_perm L2 L3).trans ((p2.append p3).trans (by rw [List.take_append_drop])))
      have HR := Lib.hid (merge_srt s2 s3)
      have o2' := o2.up hb3
      obtain ⟨c21, c22⟩ := o2.cap
      obtain ⟨c31, c32⟩ := o3.cap
      have hB3 := (below_go hb1 hb2)
      have hB3 := below_go hB3 hb3
      clear hbd2 p2 p3 s2 s3
      go_wp2
      go_loopw [4, 5, 6] (fun va vb vc wr => ∃ (Aa : Option Addr) (na ca : Nat) (la : List ByteArray) (Ab : Option Addr) (nb cb : Nat) (lb : List ByteArray) (A' : Option Addr) (m' c' : Nat) (M : List ByteArray), va = .slice Aa na ca ∧ vb = .slice Ab nb cb ∧ vc = .slice A' m' c' ∧ na ≤ ca ∧ nb ≤ cb ∧ ca ≤ 9223372036854775807 ∧ cb ≤ 9223372036854775807 ∧ m' + na + nb = l.length ∧ Hid (la.length = na) ∧ Hid (lb.length = nb) ∧ Hid (Strs w3 Aa la) ∧ Hid (Strs w3 Ab lb) ∧ Hid (Owned strE 1 9 wr w3.heap.size A' m' c' M) ∧ Hid (M ++ List.merge la lb leS = List.merge L2 L3 leS) ∧ Below w3.heap.size w3 wr) (fun va vb _ _ => slLen va + slLen vb)
      case atStart => exact ⟨_, m, c2, L2, _, l.length - m, c3, L3, none, 0, 0, [], rfl, rfl, rfl, by omega, by omega, by omega, by omega, by omega, Lib.hid o2.len, Lib.hid o3.len, Lib.hid o2'.recs, Lib.hid o3.recs, Lib.hid (Owned.nil strE_len _ _ _), Lib.hid (by simp), Below.refl _ _⟩
      case round =>
        obtain ⟨Aa, na, ca, la, Ab, nb, cb, lb, A', m', c', M, rfl, rfl, rfl, hna, hnb, hca, hcb, hsum, HLa, HLb, HA, HB, HO, HQ, hb⟩ := hrel
        have hsz := hb.size
        by_cases ha0 : na = 0
        · have HF := Lib.hid (show M ++ la ++ lb = List.merge L2 L3 leS by
            have : la = [] := List.eq_nil_of_length_eq_zero (by rw [HLa.out]; exact ha0)
            rw [← HQ.out, this, List.append_nil]; simp)
          have HS2 := Lib.hid hsum
          have hbd : m' + na + nb ≤ 16000000 := by omega
          have hI : ¬ (0 : Int) < (na : Int) := by omega
          clear ha0 hsum
          go_wp2_with (first | (at_builtin; ((refine wpList_append_recs Try.elStr strE_one rfl (.tmp 56) (.tmp 57) rfl rfl HO.out rfl (HA.out.below hb (Nat.le_refl _)) HLa.out ?_ (by decide) ?_ ?_; (focus (first | omega | (simp only [World.size_alloc]; done) | (simp only [World.size_alloc]; omega) | (simp; done) | (simp; omega))); (focus (first | omega | (simp only [World.size_alloc]; done) | (simp only [World.size_alloc]; omega) | (simp; done) | (simp; omega))); intro A4 c4 w4 ho4 hg4 hl4; have hb4 := hb.trans (grown_base hg4 hsz (fun k hk => (HO.out.blk hk).1)); have hsz4 := hb4.size))) | (at_builtin; go_must ((refine wpList_append_recs Try.elStr strE_one rfl (.tmp 58) (.tmp 59) rfl rfl ho4 rfl (HB.out.below hb4 (Nat.le_refl _)) HLb.out ?_ (by decide) ?_ ?_; (focus (first | omega | (simp only [World.size_alloc]; done) | (simp only [World.size_alloc]; omega) | (simp; done) | (simp; omega))); (focus (first | omega | (simp only [World.size_alloc]; done) | (simp only [World.size_alloc]; omega) | (simp; done) | (simp; omega))); intro A5 c5 w5 ho5 hg5 hl5))))
          have hb5 := hb4.trans (grown_base hg5 hsz4 (fun k hk => (ho4.blk hk).1))
          go_ret
          rw [HF.out, HS2.out] at ho5
          rw [HS2.out]
          exact ⟨_, _, rfl, _, ho5.base_le hB3.size, HM.out, HR.out, below_go hB3 hb5⟩
        · by_cases hb0 : nb = 0
          · have HF := Lib.hid (show M ++ la ++ lb = List.merge L2 L3 leS by
              have : lb = [] := List.eq_nil_of_length_eq_zero (by rw [HLb.out]; exact hb0)
              rw [← HQ.out, this, List.append_nil]; simp)
            have HS2 := Lib.hid hsum
            have hbd : m' + na + nb ≤ 16000000 := by omega
            have hI : (0 : Int) < (na : Int) := by omega
            have hJ : ¬ (0 : Int) < (nb : Int) := by omega
            clear ha0 hb0 hsum
            go_wp2_with (first | (at_builtin; ((refine wpList_append_recs Try.elStr strE_one rfl (.tmp 56) (.tmp 57) rfl rfl HO.out rfl (HA.out.below hb (Nat.le_refl _)) HLa.out ?_ (by decide) ?_ ?_; (focus (first | omega | (simp only [World.size_alloc]; done) | (simp only [World.size_alloc]; omega) | (simp; done) | (simp; omega))); (focus (first | omega | (simp only [World.size_alloc]; done) | (simp only [World.size_alloc]; omega) | (simp; done) | (simp; omega))); intro A4 c4 w4 ho4 hg4 hl4; have hb4 := hb.trans (grown_base hg4 hsz (fun k hk => (HO.out.blk hk).1)); have hsz4 := hb4.size))) | (at_builtin; go_must ((refine wpList_append_recs Try.elStr strE_one rfl (.tmp 58) (.tmp 59) rfl rfl ho4 rfl (HB.out.below hb4 (Nat.le_refl _)) HLb.out ?_ (by decide) ?_ ?_; (focus (first | omega | (simp only [World.size_alloc]; done) | (simp only [World.size_alloc]; omega) | (simp; done) | (simp; omega))); (focus (first | omega | (simp only [World.size_alloc]; done) | (simp only [World.size_alloc]; omega) | (simp; done) | (simp; omega))); intro A5 c5 w5 ho5 hg5 hl5))))
            have hb5 := hb4.trans (grown_base hg5 hsz4 (fun k hk => (ho4.blk hk).1))
            go_ret
            rw [HF.out, HS2.out] at ho5
            rw [HS2.out]
            exact ⟨_, _, rfl, _, ho5.base_le hB3.size, HM.out, HR.out, below_go hB3 hb5⟩
          · obtain ⟨x, la', hla⟩ : ∃ x la', la = x :: la' := by
              rcases la with _ | ⟨x, la'⟩
              · exact absurd HLa.out.symm ha0
              · exact ⟨x, la', rfl⟩
            obtain ⟨y, lb', hlb⟩ : ∃ y lb', lb = y :: lb' := by
              rcases lb with _ | ⟨y, lb'⟩
              · exact absurd HLb.out.symm hb0
              · exact ⟨y, lb', rfl⟩
            subst hla hlb
            obtain ⟨b1, o1, _, rfl, bb1, hx, hcx⟩ := (HA.out.below hb (Nat.le_refl _)).at_str (k := 0) (by simp)
            obtain ⟨b2, o2, _, rfl, bb2, hy, hcy⟩ := (HB.out.below hb (Nat.le_refl _)).at_str (k := 0) (by simp)
            simp at hx hy
            subst hx hy
            simp only [Nat.add_zero] at hcx hcy
            have t1 := Try.tailStrs b1 o1 na ca (by omega)
            have t2 := Try.tailStrs b2 o2 nb cb (by omega)
            rcases hl : less y x
            · have hl1 : Op.bytesLess y.toList x.toList = false := hl
              have hq1 := Lib.hid (merge_left (a := la') (b := lb') hl)
              clear hl t2
              go_wp2
              go_quiet (fail)
              go_wp2_with (first | (at_builtin; go_must ((refine wpList_append_rec Try.elStr rfl (.tmp 48) (.tmp 52) rfl rfl ((HO.out.drewN _).alloc _) x rfl (Box.at_ _ [.string x] _ ?_) (strE_one _) ?_ (by decide) ?_ ?_; (focus (first | omega | (simp only [World.size_alloc]; done) | (simp only [World.size_alloc]; omega) | (simp; done) | (simp; omega))); (focus (first | omega | (simp only [World.size_alloc]; done) | (simp only [World.size_alloc]; omega) | (simp; done) | (simp; omega))); (focus (first | omega | (simp only [World.size_alloc]; done) | (simp only [World.size_alloc]; omega) | (simp; done) | (simp; omega))); intro A4 c4 w4 ho4 hg4 hb4))))
              go_roundw
              case rel => exact ⟨some ⟨b1, tailOff o1 1 ca, none⟩, na - 1, ca - 1, la', some ⟨b2, o2, none⟩, nb, cb, y :: lb', A4, m' + 1, c4, M ++ [x], rfl, rfl, rfl, by omega, by omega, by omega, by omega, by omega, Lib.hid (by have := HLa.out; simp at this; omega), HLb, Lib.hid (HA.out.tail (by have := HLa.out; simpa using this) hna), HB, Lib.hid ho4, Lib.hid (by rw [← HQ.out, hq1.out, List.append_assoc]; rfl), ((below_drewN hb _).alloc (by simp; omega) _).trans hb4⟩
              case measure => simp [slLen]; omega
            · have hl1 : Op.bytesLess y.toList x.toList = true := hl
              have hq1 := Lib.hid (merge_right (a := la') (b := lb') hl)
              clear hl t1
              go_wp2
              go_quiet (fail)
              go_wp2_with (first | (at_builtin; go_must ((refine wpList_append_rec Try.elStr rfl (.tmp 40) (.tmp 44) rfl rfl ((HO.out.drewN _).alloc _) y rfl (Box.at_ _ [.string y] _ ?_) (strE_one _) ?_ (by decide) ?_ ?_; (focus (first | omega | (simp only [World.size_alloc]; done) | (simp only [World.size_alloc]; omega) | (simp; done) | (simp; omega))); (focus (first | omega | (simp only [World.size_alloc]; done) | (simp only [World.size_alloc]; omega) | (simp; done) | (simp; omega))); (focus (first | omega | (simp only [World.size_alloc]; done) | (simp only [World.size_alloc]; omega) | (simp; done) | (simp; omega))); intro A4 c4 w4 ho4 hg4 hb4))))
              go_roundw
              case rel => exact ⟨some ⟨b1, o1, none⟩, na, ca, x :: la', some ⟨b2, tailOff o2 1 cb, none⟩, nb - 1, cb - 1, lb', A4, m' + 1, c4, M ++ [y], rfl, rfl, rfl, by omega, by omega, by omega, by omega, by omega, HLa, Lib.hid (by have := HLb.out; simp at this; omega), HA, Lib.hid (HB.out.tail (by have := HLb.out; simpa using this) hnb), Lib.hid ho4, Lib.hid (by rw [← HQ.out, hq1.out, List.append_assoc]; rfl), ((below_drewN hb _).alloc (by simp; omega) _).trans hb4⟩
              case measure => simp [slLen]; omega
end Go.Proofs.Ytmdmnjjlpefigaa
