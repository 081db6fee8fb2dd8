/- The right heads of a proof, both sides. -/
import Derived.Test.YtmdmnjjlpefigaaW20h
namespace Go.Proofs.Ytmdmnjjlpefigaa
set_option linter.unusedVariables false
set_option linter.unusedSimpArgs false
open Go.ChangeShapes Go.WideShapes Go.ChangeAt Go.RowKit Go.Deep
def rightB (st : Nat) (l : List ByteArray) (kb ks t : ByteArray) (lH : List ByteArray) : Bool := decide (lH = hdsL st l kb ks t (t.size + 1)) && decide (hdAt st l kb ks t t.size = roundsS st)
def Qd (w w' : World) : Prop := ∃ n, w' = w.drewN n
theorem Qd.refl (w : World) : Qd w w := ⟨0, rfl⟩
theorem Qd.drewN {w w' : World} (h : Qd w w') (n : Nat) : Qd w (w'.drewN n) := by
  obtain ⟨m, rfl⟩ := h
  exact ⟨m + n, by simp only [World.drewN, Nat.add_assoc]⟩
theorem Qd.below {w w' : World} (h : Qd w w') : Below w.heap.size w w' := by
  obtain ⟨m, rfl⟩ := h
  exact below_drewN (Below.refl _ _) _
theorem Qd.more {P : Program} {f : FuncId} {args : Array Value} {w : World} {n : Nat} {v : Value} (h : Calls P f args (w.drewN n) fun e w' => e = .returned v ∧ Qd (w.drewN n) w') :
    Calls P f args (w.drewN n) fun e w'' => e = .returned v ∧ ∃ m, w'' = w.drewN m :=
  h.mono fun _ _ h => ⟨h.1, by obtain ⟨m, rfl⟩ := h.2; exact Qd.drewN (w := w) (w' := w.drewN n) ⟨n, rfl⟩ m⟩
set_option maxRecDepth 100000 in
theorem spec_l1SameSQ (A C : Option Addr) (n n' c d : Nat) (l m : List ByteArray) (w : World) (hn : l.length = n) (hn' : m.length = n') (h : Recs strE 1 w A l) (g : Recs strE 1 w C m) (hz : n ≤ 16777216) (hz' : n' ≤ 16777216) :
    Calls Try.prog 141 #[.slice A n c, .slice C n' d] w fun e w' => e = .returned (.bool (decide (l = m))) ∧ Qd w w' := by
  subst hn hn'
  by_cases hl : l.length = m.length
  · have HL := Lib.hid hl
    rw [← hl]
    clear hl
    go_in
    go_wp2
    go_loopw [13] (fun i wr => ∃ k : Nat, k ≤ l.length ∧ i = .int .i64 k ∧ Hid (∀ j, j < k → l[j]? = m[j]?) ∧ Qd w wr) (fun i _ => l.length - (intOf i).toNat)
    case atStart => exact ⟨0, Nat.zero_le _, rfl, Lib.hid (fun j hj => absurd hj (by omega)), Qd.refl _⟩
    case round =>
      obtain ⟨k, hk, rfl, HT, hb⟩ := hrel
      by_cases hlt : k < l.length
      · obtain ⟨b1, o1, x, rfl, _, hx, hcx⟩ := (h.below hb.below (Nat.le_refl _)).at_str hlt
        obtain ⟨b2, o2, y, rfl, _, hy, hcy⟩ := (g.below hb.below (Nat.le_refl _)).at_str (by rw [← HL.out]; exact hlt)
        have HX := Lib.hid hx
        have HY := Lib.hid hy
        clear hx hy h g
        rcases hne : (x.toList == y.toList)
        · have he := Lib.hid hne
          go_wp2
          go_quiet (fail)
          go_wp2
          go_ret
          refine ⟨ret_bool ?_, (by first | assumption | exact Qd.drewN (by assumption) _ | exact Qd.refl _)⟩
          have hd : l ≠ m := fun e => by
            have h1 := HX.out
            rw [e, HY.out] at h1
            injection h1 with h1
            have h2 := he.out
            rw [h1] at h2
            simp at h2
          simp [hd]
        · have he := Lib.hid hne
          go_wp2
          go_quiet (fail)
          go_wp2
          go_roundw
          case rel => exact ⟨k + 1, by omega, by go_num, Lib.hid (upto_succ HT.out (by rw [HX.out, HY.out, bytes_same he.out])), (by first | assumption | exact Qd.drewN (by assumption) _ | exact Qd.refl _)⟩
          case measure => simp [intOf]; omega
      · go_wp2
        go_ret
        refine ⟨ret_bool ?_, hb⟩
        have hd : l = m := eq_of_upto (fun j hj => HT.out j hj) (by omega) (by have := HL.out; omega)
        simp [hd]
  · have hne : ((l.length : Int) != (m.length : Int)) = true := by simp; omega
    have hd : l ≠ m := fun e => hl (by rw [e])
    have HD := Lib.hid hd
    clear hd hl
    go_in
    go_wp2
    go_ret
    refine ⟨ret_bool ?_, (by first | assumption | exact Qd.drewN (by assumption) _ | exact Qd.refl _)⟩
    simp [HD.out]
set_option maxHeartbeats 1000000 in
set_option maxRecDepth 100000 in
theorem impl_comesRound {A : Option Addr} {n c st : Nat} {nm : ByteArray} {l : List ByteArray} {kb ks : ByteArray} {t : ByteArray} {w : World} (hn : l.length = n) (h : Strs w A l) (hk : goodK nm (st : Int) l kb ks = true) (hg : goodT t = true) :
    Calls Try.prog 180 #[.agg #[.string nm, .int .i64 st, .slice A n c], .agg #[.string kb, .string ks], .string t] w fun e w' => e = .returned (.bool (decide (hdAt st l kb ks t t.size = roundsS st))) ∧ Below w.heap.size w w' := by
  have b0 : Below w.heap.size w ((w.alloc (.cells ⟨[.string nm, .int .i64 st, .slice A n c]⟩ 42)).alloc (.cells ⟨[.string kb, .string ks]⟩ 44)) := by (repeat' (first | (with_reducible exact Below.refl _ _) | (with_reducible assumption) | (with_reducible refine below_drewN ?_ _) | (with_reducible refine Below.drew ?_) | (with_reducible refine below_alloc ?_ _) | (with_reducible refine Below.alloc ?_ ?_ _) | (with_reducible refine Below.setCell ?_ ?_ _) | (with_reducible refine below_go ?_ (by with_reducible assumption)) | (with_reducible refine below_then (by with_reducible assumption) ?_ ?_) | go_size))
  have K0 := (Blk.at_ w 42 [.string nm, .int .i64 st, .slice A n c] (b := w.heap.size) rfl).alloc (.cells ⟨[.string kb, .string ks]⟩ 44)
  have K1 := Blk.at_ (w.alloc (.cells ⟨[.string nm, .int .i64 st, .slice A n c]⟩ 42)) 44 [.string kb, .string ks] (b := w.heap.size + 1) (by simp)
  have h8 := (goodK_all hk).1.2
  go_in
  go_wp2_with fail
  obtain ⟨w0, hw0⟩ : ∃ u, u = ((w.alloc (.cells #[.string nm, .int .i64 st, .slice A n c] 42)).alloc (.cells #[.string kb, .string ks] 44)) := ⟨_, rfl⟩
  rw [← hw0] at b0 K0 K1 ⊢
  clear hw0
  have H0 := Lib.hid (h.up b0)
  have carry : Hid (∀ u : World, Below w0.heap.size w0 u → (u.cell? ⟨w.heap.size, 0, none⟩ = some (.string nm) ∧ u.cell? ⟨w.heap.size, 1, none⟩ = some (.int .i64 st) ∧ u.cell? ⟨w.heap.size, 2, none⟩ = some (.slice A n c)) ∧ u.cell? ⟨w.heap.size + 1, 0, none⟩ = some (.string kb) ∧ u.cell? ⟨w.heap.size + 1, 1, none⟩ = some (.string ks)) := Lib.hid (fun u hu => by
    have L0 := K0.up hu; have L1 := K1.up hu
    exact ⟨⟨by simpa using L0.cell 0, by simpa using L0.cell 1, by simpa using L0.cell 2⟩, by simpa using L1.cell 0, by simpa using L1.cell 1⟩)
  clear h K0 K1
  go_region_held3 (fun u => (u.cell? ⟨w.heap.size, 0, none⟩ = some (.string nm) ∧ u.cell? ⟨w.heap.size, 1, none⟩ = some (.int .i64 st) ∧ u.cell? ⟨w.heap.size, 2, none⟩ = some (.slice A n c)) ∧ u.cell? ⟨w.heap.size + 1, 0, none⟩ = some (.string kb) ∧ u.cell? ⟨w.heap.size + 1, 1, none⟩ = some (.string ks)) (first | exact carry.out _ hb1 | exact carry.out _ (Below.refl _ _) | exact carry.out _ (Below.refl _ _).drew) (first | (go_at_call 129; ((refine (impl_touchEnd hn H0.out.drew hk hg).mono ?_); rintro e w1 ⟨rfl, hbd⟩; have hb1 := below_of_drew hbd)) | (go_at_call 68; ((refine (impl_rounds h8).mono ?_); rintro e w' ⟨rfl, rfl⟩)))
  all_goals
    go_wp2
    go_ret
    rw [dec_str]
    exact ⟨rfl, below_go b0 hb1⟩
set_option maxHeartbeats 1000000 in
theorem impl_rightHeads {A : Option Addr} {n c st : Nat} {nm : ByteArray} {l : List ByteArray} {kb ks : ByteArray} {t : ByteArray} {B : Option Addr} {m d : Nat} {lH : List ByteArray} {w : World} (hn : l.length = n) (h : Strs w A l) (hk : goodK nm (st : Int) l kb ks = true) (hg : goodT t = true) (hm : lH.length = m) (hB : Strs w B lH) (hz : m ≤ 1048576) :
    Calls Try.prog 145 #[.agg #[.string nm, .int .i64 st, .slice A n c], .agg #[.string kb, .string ks], .string t, .slice B m d] w fun e w' => e = .returned (.bool (rightB st l kb ks t lH)) ∧ Below w.heap.size w w' := by
  have b0 : Below w.heap.size w ((w.alloc (.cells ⟨[.string nm, .int .i64 st, .slice A n c]⟩ 42)).alloc (.cells ⟨[.string kb, .string ks]⟩ 44)) := by (repeat' (first | (with_reducible exact Below.refl _ _) | (with_reducible assumption) | (with_reducible refine below_drewN ?_ _) | (with_reducible refine Below.drew ?_) | (with_reducible refine below_alloc ?_ _) | (with_reducible refine Below.alloc ?_ ?_ _) | (with_reducible refine Below.setCell ?_ ?_ _) | (with_reducible refine below_go ?_ (by with_reducible assumption)) | (with_reducible refine below_then (by with_reducible assumption) ?_ ?_) | go_size))
  have K0 := (Blk.at_ w 42 [.string nm, .int .i64 st, .slice A n c] (b := w.heap.size) rfl).alloc (.cells ⟨[.string kb, .string ks]⟩ 44)
  have K1 := Blk.at_ (w.alloc (.cells ⟨[.string nm, .int .i64 st, .slice A n c]⟩ 42)) 44 [.string kb, .string ks] (b := w.heap.size + 1) (by simp)
  have HQ : Hid (rightB st l kb ks t lH = (decide (lH = hdsL st l kb ks t (t.size + 1)) && decide (hdAt st l kb ks t t.size = roundsS st))) := Lib.hid rfl
  have h60 := (goodT_t hg).2.1
  go_in
  go_wp2_with fail
  obtain ⟨w0, hw0⟩ : ∃ u, u = ((w.alloc (.cells #[.string nm, .int .i64 st, .slice A n c] 42)).alloc (.cells #[.string kb, .string ks] 44)) := ⟨_, rfl⟩
  rw [← hw0] at b0 K0 K1 ⊢
  clear hw0
  refine (impl_heads hn (h.up b0) hk hg).mono ?_; rintro e w1 ⟨A1, c1, rfl, ho, hb1⟩
  have hB1 := below_go b0 hb1
  go_wp2_with fail
  refine (equal_strs _ _ _ _ _ _ _ _ _ hm (hdsL_len _ _ _ _ _ _) (hB.up hB1) ho.recs (by omega) (by omega)).mono ?_; rintro e w2 ⟨rfl, hb2⟩
  have hB2 := below_go hB1 hb2
  by_cases hq : lH = hdsL st l kb ks t (t.size + 1)
  · have e1 := Lib.hid (show rightB st l kb ks t lH = decide (hdAt st l kb ks t t.size = roundsS st) by rw [HQ.out, decide_eq_true hq, Bool.true_and])
    have L0 := (K0.up hb1).up hb2; have L1 := (K1.up hb1).up hb2
    have k0 := L0.cell 0; have k1 := L0.cell 1; have k2 := L0.cell 2; have q0 := L1.cell 0; have q1 := L1.cell 1
    simp only [List.getElem?_cons_zero, List.getElem?_cons_succ] at k0 k1 k2 q0 q1
    rw [decide_eq_true hq]
    clear hq
    go_wp2_with fail
    refine (impl_comesRound hn (h.up hB2) hk hg).mono ?_; rintro e w3 ⟨rfl, hb3⟩
    go_wp2
    go_ret
    rw [e1.out]
    exact ⟨rfl, below_go hB2 hb3⟩
  · have e1 := Lib.hid (show rightB st l kb ks t lH = false by rw [HQ.out, decide_eq_false hq, Bool.false_and])
    rw [decide_eq_false hq]
    clear hq
    go_wp2
    go_ret
    rw [e1.out]
    exact ⟨rfl, hB2⟩
set_option maxHeartbeats 2000000 in
set_option maxRecDepth 100000 in
theorem spec_l20Good {A : Option Addr} {n c st : Nat} {nm : ByteArray} {l : List ByteArray} {kb ks : ByteArray} {t : ByteArray} {AH : Option Addr} {nH cH : Nat} {lH : List ByteArray} {AL : Option Addr} {nL cL : Nat} {lL : List Line3} {w : World} (hn : l.length = n) (h : Strs w A l) (hk : goodK nm (st : Int) l kb ks = true) (hg : goodT t = true) (hcap : n ≤ c) (hnH : lH.length = nH) (hH : Strs w AH lH) (hnL : lL.length = nL) (hL : Recs lineE 3 w AL lL) (hzH : nH ≤ 1048576) (hzL : nL ≤ 1048576) (hsH : ∀ s ∈ lH, s.size ≤ 16777216) (hsL : ∀ x ∈ lL, x.1.size ≤ 16777216) :
    Calls Try.prog 94 #[.agg #[.string nm, .int .i64 st, .slice A n c], .agg #[.string kb, .string ks], .string t, .agg #[.slice AH nH cH, .slice AL nL cL]] w fun e w' => e = .returned (.bool (rightB st l kb ks t lH)) ∧ Below w.heap.size w w' := by
  have b0 : Below w.heap.size w (((w.alloc (.cells ⟨[.string nm, .int .i64 st, .slice A n c]⟩ 42)).alloc (.cells ⟨[.string kb, .string ks]⟩ 44)).alloc (.cells ⟨[.slice AH nH cH, .slice AL nL cL]⟩ 71)) := by (repeat' (first | (with_reducible exact Below.refl _ _) | (with_reducible assumption) | (with_reducible refine below_drewN ?_ _) | (with_reducible refine Below.drew ?_) | (with_reducible refine below_alloc ?_ _) | (with_reducible refine Below.alloc ?_ ?_ _) | (with_reducible refine Below.setCell ?_ ?_ _) | (with_reducible refine below_go ?_ (by with_reducible assumption)) | (with_reducible refine below_then (by with_reducible assumption) ?_ ?_) | go_size))
  have K0 := ((Blk.at_ w 42 [.string nm, .int .i64 st, .slice A n c] (b := w.heap.size) rfl).alloc (.cells ⟨[.string kb, .string ks]⟩ 44)).alloc (.cells ⟨[.slice AH nH cH, .slice AL nL cL]⟩ 71)
  have K2 := Blk.at_ ((w.alloc (.cells ⟨[.string nm, .int .i64 st, .slice A n c]⟩ 42)).alloc (.cells ⟨[.string kb, .string ks]⟩ 44)) 71 [.slice AH nH cH, .slice AL nL cL] (b := w.heap.size + 1 + 1) (by simp)
  have HQ : Hid (rightB st l kb ks t lH = (decide (lH = hdsL st l kb ks t (t.size + 1)) && decide (hdAt st l kb ks t t.size = roundsS st))) := Lib.hid rfl
  have h60 := (goodT_t hg).2.1
  have h8 := (goodK_all hk).1.2
  go_in
  go_wp2_with fail
  obtain ⟨w0, hw0⟩ : ∃ u, u = (((w.alloc (.cells #[.string nm, .int .i64 st, .slice A n c] 42)).alloc (.cells #[.string kb, .string ks] 44)).alloc (.cells #[.slice AH nH cH, .slice AL nL cL] 71)) := ⟨_, rfl⟩
  rw [← hw0] at b0 K0 K2 ⊢
  clear hw0
  refine (spec_l20Heads hn (h.up b0) hk hg hcap).mono ?_; rintro e w1 ⟨A1, c1, rfl, ho, hb1⟩
  have hB1 := below_go b0 hb1
  obtain ⟨g, rfl, _, _, gc, _⟩ := ho.at_ (by omega)
  have cg := gc t.size _ 0 _ (hdsL_at (Nat.lt_succ_self _)) rfl
  simp only [Nat.mul_one, Nat.add_zero] at cg
  clear gc
  have L0 := K0.up hb1; have L2 := K2.up hb1
  have HO := Lib.hid ho
  have HP := Lib.hid (hH.up hB1)
  have carry : Hid (∀ u : World, Below w1.heap.size w1 u → u.cell? ⟨w.heap.size, 1, none⟩ = some (.int .i64 st) ∧ u.cell? ⟨w.heap.size + 1 + 1, 0, none⟩ = some (.slice AH nH cH) ∧ u.cell? ⟨g, t.size, none⟩ = some (.string (hdAt st l kb ks t t.size))) := Lib.hid (fun u hu => by
    have L0 := L0.up hu; have L2 := L2.up hu
    have q := (HO.out.up hu).at_ (by omega)
    obtain ⟨g', e', _, _, gc, _⟩ := q
    injection e' with e'
    injection e' with e'
    subst e'
    have cg := gc t.size _ 0 _ (hdsL_at (Nat.lt_succ_self _)) rfl
    simp only [Nat.mul_one, Nat.add_zero] at cg
    exact ⟨by simpa using L0.cell 1, by simpa using L2.cell 0, cg⟩)
  clear K0 K2 L0 L2 cg ho
  by_cases hq : lH = hdsL st l kb ks t (t.size + 1)
  · have e1 := Lib.hid (show rightB st l kb ks t lH = decide (hdAt st l kb ks t t.size = roundsS st) by rw [HQ.out, decide_eq_true hq, Bool.true_and])
    have e2 := Lib.hid (decide_eq_true hq.symm)
    clear hq
    obtain ⟨c1', c2', c3'⟩ := carry.out _ (Below.refl _ _)
    have QS := Lib.hid (fun n => Qd.more (spec_l1SameSQ _ _ (t.size + 1) nH c1 cH _ _ (w1.drewN n) (hdsL_len st l kb ks t (t.size + 1)) hnH (HO.out.recs.up (below_drewN (Below.refl _ _) n)) (HP.out.up (below_drewN (Below.refl _ _) n)) (by omega) (by omega)))
    rw [e2.out] at QS
    go_wp2
    go_quiet (first | (go_at_call 141; exact QS.out _) | (go_at_call 66; exact quiet_left (spec_l1Rounds h8)))
    go_wp2
    go_ret
    rw [e1.out, dec_str]
    exact ⟨rfl, by (repeat' (first | (with_reducible exact Below.refl _ _) | (with_reducible assumption) | (with_reducible refine below_drewN ?_ _) | (with_reducible refine Below.drew ?_) | (with_reducible refine below_alloc ?_ _) | (with_reducible refine Below.alloc ?_ ?_ _) | (with_reducible refine Below.setCell ?_ ?_ _) | (with_reducible refine below_go ?_ (by with_reducible assumption)) | (with_reducible refine below_then (by with_reducible assumption) ?_ ?_) | go_size))⟩
  · have e1 := Lib.hid (show rightB st l kb ks t lH = false by rw [HQ.out, decide_eq_false hq, Bool.false_and])
    have e2 := Lib.hid (decide_eq_false (fun e => hq (Eq.symm e)))
    clear hq
    obtain ⟨c1', c2', c3'⟩ := carry.out _ (Below.refl _ _)
    have QS := Lib.hid (fun n => Qd.more (spec_l1SameSQ _ _ (t.size + 1) nH c1 cH _ _ (w1.drewN n) (hdsL_len st l kb ks t (t.size + 1)) hnH (HO.out.recs.up (below_drewN (Below.refl _ _) n)) (HP.out.up (below_drewN (Below.refl _ _) n)) (by omega) (by omega)))
    rw [e2.out] at QS
    go_wp2
    go_quiet (first | (go_at_call 141; exact QS.out _) | (go_at_call 66; exact quiet_left (spec_l1Rounds h8)))
    go_wp2
    go_ret
    rw [e1.out]
    exact ⟨rfl, by (repeat' (first | (with_reducible exact Below.refl _ _) | (with_reducible assumption) | (with_reducible refine below_drewN ?_ _) | (with_reducible refine Below.drew ?_) | (with_reducible refine below_alloc ?_ _) | (with_reducible refine Below.alloc ?_ ?_ _) | (with_reducible refine Below.setCell ?_ ?_ _) | (with_reducible refine below_go ?_ (by with_reducible assumption)) | (with_reducible refine below_then (by with_reducible assumption) ?_ ?_) | go_size))⟩
end Go.Proofs.Ytmdmnjjlpefigaa
