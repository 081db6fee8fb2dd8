/- Texts 4 of 6 that the claim leans on: plain laws and the walks' contracts, in order. -/
import Derived.Test.YtidolgonmimicaaGreatMFalse3
import Derived.Laws.Bits64b
/- The walks of chapter 11, the program's side: false lead heads. -/
namespace Go.Proofs.YtidolgonmimicaaGreat
set_option linter.unusedVariables false
set_option linter.unusedSimpArgs false
open Go.ChangeShapes Go.WideShapes Go.ChangeAt Go.RowKit Go.Deep
open Go.Maps (Keyed string_keyed)
theorem goodM_valid {nm : ByteArray} {st : Int} {l : List ByteArray} (h : goodM nm st l = true) : ∀ s ∈ l, isDash s = true ∨ validD s = true := fun s hs => by
  have h1 := (goodM_t h).2.2.2
  rw [allCh, List.all_eq_true] at h1
  obtain ⟨k, hk⟩ := List.getElem?_of_mem hs
  have h2 := h1 k (List.mem_range.2 (List.getElem?_eq_some_iff.1 hk).1)
  rw [okCh_at hk] at h2
  exact good_valid h2
theorem setx_own {P : Program} {α : Type} {e : α → List Value} {s : Nat} {E k t : TypeId} {w : World} {base b n c : Nat} {A : Option Addr} {l : List α} {S : List ByteArray} (h : Owned e s E w base A n c l) (g : SetX P w k t b S) : some b ≠ (Value.slice A n c).ownBlock := fun e1 => by
  obtain ⟨D, m, ⟨es, clock, hb, _⟩, _⟩ := g
  rcases h.2.2.2 with ⟨hv, _⟩ | ⟨g, cap, cur, hv, _, hh, _⟩
  · rw [hv] at e1; cases e1
  · rw [hv] at e1
    injection e1 with e1
    dsimp only at e1
    subst e1
    rw [hb] at hh
    cases hh
theorem map_own {P : Program} {α : Type} {e : α → List Value} {s : Nat} {E k : TypeId} {R : Value → Option (DataW Unit × List MemPlace)} {D : DataW Unit} {w : World} {base b n c m : Nat} {A : Option Addr} {l : List α} (h : Owned e s E w base A n c l) (g : w.ownsMap P k R b m D) : some b ≠ (Value.slice A n c).ownBlock := fun e1 => by
  obtain ⟨es, clock, hb, _⟩ := g
  rcases h.2.2.2 with ⟨hv, _⟩ | ⟨g, cap, cur, hv, _, hh, _⟩
  · rw [hv] at e1; cases e1
  · rw [hv] at e1
    injection e1 with e1
    dsimp only at e1
    subst e1
    rw [hb] at hh
    cases hh
theorem hC_step {D : DataW Unit} {left : Lit → Bool} {T : List ByteArray} {x : ByteArray} {y : DataW Unit} (h : Collected D left (T.map fun s => s.data.toList)) (hlk : left (.string x.data.toList) = true) (hat : ∀ zd, D.atKey (.string x.data.toList) zd = y) : Collected D (fun z => left z && !z.sameKey (.string x.data.toList)) ((T ++ [x]).map fun s => s.data.toList) := by
  have h1 := h.step hlk hat
  rw [List.map_append]
  exact h1
theorem strs_map {P : Program} {k t : TypeId} {w w' : World} {b : Nat} {A : Option Addr} {l S : List ByteArray} (h : Strs w A l) (g : SetX P w k t b S) (hg : w.grownBy w' (some b)) : Strs w' A l := by
  obtain ⟨D, m, ⟨es, clock, hm, _⟩, _⟩ := g
  refine ⟨h.1, h.2.1, fun hn => ?_⟩
  obtain ⟨b', o', hA, hb, hc⟩ := h.2.2 hn
  subst hA
  have hne : b' ≠ b := by
    intro e
    subst e
    obtain ⟨u, hu⟩ : ∃ u, (l.flatMap strE)[0]? = some u := ⟨_, List.getElem?_eq_getElem (by rw [flatMap_len strE_len]; omega)⟩
    have := hc 0 u hu
    simp [World.cell?, hm] at this
  exact ⟨b', o', rfl, Nat.lt_of_lt_of_le hb hg.size, fun j u hu => (hg.cell_far ⟨b', o' + j, none⟩ hb (fun e => by injection e with e; exact hne e)).trans (hc j u hu)⟩
theorem falTo_len (L : List ByteArray) (k : Nat) (h : k ≤ L.length) : (falTo L k).length ≤ L.length * L.length := by
  have : ∀ M : List ByteArray, (M.flatMap fun r => L.map fun s => timesS r (turnS s)).length = M.length * L.length := by
    intro M
    induction M with
    | nil => simp
    | cons a M ih => rw [List.flatMap_cons, List.length_append, ih, List.length_map, List.length_cons, Nat.succ_mul, Nat.add_comm]
  rw [falTo, this, List.length_take]
  exact Nat.mul_le_mul (by omega) (Nat.le_refl _)
theorem prodL_len (r : ByteArray) (L : List ByteArray) (k : Nat) : (prodL r L k).length ≤ L.length := by
  rw [prodL, List.length_map, List.length_take]; omega
theorem plainElem_bool_shape {P : Program} {e : TypeId} (he : P.underlying e = some .bool) {v : Value} {y : DataW Unit × List MemPlace} (hv : plainElem (H := Unit) P e v = some y) : ∃ c, v = .bool c := by
  unfold plainElem at hv
  rw [he] at hv
  cases v <;> simp at hv ⊢
theorem key_str_shape {P : Program} {k : TypeId} (hk : P.underlying k = some .string) {key : Value} {kl : Lit} (h : keyOf P k key = some kl) : ∃ x : ByteArray, key = .string x ∧ kl = .string x.data.toList := by
  obtain ⟨x, hx, hl, _⟩ := Maps.keyOf_str hk h
  exact ⟨⟨x.toArray⟩, by simpa [encStr] using hx, by simpa using hl⟩
set_option maxHeartbeats 1000000 in
set_option maxRecDepth 100000 in
theorem impl_leadTrue {A : Option Addr} {n c st : Nat} {nm : ByteArray} {l : List ByteArray} {w : World} (hn : l.length = n) (h : Strs w A l) (hz : n ≤ 1048576) (hs : ∀ s ∈ l, s.size ≤ 16777216) (hnm : nm.size ≤ 16777216) (h9 : st ≤ 1000) (hg : goodM nm (st : Int) l = true) :
    Calls Tryz.prog 107 #[.agg #[.string nm, .int .i64 st, .slice A n c]] w fun e w' => e = .returned (.bool (nodupB (leadL st l))) ∧ Below w.heap.size w w' := by
  have b0 : Below w.heap.size w (w.alloc (.cells ⟨[.string nm, .int .i64 st, .slice A n c]⟩ 25)) := by (repeat' (first | (with_reducible exact Below.refl _ _) | (with_reducible assumption) | (with_reducible refine below_drewN ?_ _) | (with_reducible refine Below.drew ?_) | (with_reducible refine below_alloc ?_ _) | (with_reducible refine Below.alloc ?_ ?_ _) | (with_reducible refine Below.setCell ?_ ?_ _) | (with_reducible refine below_go ?_ (by with_reducible assumption)) | (with_reducible refine below_then (by with_reducible assumption) ?_ ?_) | go_size))
  have K0 := Blk.at_ w 25 [.string nm, .int .i64 st, .slice A n c] (b := w.heap.size) rfl
  have HS := Lib.hid hs
  have HGV := Lib.hid (goodM_valid hg)
  have h38 := (goodM_st hg).1
  have hr8 : (roundsS st).size ≤ 8 := by rw [rounds_size st (by omega)]; exact h38.2
  have HR := Lib.hid (leadL_row h38.1 h38.2 l)
  have H0 := h.up b0
  have k0 := K0.cell 0; have k1 := K0.cell 1; have k2 := K0.cell 2
  simp only [List.getElem?_cons_zero, List.getElem?_cons_succ] at k0 k1 k2
  clear hg
  go_in
  go_upto_region 1 with fail
  obtain ⟨w0, hw0⟩ : ∃ u, u = (w.alloc (.cells #[.string nm, .int .i64 st, .slice A n c] 25)) := ⟨_, rfl⟩
  rw [← hw0] at b0 K0 H0 k0 k1 k2 ⊢
  clear hw0
  refine wp_region_still_tail 4 (by kernel_rfl) (by kernel_rfl) ?_
  simp only [List.take_succ_cons, List.take_zero, List.drop_succ_cons, List.drop_zero]
  repeat still_step
  still_call (turnC (impl_rounds h38.2))
  repeat still_step
  refine wpStill_nil ?_
  change wpList _ _ _ _ _ w0.drew
  go_wp2_with fail
  refine (impl_leadRows hr8 hn H0.drew hz HS.out HGV.out).mono ?_; rintro e w2 ⟨A2, c2, rfl, ho, hbd⟩
  have hb2 := below_of_drew hbd
  rw [← leadL_n hn] at ho
  go_wp2_with fail
  refine (impl_isTrue (by rw [leadL_len]; exact hn) ho (by omega) (fun s hs => by have h1 := (HR.out s hs).2; omega)).mono ?_; rintro e w3 ⟨rfl, hb3⟩
  go_wp2
  go_ret
  exact ⟨rfl, below_go (below_go b0 hb2) hb3⟩
set_option maxHeartbeats 1000000 in
theorem impl_IsLeadTrue {A : Option Addr} {n c st : Nat} {nm : ByteArray} {l : List ByteArray} {w : World} (hn : l.length = n) (h : Strs w A l) (hz : n ≤ 1048576) (hs : ∀ s ∈ l, s.size ≤ 16777216) (hnm : nm.size ≤ 16777216) (h9 : st ≤ 1000) :
    Calls Tryz.prog 28 #[.agg #[.string nm, .int .i64 st, .slice A n c]] w fun e w' => e = .returned (.tuple #[.bool (ltV nm st l), .bool (goodM nm (st : Int) l)]) ∧ Below w.heap.size w w' := by
  have b0 : Below w.heap.size w (w.alloc (.cells ⟨[.string nm, .int .i64 st, .slice A n c]⟩ 25)) := by (repeat' (first | (with_reducible exact Below.refl _ _) | (with_reducible assumption) | (with_reducible refine below_drewN ?_ _) | (with_reducible refine Below.drew ?_) | (with_reducible refine below_alloc ?_ _) | (with_reducible refine Below.alloc ?_ ?_ _) | (with_reducible refine Below.setCell ?_ ?_ _) | (with_reducible refine below_go ?_ (by with_reducible assumption)) | (with_reducible refine below_then (by with_reducible assumption) ?_ ?_) | go_size))
  have K0 := Blk.at_ w 25 [.string nm, .int .i64 st, .slice A n c] (b := w.heap.size) rfl
  have HQ : Hid (ltV nm st l = (goodM nm (st : Int) l && nodupB (leadL st l))) := Lib.hid rfl
  have hI : I64 (st : Int) := ⟨by omega, by omega⟩
  have H0 := h.up b0
  go_in
  go_wp2_with fail
  refine (impl_GoodMethod hn H0 hz hs hnm hI).mono ?_; rintro e w1 ⟨rfl, hb1⟩
  have K1 := K0.up hb1
  have H1 := H0.up hb1
  have B1 := below_go b0 hb1
  clear K0 H0 h b0 hb1
  rcases hg : goodM nm (st : Int) l
  · have e1 := Lib.hid (show ltV nm st l = false by rw [HQ.out, hg]; rfl)
    go_wp2
    go_ret2
    rw [e1.out, hg]
    exact ⟨rfl, B1⟩
  · have e1 := Lib.hid (show ltV nm st l = nodupB (leadL st l) by rw [HQ.out, hg]; rfl)
    have k0 := K1.cell 0; have k1 := K1.cell 1; have k2 := K1.cell 2
    simp only [List.getElem?_cons_zero, List.getElem?_cons_succ] at k0 k1 k2
    go_wp2_with fail
    refine (impl_leadTrue hn H1 hz hs hnm h9 hg).mono ?_; rintro e w2 ⟨rfl, hb2⟩
    go_wp2
    go_ret2
    rw [e1.out, hg]
    exact ⟨rfl, below_go B1 hb2⟩
set_option maxHeartbeats 2000000 in
set_option maxRecDepth 100000 in
theorem impl_falseSet {A : Option Addr} {n c st : Nat} {nm : ByteArray} {l : List ByteArray} {w : World} (hn : l.length = n) (h : Strs w A l) (hz : n ≤ 1048576) (hs : ∀ s ∈ l, s.size ≤ 16777216) (hnm : nm.size ≤ 16777216) (h9 : st ≤ 1000) (hg : goodM nm (st : Int) l = true) :
    Calls Tryz.prog 100 #[.agg #[.string nm, .int .i64 st, .slice A n c], .agg #[.string nm, .int .i64 st, .slice A n c]] w fun e w' => ∃ b, e = .returned (.map (some b)) ∧ SetX Tryz.prog w' 9 4 b (falL (leadL st l)) ∧ w.heap.size ≤ b ∧ Below w.heap.size w w' := by
  have b0 : Below w.heap.size w ((w.alloc (.cells ⟨[.string nm, .int .i64 st, .slice A n c]⟩ 25)).alloc (.cells ⟨[.string nm, .int .i64 st, .slice A n c]⟩ 25)) := by (repeat' (first | (with_reducible exact Below.refl _ _) | (with_reducible assumption) | (with_reducible refine below_drewN ?_ _) | (with_reducible refine Below.drew ?_) | (with_reducible refine below_alloc ?_ _) | (with_reducible refine Below.alloc ?_ ?_ _) | (with_reducible refine Below.setCell ?_ ?_ _) | (with_reducible refine below_go ?_ (by with_reducible assumption)) | (with_reducible refine below_then (by with_reducible assumption) ?_ ?_) | go_size))
  have K0 := (Blk.at_ w 25 [.string nm, .int .i64 st, .slice A n c] (b := w.heap.size) rfl).alloc (.cells ⟨[.string nm, .int .i64 st, .slice A n c]⟩ 25)
  have J0 := Blk.at_ (w.alloc (.cells ⟨[.string nm, .int .i64 st, .slice A n c]⟩ 25)) 25 [.string nm, .int .i64 st, .slice A n c] (b := w.heap.size + 1) (by simp)
  have hmm := @run_makeMap Tryz.prog
  have KS := string_keyed (P := Tryz.prog) (k := 9) Tryz.underlying9
  have HS := Lib.hid hs
  have HGV := Lib.hid (goodM_valid hg)
  have hgs := goodM_st hg
  have h38 := hgs.1
  have hr8 : (roundsS st).size ≤ 8 := by rw [rounds_size st (by omega)]; exact h38.2
  have HR := Lib.hid (leadL_row h38.1 h38.2 l)
  have H0 := h.up b0
  obtain ⟨L, hL1⟩ : ∃ u, u = leadL st l := ⟨_, rfl⟩
  have hLn : L.length = n := by rw [hL1, leadL_len]; exact hn
  rw [← hL1] at HR ⊢
  have HL1 := Lib.hid hL1
  have HLn := Lib.hid hLn
  have hn40 : n ≤ 40 := by omega
  clear hL1 hLn hgs hg
  go_in
  go_upto_region 2 with fail
  clear hmm
  obtain ⟨w0, hw0⟩ : ∃ u, u = ((w.alloc (.cells #[.string nm, .int .i64 st, .slice A n c] 25)).alloc (.cells #[.string nm, .int .i64 st, .slice A n c] 25)) := ⟨_, rfl⟩
  have z0 : w0.heap.size = w.heap.size + 2 := by rw [hw0]; simp
  rw [← hw0] at b0 K0 J0 H0 ⊢
  clear hw0
  have M0 : SetX Tryz.prog (w0.alloc (.map #[] 0)) 9 4 (w.heap.size + 2) [] := SetX.made_at _ _ _ _ z0.symm
  have a0 : Below w0.heap.size w0 (w0.alloc (.map #[] 0)) := by (repeat' (first | (with_reducible exact Below.refl _ _) | (with_reducible assumption) | (with_reducible refine below_drewN ?_ _) | (with_reducible refine Below.drew ?_) | (with_reducible refine below_alloc ?_ _) | (with_reducible refine Below.alloc ?_ ?_ _) | (with_reducible refine Below.setCell ?_ ?_ _) | (with_reducible refine below_go ?_ (by with_reducible assumption)) | (with_reducible refine below_then (by with_reducible assumption) ?_ ?_) | go_size))
  have K0 := K0.up a0
  have J0 := J0.up a0
  have H0 := H0.up a0
  have b0 := below_go b0 a0
  obtain ⟨w1, hw1⟩ : ∃ u, u = w0.alloc (.map #[] 0) := ⟨_, rfl⟩
  rw [← hw1] at K0 J0 H0 M0 b0 ⊢
  clear hw1 a0 z0
  have k0 := K0.cell 0; have k1 := K0.cell 1; have k2 := K0.cell 2
  simp only [List.getElem?_cons_zero, List.getElem?_cons_succ] at k0 k1 k2
  go_region_held3 (fun u => u.cell? ⟨w.heap.size, 0, none⟩ = some (.string nm) ∧ u.cell? ⟨w.heap.size, 1, none⟩ = some (.int .i64 (st : Int)) ∧ u.cell? ⟨w.heap.size, 2, none⟩ = some (.slice A n c)) (first | exact ⟨k0d, k1d, k2d⟩ | exact ⟨k0, k1, k2⟩) (first | (go_at_call 105; refine (impl_rounds h38.2).mono ?_; rintro e w' ⟨rfl, rfl⟩) | (go_at_call 104; refine (impl_leadRows hr8 hn H0.drew hz HS.out HGV.out).mono ?_; rintro e w2 ⟨A2, c2, rfl, ho2, hbd⟩; have hb2 := below_of_drew hbd; have K2 := K0.up hb2; have k0d := K2.cell 0; have k1d := K2.cell 1; have k2d := K2.cell 2; simp only [List.getElem?_cons_zero, List.getElem?_cons_succ] at k0d k1d k2d))
  rw [← leadL_n hn, ← HL1.out] at ho2
  have B2 := below_go b0 hb2
  have HM2 := Lib.hid (M0.up hb2)
  have R2 := Lib.hid ho2
  have HJ2 := Lib.hid (J0.up hb2)
  have HH2 := Lib.hid (H0.up hb2)
  clear K0 H0 J0 M0 ho2 hbd hb2 k0 k1 k2 k0d k1d k2d K2 h b0
  go_wp2
  go_loopw [17] (fun i wr => ∃ (k : Nat), k ≤ n ∧ i = .int .i64 k ∧ Hid (SetX Tryz.prog wr 9 4 (w.heap.size + 2) (falTo L k)) ∧ Hid (Strs wr A2 L) ∧ Hid (Blk wr (w.heap.size + 1) 25 [.string nm, .int .i64 st, .slice A n c]) ∧ Hid (Strs wr A l) ∧ Below w.heap.size w wr) (fun i _ => n - (intOf i).toNat)
  case atStart => exact ⟨0, Nat.zero_le _, rfl, Lib.hid (by rw [falTo_zero]; exact HM2.out), R2, HJ2, HH2, B2⟩
  case round =>
    obtain ⟨k, hk, rfl, HM, HR2, HJ, HH, hb⟩ := hrel
    rename World => wo
    have hszo := hb.size
    by_cases hlt : k < n
    · obtain ⟨b1, o1, x, hA2, _, hx, hcx⟩ := HR2.out.at_str (k := k) (by rw [HLn.out]; exact hlt)
      subst hA2
      have hxN := Lib.hid (HR.out x (List.mem_of_getElem? hx))
      have HTS := Lib.hid (falTo_succ hx)
      have hI : (k : Int) < (n : Int) := by omega
      have k0 := HJ.out.cell 0; have k1 := HJ.out.cell 1; have k2 := HJ.out.cell 2
      simp only [List.getElem?_cons_zero, List.getElem?_cons_succ] at k0 k1 k2
      have J0 := HJ.out
      clear hx
      go_upto_region 5 with fail
      go_region_held3 (fun u => u.cell? ⟨w.heap.size + 1, 0, none⟩ = some (.string nm) ∧ u.cell? ⟨w.heap.size + 1, 1, none⟩ = some (.int .i64 (st : Int)) ∧ u.cell? ⟨w.heap.size + 1, 2, none⟩ = some (.slice A n c)) (first | exact ⟨k0d, k1d, k2d⟩ | exact ⟨k0, k1, k2⟩) (first | (go_at_call 105; refine (impl_rounds h38.2).mono ?_; rintro e w' ⟨rfl, rfl⟩) | (go_at_call 104; refine (impl_leadRows hr8 hn HH.out.drew hz HS.out HGV.out).mono ?_; rintro e w3 ⟨A3, c3, rfl, ho3, hbd⟩; have hb3 := below_of_drew hbd; have K2 := J0.up hb3; have k0d := K2.cell 0; have k1d := K2.cell 1; have k2d := K2.cell 2; simp only [List.getElem?_cons_zero, List.getElem?_cons_succ] at k0d k1d k2d))
      rw [← leadL_n hn, ← HL1.out] at ho3
      have B3 := below_go hb hb3
      have HM3 := Lib.hid (HM.out.up hb3)
      have R3 := Lib.hid ho3
      have RO3 := Lib.hid (HR2.out.up hb3)
      have HJ3 := Lib.hid (HJ.out.up hb3)
      have HH3 := Lib.hid (HH.out.up hb3)
      clear ho3 hbd hb3 k0 k1 k2 k0d k1d k2d K2 J0
      go_wp2
      go_loopw [27] (fun i wr => ∃ (j : Nat), j ≤ n ∧ i = .int .i64 j ∧ Hid (SetX Tryz.prog wr 9 4 (w.heap.size + 2) (falTo L k ++ prodL x L j)) ∧ Hid (w3.grownBy wr (some (w.heap.size + 2)))) (fun i _ => n - (intOf i).toNat)
      case atStart => exact ⟨0, Nat.zero_le _, rfl, Lib.hid (by rw [prodL_zero, List.append_nil]; exact HM3.out), Lib.hid (grown_any (Below.refl _ _) _)⟩
      case round =>
        obtain ⟨j, hj, rfl, HMQ, HGQ⟩ := hrel
        rename World => wq
        have HRQ := Lib.hid (strs_map R3.out HM3.out HGQ.out)
        have hszq := HGQ.out.size
        by_cases hjt : j < n
        · obtain ⟨b2, o2, y, hA3, _, hy, hcy⟩ := HRQ.out.at_str (k := j) (by rw [HLn.out]; exact hjt)
          subst hA3
          have hyN := HR.out y (List.mem_of_getElem? hy)
          have HPS := Lib.hid (prodL_succ (r := x) hy)
          have HLB := Lib.hid (show (falTo L k ++ prodL x L j).length ≤ 16777216 by
            have h1 := falTo_len L k (by rw [HLn.out]; exact hk)
            have h2 := prodL_len x L j
            have h3 := HLn.out
            have h4 : L.length * L.length ≤ 40 * 40 := Nat.mul_le_mul (by omega) (by omega)
            rw [List.length_append]; omega)
          have hty := turn_rowN hyN
          have hft := rowN_fits hxN.out hty
          have hxs : x.size ≤ 16777216 := by have := hxN.out.2; omega
          have hts : (turnS y).size ≤ 16777216 := by have := hty.2; omega
          have hzs : (timesS x (turnS y)).size ≤ 16777216 := by have := (hxN.out.times hty).2; omega
          have HYG := Lib.hid hyN.1
          clear hy hyN hty
          go_wp2_with fail
          refine (impl_turned HYG.out).mono ?_; rintro e w5 ⟨rfl, hb5, _⟩
          go_wp2_with fail
          refine (impl_times hxs hts hft).mono ?_; rintro e w6 ⟨rfl, hb6⟩
          have HM6 := Lib.hid ((HMQ.out.up hb5).up hb6)
          have HG6 := Lib.hid (grownBy_trans (grownBy_trans HGQ.out (grown_any hb5 _)) (grown_any hb6 _))
          obtain ⟨z, hz⟩ : ∃ u, u = timesS x (turnS y) := ⟨_, rfl⟩
          rw [← hz] at HPS hzs ⊢
          clear hz hb5 hb6
          go_wp2_with (first | (at_mapUpdate; go_must ((refine wpList_setx_add rfl (.tmp 31) (.tmp 35) (.const (.bool true)) 110 rfl KS Tryz.underlying110 Tryz.underlying9 Tryz.underlying4 rfl HM6.out HLB.out rfl rfl hzs ?_; intro w8 hm8 hg8))))
          go_roundw
          case rel => exact ⟨j + 1, by omega, by go_num, Lib.hid (by rw [HPS.out, ← List.append_assoc]; exact hm8), Lib.hid (grownBy_trans HG6.out hg8)⟩
          case measure => simp [intOf]; omega
        · obtain rfl : j = n := by omega
          have hJ : ¬ (j : Int) < (j : Int) := by omega
          go_wp2
          go_roundw
          case rel => exact ⟨k + 1, by omega, by go_num, Lib.hid (by have h1 := HMQ.out; rw [HTS.out, HLn.out]; exact h1), Lib.hid (strs_map RO3.out HM3.out HGQ.out), Lib.hid (HJ3.out.grown HGQ.out (fun e => by injection e with e; omega)), Lib.hid (strs_map HH3.out HM3.out HGQ.out), B3.grown HGQ.out B3.size (fun z hz => by injection hz with hz; omega)⟩
          case measure => simp [intOf]; omega
    · obtain rfl : k = n := by omega
      have hI : ¬ (k : Int) < (k : Int) := by omega
      have HALL := Lib.hid (show falTo L k = falL L by rw [← HLn.out, falTo_all])
      go_wp2
      go_ret
      exact ⟨_, rfl, by rw [← HALL.out]; exact HM.out, by omega, hb⟩
set_option maxHeartbeats 1000000 in
set_option maxRecDepth 100000 in
theorem impl_IsFalseHead {A : Option Addr} {n c st : Nat} {nm : ByteArray} {l : List ByteArray} {f : ByteArray} {w : World} (hn : l.length = n) (h : Strs w A l) (hz : n ≤ 1048576) (hs : ∀ s ∈ l, s.size ≤ 16777216) (hnm : nm.size ≤ 16777216) (h9 : st ≤ 1000) (hf : f.size ≤ 16777216) :
    Calls Tryz.prog 22 #[.agg #[.string nm, .int .i64 st, .slice A n c], .string f] w fun e w' => e = .returned (.tuple #[.bool (fhV nm st l f), .bool (fhOk nm st l f)]) ∧ Below w.heap.size w w' := by
  have b0 : Below w.heap.size w (w.alloc (.cells ⟨[.string nm, .int .i64 st, .slice A n c]⟩ 25)) := by (repeat' (first | (with_reducible exact Below.refl _ _) | (with_reducible assumption) | (with_reducible refine below_drewN ?_ _) | (with_reducible refine Below.drew ?_) | (with_reducible refine below_alloc ?_ _) | (with_reducible refine Below.alloc ?_ ?_ _) | (with_reducible refine Below.setCell ?_ ?_ _) | (with_reducible refine below_go ?_ (by with_reducible assumption)) | (with_reducible refine below_then (by with_reducible assumption) ?_ ?_) | go_size))
  have K0 := Blk.at_ w 25 [.string nm, .int .i64 st, .slice A n c] (b := w.heap.size) rfl
  have KS := string_keyed (P := Tryz.prog) (k := 9) Tryz.underlying9
  have H0 := h.up b0
  have hI : I64 (st : Int) := ⟨by omega, by omega⟩
  have HQ : Hid (fhV nm st l f = (fhOk nm st l f && inL (falL (leadL st l)) f)) := Lib.hid rfl
  have HO : Hid (fhOk nm st l f = (goodM nm (st : Int) l && (goodRow f && (f.size == st)))) := Lib.hid rfl
  go_in
  go_wp2_with fail
  refine (impl_GoodMethod hn H0 hz hs hnm hI).mono ?_; rintro e w1 ⟨rfl, hb1⟩
  have K1 := K0.up hb1
  have H1 := H0.up hb1
  have B1 := below_go b0 hb1
  clear K0 H0 h b0 hb1
  rcases hg : goodM nm (st : Int) l
  · have e0 := Lib.hid (show fhOk nm st l f = false by rw [HO.out, hg]; rfl)
    have e1 := Lib.hid (show fhV nm st l f = false by rw [HQ.out, e0.out]; rfl)
    go_wp2
    go_ret2
    rw [e1.out, e0.out]
    exact ⟨rfl, B1⟩
  · have k0 := K1.cell 0; have k1 := K1.cell 1; have k2 := K1.cell 2
    simp only [List.getElem?_cons_zero, List.getElem?_cons_succ] at k0 k1 k2
    go_wp2_with fail
    refine (impl_isRowOf (n := st) hf).mono ?_; rintro e w' ⟨rfl, rfl⟩
    rcases hr : (goodRow f && (f.size == st))
    · have e0 := Lib.hid (show fhOk nm st l f = false by rw [HO.out, hr, Bool.and_false])
      have e1 := Lib.hid (show fhV nm st l f = false by rw [HQ.out, e0.out]; rfl)
      go_wp2
      go_ret2
      rw [e1.out, e0.out]
      exact ⟨rfl, B1⟩
    · have e0 := Lib.hid (show fhOk nm st l f = true by rw [HO.out, hr, hg]; rfl)
      have e1 := Lib.hid (show fhV nm st l f = inL (falL (leadL st l)) f by rw [HQ.out, e0.out]; rfl)
      go_wp2_with fail
      refine (impl_falseSet hn H1 hz hs hnm h9 hg).mono ?_; rintro e w2 ⟨b, rfl, hm, _, hb2⟩
      have lk := hm.look (t := 110) KS Tryz.underlying110 Tryz.underlying9 Tryz.underlying4 (by kernel_rfl) hf
      go_wp2
      go_ret2
      rw [e1.out, e0.out]
      exact ⟨rfl, below_go B1 hb2⟩
set_option maxHeartbeats 2000000 in
set_option maxRecDepth 100000 in
theorem impl_falseHeads {A : Option Addr} {n c st : Nat} {nm : ByteArray} {l : List ByteArray} {w : World} (hn : l.length = n) (h : Strs w A l) (hz : n ≤ 1048576) (hs : ∀ s ∈ l, s.size ≤ 16777216) (hnm : nm.size ≤ 16777216) (h9 : st ≤ 1000) (hg : goodM nm (st : Int) l = true) :
    Calls Tryz.prog 106 #[.agg #[.string nm, .int .i64 st, .slice A n c]] w fun e w' => ∃ A' m c', e = .returned (.slice A' m c') ∧ Owned strE 1 9 w' w.heap.size A' m c' (falS (leadL st l)) ∧ m ≤ 1600 ∧ Below w.heap.size w w' := by
  have b0 : Below w.heap.size w (w.alloc (.cells ⟨[.string nm, .int .i64 st, .slice A n c]⟩ 25)) := by (repeat' (first | (with_reducible exact Below.refl _ _) | (with_reducible assumption) | (with_reducible refine below_drewN ?_ _) | (with_reducible refine Below.drew ?_) | (with_reducible refine below_alloc ?_ _) | (with_reducible refine Below.alloc ?_ ?_ _) | (with_reducible refine Below.setCell ?_ ?_ _) | (with_reducible refine below_go ?_ (by with_reducible assumption)) | (with_reducible refine below_then (by with_reducible assumption) ?_ ?_) | go_size))
  have K0 := Blk.at_ w 25 [.string nm, .int .i64 st, .slice A n c] (b := w.heap.size) rfl
  have KS := string_keyed (P := Tryz.prog) (k := 9) Tryz.underlying9
  have HS := Lib.hid hs
  have hgs := goodM_st hg
  have h38 := hgs.1
  have HFR := Lib.hid (falL_row (leadL_row h38.1 h38.2 l))
  have HFL := Lib.hid (show (falL (leadL st l)).length ≤ 1600 by
    rw [fal_len, leadL_len]
    exact Nat.le_trans (Nat.mul_le_mul (show l.length ≤ 40 by omega) (show l.length ≤ 40 by omega)) (by decide))
  have HFO := Lib.hid (fun (K : List ByteArray) => @falS_of (leadL st l) K)
  have H0 := h.up b0
  have k0 := K0.cell 0; have k1 := K0.cell 1; have k2 := K0.cell 2
  simp only [List.getElem?_cons_zero, List.getElem?_cons_succ] at k0 k1 k2
  have k0d := (K0.alloc (.cells #[] 9)).cell 0; have k1d := (K0.alloc (.cells #[] 9)).cell 1; have k2d := (K0.alloc (.cells #[] 9)).cell 2
  simp only [List.getElem?_cons_zero, List.getElem?_cons_succ] at k0d k1d k2d
  have HE : Hid (Owned strE 1 9 ((w.alloc (.cells #[.string nm, .int .i64 st, .slice A n c] 25)).alloc (.cells #[] 9)) w.heap.size (some ⟨w.heap.size + 1, 0, none⟩) 0 0 []) := Lib.hid (by
    have h1 := Owned.empty (base := w.heap.size) (E := 9) strE_len (w.alloc (.cells #[.string nm, .int .i64 st, .slice A n c] 25)) (by simp)
    simpa using h1)
  have b1 : Below w.heap.size w ((w.alloc (.cells #[.string nm, .int .i64 st, .slice A n c] 25)).alloc (.cells #[] 9)) := by (repeat' (first | (with_reducible exact Below.refl _ _) | (with_reducible assumption) | (with_reducible refine below_drewN ?_ _) | (with_reducible refine Below.drew ?_) | (with_reducible refine below_alloc ?_ _) | (with_reducible refine Below.alloc ?_ ?_ _) | (with_reducible refine Below.setCell ?_ ?_ _) | (with_reducible refine below_go ?_ (by with_reducible assumption)) | (with_reducible refine below_then (by with_reducible assumption) ?_ ?_) | go_size))
  have H1 := h.up b1
  clear hgs
  go_in
  go_wp2_with fail
  refine (impl_falseSet hn H1 hz HS.out hnm h9 hg).mono ?_; rintro e w2 ⟨b, rfl, hm, hbb, hb2⟩
  have HO2 := Lib.hid (HE.out.up hb2)
  have B2 := below_go b1 hb2
  obtain ⟨S, hS⟩ : ∃ u, u = falL (leadL st l) := ⟨_, rfl⟩
  rw [← hS] at hm HFR HFL
  have HSE := Lib.hid hS
  obtain ⟨D, mm, hown, hmS, hsz, hD⟩ := hm
  have HD := Lib.hid hD
  have HOWN := Lib.hid hown
  have hmS2 : Maps.size D ≤ 1600 := by have := HFL.out; omega
  have hszB2 := B2.size
  clear HE H0 H1 h b0 b1 K0 k0 k1 k2 k0d k1d k2d hg hS hb2 hD hsz hmS
  go_wp2_with (first | (at_range; refine wpList_range_own _ rfl _ 110 rfl 9 4 KS Tryz.underlying110 _ b mm D rfl HOWN.out ?_; intro w3 hrg0 hg0 hs0))
  go_frame
  have HOO := Lib.hid (HO2.out.kept hg0 (fun k _ e => by cases e))
  have HRG := Lib.hid hrg0
  have HB3 := Lib.hid (B2.grown hg0 B2.size (fun j hj => by cases hj))
  clear hrg0 hg0 HO2 B2 hs0
  go_loopw [3] (fun v wr => ∃ (left : Lit → Bool) (cnt m : Nat) (A' : Option Addr) (c' : Nat) (T : List ByteArray), wr.ranges Tryz.prog 9 (plainElem Tryz.prog 4) b w2.heap.size mm D left cnt ∧ m + cnt ≤ Maps.size D ∧ v = .slice A' m c' ∧ A' ≠ none ∧ Hid (Owned strE 1 9 wr w.heap.size A' m c' T) ∧ Hid (Collected D left (T.map fun s => s.data.toList)) ∧ Hid (Below w.heap.size w wr))
    (fun _ wr => wr.rangeLeft b w2.heap.size)
  case atStart => exact ⟨_, _, 0, _, _, [], HRG.out, by omega, rfl, by simp, HOO, Lib.hid (Collected.start D), HB3⟩
  case round =>
    obtain ⟨left, cnt, m, A4, c4, T, hrg, hcs, rfl, hnn, HO, HC, HB⟩ := hrel
    rename World => wr
    have hszr := HB.out.size
    have HL := Lib.hid HO.out.len
    go_wp2_with (first
      | (at_next; refine wpList_next_ranges _ rfl _ rfl 9 KS (plainElem Tryz.prog 4) Value.string (fun v : Value => v) (fun key kl hk => by obtain ⟨x, hx, _⟩ := key_str_shape Tryz.underlying9 hk; exact ⟨x, hx⟩) (fun v y hv => ⟨v, rfl⟩) b w2.heap.size mm _ _ _ rfl hrg ?_ ?_))
    · intro hc0 hl0
      have HK := Lib.hid (HD.out.keys HOWN.out KS Tryz.underlying9 HC.out hl0 (fun s hs => by have h1 := (HFR.out s hs).2; omega))
      obtain ⟨g, rfl⟩ : ∃ g, A4 = some ⟨g, 0, none⟩ := by
        rcases HO.out.2.2.2 with ⟨hv, _⟩ | ⟨g, cap, cur, hv, _⟩
        · injection hv with hv _ _
          exact absurd hv hnn
        · injection hv with hv _ _
          exact ⟨g, hv⟩
      have hm16 : m ≤ 1600 := by omega
      go_wp2_with (first | (go_at_call 155; refine (sort_strs HO.out (by omega)).mono ?_; rintro e w7 ⟨rfl, T7, ho7, hp7, hs7, hg7⟩))
      have HFIN := Lib.hid (show T7 = falS (leadL st l) from HFO.out T7 ((hp7.nodup_iff).2 HK.out.1) (fun x => by rw [hp7.mem_iff, HK.out.2, HSE.out]) hs7)
      go_ret
      refine ⟨_, _, _, rfl, by rw [← HFIN.out]; exact ho7, hm16, HB.out.grown hg7 HB.out.size (fun j hj => by injection hj with hj; subst hj; exact (HO.out.blk rfl).1)⟩
    · intro x c kl yd yp w4 cnt2 hkey hlk hv hat hrg2 hlt hg2 hs2 hen
      obtain ⟨x', ex, rfl⟩ := key_str_shape Tryz.underlying9 hkey
      injection ex with ex
      subst ex
      have HO4 := Lib.hid (HO.out.kept hg2 (fun k hk e => by have h1 := row_ne_iter HO.out.2.2 hrg; rw [hk] at h1; exact h1 e))
      have HB4 := Lib.hid (HB.out.grown hg2 HB.out.size (fun j hj => by injection hj with hj; omega))
      have HCS := Lib.hid (hC_step HC.out hlk hat)
      have HR4 := Lib.hid hrg2
      have HLT := Lib.hid hlt
      have HLE := Lib.hid hrg.left_eq
      have hcs2 : m + 1 + cnt2 ≤ Maps.size D := by omega
      clear hs2 hat hlk hrg2 hrg
      have hsz4 := HB4.out.size
      go_wp2_with (first | (at_builtin; go_must ((refine wpList_append_recs Tryz.elStr strE_one rfl (.tmp 14) (.tmp 16) rfl rfl (HO4.out.alloc _) rfl (own_lit1_at' strE_len _ 9 x rfl (Nat.le_refl _)).recs rfl ?_ (by decide) ?_ ?_; (focus (first | omega | (simp only [World.size_alloc]; done) | (simp only [World.size_alloc]; omega) | (simp; done) | (simp; omega))); (focus (first | omega | (simp only [World.size_alloc]; done) | (simp only [World.size_alloc]; omega) | (simp; done) | (simp; omega))); intro A6 c6 w6 ho6 hg6 hl6))))
      have hb6 : Below w.heap.size w w6 := (HB4.out.alloc hsz4 _).trans (grown_base hg6 (by simp; omega) (fun z hz => (HO4.out.range z hz).1))
      have hrg6 := (HR4.out.alloc (.cells ⟨[Value.string x]⟩ 9)).kept hg6 (map_own (HO4.out.alloc (.cells ⟨[Value.string x]⟩ 9)) (HR4.out.alloc (.cells ⟨[Value.string x]⟩ 9)).owns) (row_ne_iter (HO4.out.alloc (.cells ⟨[Value.string x]⟩ 9)).2.2 (HR4.out.alloc (.cells ⟨[Value.string x]⟩ 9)))
      go_roundw
      case rel => exact ⟨_, cnt2, m + 1, A6, c6, T ++ [x], hrg6, hcs2, rfl, (fun e => by obtain ⟨g, e2, _⟩ := ho6.at_ (by omega); rw [e2] at e; cases e), Lib.hid ho6, HCS, Lib.hid hb6⟩
      case measure => rw [hrg6.left_eq, HLE.out]; exact HLT.out
set_option maxHeartbeats 1000000 in
theorem impl_FalseHeads {A : Option Addr} {n c st : Nat} {nm : ByteArray} {l : List ByteArray} {w : World} (hn : l.length = n) (h : Strs w A l) (hz : n ≤ 1048576) (hs : ∀ s ∈ l, s.size ≤ 16777216) (hnm : nm.size ≤ 16777216) (h9 : st ≤ 1000) :
    Calls Tryz.prog 26 #[.agg #[.string nm, .int .i64 st, .slice A n c]] w fun e w' => ∃ A' m c', e = .returned (.tuple #[.slice A' m c', .bool (fhsOk nm st l)]) ∧ Owned strE 1 9 w' w.heap.size A' m c' (fhsV nm st l) ∧ m ≤ 800 ∧ Below w.heap.size w w' := by
  have b0 : Below w.heap.size w (w.alloc (.cells ⟨[.string nm, .int .i64 st, .slice A n c]⟩ 25)) := by (repeat' (first | (with_reducible exact Below.refl _ _) | (with_reducible assumption) | (with_reducible refine below_drewN ?_ _) | (with_reducible refine Below.drew ?_) | (with_reducible refine below_alloc ?_ _) | (with_reducible refine Below.alloc ?_ ?_ _) | (with_reducible refine Below.setCell ?_ ?_ _) | (with_reducible refine below_go ?_ (by with_reducible assumption)) | (with_reducible refine below_then (by with_reducible assumption) ?_ ?_) | go_size))
  have K0 := Blk.at_ w 25 [.string nm, .int .i64 st, .slice A n c] (b := w.heap.size) rfl
  have H0 := h.up b0
  have hI : I64 (st : Int) := ⟨by omega, by omega⟩
  have HQ : Hid (fhsOk nm st l = (goodM nm (st : Int) l && decide ((falS (leadL st l)).length ≤ 800))) := Lib.hid rfl
  have HF : Hid (fhsOk nm st l = false → fhsV nm st l = []) := Lib.hid (fun e => by rw [fhsV, if_neg (by rw [e]; simp)])
  have HT : Hid (fhsOk nm st l = true → fhsV nm st l = falS (leadL st l)) := Lib.hid (fun e => by rw [fhsV, if_pos e])
  go_in
  go_wp2_with fail
  refine (impl_GoodMethod hn H0 hz hs hnm hI).mono ?_; rintro e w1 ⟨rfl, hb1⟩
  have K1 := K0.up hb1
  have H1 := H0.up hb1
  have B1 := below_go b0 hb1
  clear K0 H0 h b0 hb1
  rcases hg : goodM nm (st : Int) l
  · have e1 := Lib.hid (show fhsOk nm st l = false by rw [HQ.out, hg]; rfl)
    go_wp2
    go_ret2
    rw [HF.out e1.out, e1.out]
    exact ⟨none, 0, 0, rfl, Owned.nil strE_len _ _ _, by omega, B1⟩
  · have k0 := K1.cell 0; have k1 := K1.cell 1; have k2 := K1.cell 2
    simp only [List.getElem?_cons_zero, List.getElem?_cons_succ] at k0 k1 k2
    go_wp2_with fail
    refine (impl_falseHeads hn H1 hz hs hnm h9 hg).mono ?_; rintro e w2 ⟨A2, m, c2, rfl, ho, hm, hb2⟩
    have e0 := Lib.hid ho.len
    by_cases hm8 : m ≤ 800
    · have e1 := Lib.hid (show fhsOk nm st l = true by rw [HQ.out, hg, e0.out, decide_eq_true hm8]; rfl)
      have hI8 : ¬ (800 : Int) < (m : Int) := by omega
      go_wp2
      go_ret2
      rw [HT.out e1.out, e1.out]
      exact ⟨_, _, _, rfl, ho.base_le B1.size, hm8, below_go B1 hb2⟩
    · have e1 := Lib.hid (show fhsOk nm st l = false by rw [HQ.out, hg, e0.out, decide_eq_false hm8]; rfl)
      have hI8 : (800 : Int) < (m : Int) := by omega
      go_wp2
      go_ret2
      rw [HF.out e1.out, e1.out]
      exact ⟨none, 0, 0, rfl, Owned.nil strE_len _ _ _, by omega, below_go B1 hb2⟩
set_option maxHeartbeats 1000000 in
set_option maxRecDepth 100000 in
theorem impl_meeting {A B : Option Addr} {n c m d : Nat} {L M : List ByteArray} {w : World} (hn : L.length = n) (h : Strs w A L) (hm : M.length = m) (g : Strs w B M) (hz : n ≤ 1048576) (hy : m ≤ 1048576) (hL : ∀ s ∈ L, s.size ≤ 16777216) (hM : ∀ s ∈ M, s.size ≤ 16777216) :
    Calls Tryz.prog 103 #[.slice A n c, .slice B m d] w fun e w' => ∃ A' q c', e = .returned (.slice A' q c') ∧ Owned strE 1 9 w' w.heap.size A' q c' (meetL L M) ∧ q ≤ n ∧ Below w.heap.size w w' := by
  have hmm := @run_makeMap Tryz.prog
  have KS := string_keyed (P := Tryz.prog) (k := 9) Tryz.underlying9
  have HL := Lib.hid hL
  have HM := Lib.hid hM
  have HA := Lib.hid h
  have HB := Lib.hid g
  have HLn := Lib.hid hn
  have HMn := Lib.hid hm
  have M0 := Lib.hid (SetX.made Tryz.prog w 9 4)
  clear hL hM h g hn hm
  go_in
  go_wp2
  clear hmm
  go_loopw [14] (fun i wr => ∃ (k : Nat), k ≤ m ∧ i = .int .i64 k ∧ Hid (SetX Tryz.prog wr 9 4 w.heap.size (M.take k)) ∧ Hid (Below w.heap.size w wr)) (fun i _ => m - (intOf i).toNat)
  case atStart => exact ⟨0, Nat.zero_le _, rfl, Lib.hid (by simpa using M0.out), Lib.hid (by (repeat' (first | (with_reducible exact Below.refl _ _) | (with_reducible assumption) | (with_reducible refine below_drewN ?_ _) | (with_reducible refine Below.drew ?_) | (with_reducible refine below_alloc ?_ _) | (with_reducible refine Below.alloc ?_ ?_ _) | (with_reducible refine Below.setCell ?_ ?_ _) | (with_reducible refine below_go ?_ (by with_reducible assumption)) | (with_reducible refine below_then (by with_reducible assumption) ?_ ?_) | go_size)))⟩
  case round =>
    obtain ⟨k, hk, rfl, HS, Hb⟩ := hrel
    rename World => wr
    by_cases hlt : k < m
    · obtain ⟨b1, o1, x, hA, _, hx, hcx⟩ := (HB.out.below Hb.out (Nat.le_refl _)).at_str (k := k) (by rw [HMn.out]; exact hlt)
      subst hA
      have hxz := HM.out x (List.mem_of_getElem? hx)
      have HTK := Lib.hid (take_succ_some hx)
      have HLE := Lib.hid (show (M.take k).length ≤ 16777216 by rw [List.length_take]; omega)
      clear hx
      go_wp2_with (first | (at_mapUpdate; go_must ((refine wpList_setx_add rfl (.tmp 18) (.tmp 19) (.const (.bool true)) 110 rfl KS Tryz.underlying110 Tryz.underlying9 Tryz.underlying4 rfl HS.out HLE.out rfl rfl hxz ?_; intro w8 hm8 hg8))))
      go_roundw
      case rel => exact ⟨k + 1, by omega, by go_num, Lib.hid (by rw [HTK.out]; exact hm8), Lib.hid (Hb.out.grown hg8 Hb.out.size (fun j hj => by injection hj with hj; omega))⟩
      case measure => simp [intOf]; omega
    · obtain rfl : k = m := by omega
      have hI : ¬ (k : Int) < (k : Int) := by omega
      have HS2 : Hid (SetX Tryz.prog (wr.alloc (.cells #[] 9)) 9 4 w.heap.size M) := Lib.hid (by
        have h1 := HS.out
        rw [List.take_of_length_le (by rw [HMn.out]; omega)] at h1
        exact h1.alloc _)
      have HE := Lib.hid (Owned.empty (base := w.heap.size) (E := 9) strE_len wr Hb.out.size)
      have HB2 : Hid (Below w.heap.size w (wr.alloc (.cells #[] 9))) := Lib.hid (by have h1 := Hb.out; (repeat' (first | (with_reducible exact Below.refl _ _) | (with_reducible assumption) | (with_reducible refine below_drewN ?_ _) | (with_reducible refine Below.drew ?_) | (with_reducible refine below_alloc ?_ _) | (with_reducible refine Below.alloc ?_ ?_ _) | (with_reducible refine Below.setCell ?_ ?_ _) | (with_reducible refine below_go ?_ (by with_reducible assumption)) | (with_reducible refine below_then (by with_reducible assumption) ?_ ?_) | go_size)))
      clear HS Hb HB HM HMn
      go_wp2
      go_loopw [8, 24] (fun v i wq => ∃ (j q : Nat) (A' : Option Addr) (c' : Nat), j ≤ n ∧ i = .int .i64 j ∧ v = .slice A' q c' ∧ q ≤ j ∧ Hid (Owned strE 1 9 wq w.heap.size A' q c' (meetL (L.take j) M)) ∧ Hid (SetX Tryz.prog wq 9 4 w.heap.size M) ∧ Hid (Below w.heap.size w wq)) (fun _ i _ => n - (intOf i).toNat)
      case atStart => exact ⟨0, 0, _, _, Nat.zero_le _, rfl, rfl, Nat.le_refl _, HE, HS2, HB2⟩
      case round =>
        obtain ⟨j, q, A4, c4, hj, rfl, rfl, hqj, HO, HS, Hb⟩ := hrel
        rename World => wq
        have hszq := Hb.out.size
        by_cases hjt : j < n
        · obtain ⟨b1, o1, x, hA, _, hx, hcx⟩ := (HA.out.below Hb.out (Nat.le_refl _)).at_str (k := j) (by rw [HLn.out]; exact hjt)
          subst hA
          have hxz := HL.out x (List.mem_of_getElem? hx)
          have HMS := Lib.hid (meetL_succ (M := M) hx)
          have lk := HS.out.look (t := 110) KS Tryz.underlying110 Tryz.underlying9 Tryz.underlying4 (by kernel_rfl) hxz
          clear hx
          rcases hin : inL M x
          · have e1 := Lib.hid (show meetL (L.take (j + 1)) M = meetL (L.take j) M by rw [HMS.out, hin]; simp)
            rw [hin] at lk
            go_wp2
            go_roundw
            case rel => exact ⟨j + 1, q, A4, c4, by omega, by go_num, rfl, by omega, Lib.hid (by rw [e1.out]; exact HO.out), HS, Hb⟩
            case measure => simp [intOf]; omega
          · have e1 := Lib.hid (show meetL (L.take (j + 1)) M = meetL (L.take j) M ++ [x] by rw [HMS.out, hin]; simp)
            rw [hin] at lk
            have HO5 := Lib.hid (HO.out.alloc (.cells ⟨[Value.string x]⟩ 9))
            have HS5 := Lib.hid (HS.out.alloc (.cells ⟨[Value.string x]⟩ 9))
            go_wp2_with (first | (at_builtin; go_must ((refine wpList_append_recs Tryz.elStr strE_one rfl (.tmp 31) (.tmp 33) rfl rfl HO5.out rfl (own_lit1_at' strE_len _ 9 x rfl (Nat.le_refl _)).recs rfl ?_ (by decide) ?_ ?_; (focus (first | omega | (simp only [World.size_alloc]; done) | (simp only [World.size_alloc]; omega) | (simp; done) | (simp; omega))); (focus (first | omega | (simp only [World.size_alloc]; done) | (simp only [World.size_alloc]; omega) | (simp; done) | (simp; omega))); intro A6 c6 w6 ho6 hg6 hl6))))
            have hb6 : Below w.heap.size w w6 := (Hb.out.alloc hszq _).trans (grown_base hg6 (by simp; omega) (fun z hz => (HO.out.range z hz).1))
            have hs6 := HS5.out.kept hg6 (setx_own HO5.out HS5.out)
            go_roundw
            case rel => exact ⟨j + 1, q + 1, A6, c6, by omega, by go_num, rfl, by omega, Lib.hid (by rw [e1.out]; exact ho6), Lib.hid hs6, Lib.hid hb6⟩
            case measure => simp [intOf]; omega
        · obtain rfl : j = n := by omega
          have hJ : ¬ (j : Int) < (j : Int) := by omega
          have e1 := Lib.hid (show meetL (L.take j) M = meetL L M by rw [List.take_of_length_le (by rw [HLn.out]; omega)])
          go_wp2
          go_ret
          refine ⟨_, _, _, rfl, by rw [← e1.out]; exact HO.out, hqj, Hb.out⟩
set_option maxHeartbeats 2000000 in
set_option maxRecDepth 100000 in
theorem impl_SharedRows {A : Option Addr} {n c st : Nat} {nm : ByteArray} {l : List ByteArray} {f : ByteArray} {w : World} (hn : l.length = n) (h : Strs w A l) (hz : n ≤ 1048576) (hs : ∀ s ∈ l, s.size ≤ 16777216) (hnm : nm.size ≤ 16777216) (h9 : st ≤ 1000) (hf : f.size ≤ 16777216) :
    Calls Tryz.prog 24 #[.agg #[.string nm, .int .i64 st, .slice A n c], .string f] w fun e w' => ∃ A' m c', e = .returned (.tuple #[.slice A' m c', .bool (fhOk nm st l f)]) ∧ Owned strE 1 9 w' w.heap.size A' m c' (shV nm st l f) ∧ m ≤ 40 ∧ Below w.heap.size w w' := by
  have b0 : Below w.heap.size w (w.alloc (.cells ⟨[.string nm, .int .i64 st, .slice A n c]⟩ 25)) := by (repeat' (first | (with_reducible exact Below.refl _ _) | (with_reducible assumption) | (with_reducible refine below_drewN ?_ _) | (with_reducible refine Below.drew ?_) | (with_reducible refine below_alloc ?_ _) | (with_reducible refine Below.alloc ?_ ?_ _) | (with_reducible refine Below.setCell ?_ ?_ _) | (with_reducible refine below_go ?_ (by with_reducible assumption)) | (with_reducible refine below_then (by with_reducible assumption) ?_ ?_) | go_size))
  have K0 := Blk.at_ w 25 [.string nm, .int .i64 st, .slice A n c] (b := w.heap.size) rfl
  have H0 := h.up b0
  have HS := Lib.hid hs
  have hI : I64 (st : Int) := ⟨by omega, by omega⟩
  have HO : Hid (fhOk nm st l f = (goodM nm (st : Int) l && (goodRow f && (f.size == st)))) := Lib.hid rfl
  have HF : Hid (fhOk nm st l f = false → shV nm st l f = []) := Lib.hid (fun e => by rw [shV, if_neg (by rw [e]; simp)])
  have HT : Hid (fhOk nm st l f = true → shV nm st l f = meetL (leadL st l) ((leadL st l).map (timesS f))) := Lib.hid (fun e => by rw [shV, if_pos e])
  go_in
  go_wp2_with fail
  refine (impl_GoodMethod hn H0 hz hs hnm hI).mono ?_; rintro e w1 ⟨rfl, hb1⟩
  have K1 := K0.up hb1
  have H1 := H0.up hb1
  have B1 := below_go b0 hb1
  clear K0 H0 h b0 hb1
  rcases hg : goodM nm (st : Int) l
  · have e0 := Lib.hid (show fhOk nm st l f = false by rw [HO.out, hg]; rfl)
    go_wp2
    go_ret2
    rw [HF.out e0.out, e0.out]
    exact ⟨none, 0, 0, rfl, Owned.nil strE_len _ _ _, by omega, B1⟩
  · have k0 := K1.cell 0; have k1 := K1.cell 1; have k2 := K1.cell 2
    simp only [List.getElem?_cons_zero, List.getElem?_cons_succ] at k0 k1 k2
    go_wp2_with fail
    refine (impl_isRowOf (n := st) hf).mono ?_; rintro e w' ⟨rfl, rfl⟩
    rcases hr : (goodRow f && (f.size == st))
    · have e0 := Lib.hid (show fhOk nm st l f = false by rw [HO.out, hr, Bool.and_false])
      go_wp2
      go_ret2
      rw [HF.out e0.out, e0.out]
      exact ⟨none, 0, 0, rfl, Owned.nil strE_len _ _ _, by omega, B1⟩
    · have e0 := Lib.hid (show fhOk nm st l f = true by rw [HO.out, hr, hg]; rfl)
      have ht := fhOk_t e0.out
      have h38 := ht.2.2.1
      have hfN := ht.2.1
      have HGV := Lib.hid (goodM_valid hg)
      have hn40 : n ≤ 40 := by have := goodM_st hg; omega
      have hr8 : (roundsS st).size ≤ 8 := by rw [rounds_size st (by omega)]; exact h38.2
      have hf8 : f.size ≤ 8 := by rw [hfN.2]; exact h38.2
      have HR := leadL_row h38.1 h38.2 l
      have HLZ := Lib.hid (fun s (hs : s ∈ leadL st l) => show s.size ≤ 16777216 from by have h1 := (HR s hs).2; omega)
      have HMZ := Lib.hid (fun s (hs : s ∈ (leadL st l).map (timesS f)) => show s.size ≤ 16777216 from by
        obtain ⟨x, hx, rfl⟩ := List.mem_map.1 hs
        have h1 := (hfN.times (HR x hx)).2; omega)
      have HLn := Lib.hid (show (leadL st l).length = n by rw [leadL_len]; exact hn)
      have HMn := Lib.hid (show ((leadL st l).map (timesS f)).length = n by rw [List.length_map, leadL_len]; exact hn)
      have HL1 := Lib.hid (leadL_n (st := st) hn)
      have HM1 := Lib.hid (show rowsL f l n = (leadL st l).map (timesS f) by rw [rowsL_times hfN, ← leadL_n hn])
      have carry : Hid (∀ u : World, Below w1.heap.size w1 u → u.cell? ⟨w.heap.size, 0, none⟩ = some (.string nm) ∧ u.cell? ⟨w.heap.size, 1, none⟩ = some (.int .i64 (st : Int)) ∧ u.cell? ⟨w.heap.size, 2, none⟩ = some (.slice A n c)) := Lib.hid (fun u hu => by
        have L0 := K1.up hu
        exact ⟨by simpa using L0.cell 0, by simpa using L0.cell 1, by simpa using L0.cell 2⟩)
      clear hr HR ht hfN K1 k0 k1 k2
      have k0 := (carry.out _ (Below.refl _ _)).1; have k1 := (carry.out _ (Below.refl _ _)).2.1; have k2 := (carry.out _ (Below.refl _ _)).2.2
      go_upto_region 3 with fail
      go_region_held3 (fun u => u.cell? ⟨w.heap.size, 0, none⟩ = some (.string nm) ∧ u.cell? ⟨w.heap.size, 1, none⟩ = some (.int .i64 (st : Int)) ∧ u.cell? ⟨w.heap.size, 2, none⟩ = some (.slice A n c)) (first | exact carry.out _ hbW | exact carry.out _ hbZ | exact carry.out _ hbY | exact carry.out _ (Below.refl _ _).drew | exact carry.out _ (Below.refl _ _)) (first
        | (go_at_call 105; refine (impl_rounds h38.2).mono ?_; rintro e w' ⟨rfl, rfl⟩)
        | (go_at_call 104; with_reducible refine (impl_leadRows (a := f) hf8 hn HR2.out hz HS.out HGV.out).mono ?_; rintro e w5 ⟨A5, c5, rfl, ho5, hbd⟩; have hbZ := below_go hbY hbd; have RL := Lib.hid (RLa.out.up hbd); have RM := Lib.hid (show Strs w5 A5 ((leadL st l).map (timesS f)) by rw [← HM1.out]; exact ho5))
        | (go_at_call 104; with_reducible refine (impl_leadRows (a := roundsS st) hr8 hn HF2.out hz HS.out HGV.out).mono ?_; rintro e w5 ⟨A5, c5, rfl, ho5, hbd⟩; have hbZ := below_go hbY hbd; have RM := Lib.hid (RMa.out.up hbd); have RL := Lib.hid (show Strs w5 A5 (leadL st l) by rw [HL1.out]; exact ho5))
        | (go_at_call 104; with_reducible refine (impl_leadRows (a := roundsS st) hr8 hn H1.drew hz HS.out HGV.out).mono ?_; rintro e w4 ⟨A4, c4, rfl, ho4, hbd⟩; have hbY := below_of_drew hbd; have HR2 := Lib.hid (H1.up hbY); have RLa := Lib.hid (show Strs w4 A4 (leadL st l) by rw [HL1.out]; exact ho4))
        | (go_at_call 104; with_reducible refine (impl_leadRows (a := f) hf8 hn H1.drew hz HS.out HGV.out).mono ?_; rintro e w4 ⟨A4, c4, rfl, ho4, hbd⟩; have hbY := below_of_drew hbd; have HF2 := Lib.hid (H1.up hbY); have RMa := Lib.hid (show Strs w4 A4 ((leadL st l).map (timesS f)) by rw [← HM1.out]; exact ho4))
        | (go_at_call 103; with_reducible refine (impl_meeting HLn.out RL.out HMn.out RM.out (by omega) (by omega) HLZ.out HMZ.out).mono ?_; rintro e w6 ⟨A6, m6, c6, rfl, ho6, hm6, hb6⟩; have hbW := below_go hbZ hb6))
      all_goals
        go_wp2
        go_ret2
        rw [HT.out e0.out, e0.out]
        exact ⟨_, _, _, rfl, ho6.base_le (Nat.le_trans B1.size hbZ.size), by omega, below_go B1 hbW⟩
set_option maxHeartbeats 1000000 in
set_option maxRecDepth 100000 in
theorem impl_SameFalse {A B : Option Addr} {n c st n2 c2 sb : Nat} {nm nb : ByteArray} {l lb : List ByteArray} {w : World} (hn : l.length = n) (h : Strs w A l) (hz : n ≤ 1048576) (hs : ∀ s ∈ l, s.size ≤ 16777216) (hnm : nm.size ≤ 16777216) (h9 : st ≤ 1000) (hn2 : lb.length = n2) (g : Strs w B lb) (hz2 : n2 ≤ 1048576) (hs2 : ∀ s ∈ lb, s.size ≤ 16777216) (hnb : nb.size ≤ 16777216) (h92 : sb ≤ 1000) :
    Calls Tryz.prog 31 #[.agg #[.string nm, .int .i64 st, .slice A n c], .agg #[.string nb, .int .i64 sb, .slice B n2 c2]] w fun e w' => e = .returned (.tuple #[.bool (sfV nm st l nb sb lb), .bool (sfOk nm st l nb sb lb)]) ∧ Below w.heap.size w w' := by
  have b0 : Below w.heap.size w ((w.alloc (.cells ⟨[.string nm, .int .i64 st, .slice A n c]⟩ 25)).alloc (.cells ⟨[.string nb, .int .i64 sb, .slice B n2 c2]⟩ 25)) := by (repeat' (first | (with_reducible exact Below.refl _ _) | (with_reducible assumption) | (with_reducible refine below_drewN ?_ _) | (with_reducible refine Below.drew ?_) | (with_reducible refine below_alloc ?_ _) | (with_reducible refine Below.alloc ?_ ?_ _) | (with_reducible refine Below.setCell ?_ ?_ _) | (with_reducible refine below_go ?_ (by with_reducible assumption)) | (with_reducible refine below_then (by with_reducible assumption) ?_ ?_) | go_size))
  have K0 := (Blk.at_ w 25 [.string nm, .int .i64 st, .slice A n c] (b := w.heap.size) rfl).alloc (.cells ⟨[.string nb, .int .i64 sb, .slice B n2 c2]⟩ 25)
  have J0 := Blk.at_ (w.alloc (.cells ⟨[.string nm, .int .i64 st, .slice A n c]⟩ 25)) 25 [.string nb, .int .i64 sb, .slice B n2 c2] (b := w.heap.size + 1) (by simp)
  have H0 := h.up b0
  have G0 := g.up b0
  have HO : Hid (sfOk nm st l nb sb lb = ((fhsOk nm st l && fhsOk nb sb lb) && decide (st = sb))) := Lib.hid rfl
  have HV : Hid (sfV nm st l nb sb lb = (sfOk nm st l nb sb lb && decide (falS (leadL st l) = falS (leadL sb lb)))) := Lib.hid rfl
  have HF1 : Hid (fhsOk nm st l = true → fhsV nm st l = falS (leadL st l)) := Lib.hid (fun e => by rw [fhsV, if_pos e])
  have HF2 : Hid (fhsOk nb sb lb = true → fhsV nb sb lb = falS (leadL sb lb)) := Lib.hid (fun e => by rw [fhsV, if_pos e])
  go_in
  go_wp2_with fail
  refine (impl_FalseHeads (nm := nm) (st := st) hn H0 hz hs hnm h9).mono ?_; rintro e w1 ⟨A1, m1, c1, rfl, ho1, hm1, hb1⟩
  have K1 := K0.up hb1
  have J1 := J0.up hb1
  have G1 := G0.up hb1
  have B1 := below_go b0 hb1
  have j0 := J1.cell 0; have j1 := J1.cell 1; have j2 := J1.cell 2
  simp only [List.getElem?_cons_zero, List.getElem?_cons_succ] at j0 j1 j2
  clear K0 J0 H0 G0 h g b0 hb1
  go_wp2_with fail
  refine (impl_FalseHeads (nm := nb) (st := sb) hn2 G1 hz2 hs2 hnb h92).mono ?_; rintro e w2 ⟨A2, m2, d2, rfl, ho2, hm2, hb2⟩
  have K2 := K1.up hb2
  have J2 := J1.up hb2
  have B2 := below_go B1 hb2
  have R1 := ho1.recs.up hb2
  have R2 := ho2.recs
  have k1 := K2.cell 1; have j1' := J2.cell 1
  simp only [List.getElem?_cons_zero, List.getElem?_cons_succ] at k1 j1'
  have HL1 := Lib.hid ho1.len
  have HL2 := Lib.hid ho2.len
  clear K1 J1 G1 B1 hb2 j0 j1 j2 ho1 ho2
  rcases hf1 : fhsOk nm st l
  · have e0 := Lib.hid (show sfOk nm st l nb sb lb = false by rw [HO.out, hf1]; rfl)
    have e1 := Lib.hid (show sfV nm st l nb sb lb = false by rw [HV.out, e0.out]; rfl)
    go_wp2
    go_ret2
    rw [e1.out, e0.out]
    exact ⟨rfl, B2⟩
  · rcases hf2 : fhsOk nb sb lb
    · have e0 := Lib.hid (show sfOk nm st l nb sb lb = false by rw [HO.out, hf2, Bool.and_false]; rfl)
      have e1 := Lib.hid (show sfV nm st l nb sb lb = false by rw [HV.out, e0.out]; rfl)
      go_wp2
      go_ret2
      rw [e1.out, e0.out]
      exact ⟨rfl, B2⟩
    · by_cases hst : st = sb
      · have e0 := Lib.hid (show sfOk nm st l nb sb lb = true by rw [HO.out, hf1, hf2, decide_eq_true hst]; rfl)
        have e1 := Lib.hid (show sfV nm st l nb sb lb = decide (fhsV nm st l = fhsV nb sb lb) by rw [HV.out, e0.out, HF1.out hf1, HF2.out hf2]; rfl)
        have hbe : ((st : Int) != (sb : Int)) = false := by simp; omega
        clear hst
        go_wp2_with fail
        refine (equal_strs A1 A2 m1 m2 c1 d2 _ _ w2 HL1.out HL2.out R1 R2 (by omega) (by omega)).mono ?_; rintro e w3 ⟨rfl, hb3⟩
        go_wp2
        go_ret2
        rw [e1.out, e0.out]
        exact ⟨rfl, below_go B2 hb3⟩
      · have e0 := Lib.hid (show sfOk nm st l nb sb lb = false by rw [HO.out, decide_eq_false hst, Bool.and_false])
        have e1 := Lib.hid (show sfV nm st l nb sb lb = false by rw [HV.out, e0.out]; rfl)
        have hbe : ((st : Int) != (sb : Int)) = true := by simp; omega
        go_wp2
        go_ret2
        rw [e1.out, e0.out]
        exact ⟨rfl, B2⟩
set_option maxHeartbeats 1000000 in
theorem spec_SameFalse {A B : Option Addr} {n c st n2 c2 sb : Nat} {nm nb : ByteArray} {l lb : List ByteArray} {w : World} (hn : l.length = n) (h : Strs w A l) (hz : n ≤ 1048576) (hs : ∀ s ∈ l, s.size ≤ 16777216) (hnm : nm.size ≤ 16777216) (h9 : st ≤ 1000) (hn2 : lb.length = n2) (g : Strs w B lb) (hz2 : n2 ≤ 1048576) (hs2 : ∀ s ∈ lb, s.size ≤ 16777216) (hnb : nb.size ≤ 16777216) (h92 : sb ≤ 1000) :
    Calls Tryz.prog 32 #[.agg #[.string nm, .int .i64 st, .slice A n c], .agg #[.string nb, .int .i64 sb, .slice B n2 c2]] w fun e w' => e = .returned (.tuple #[.bool (sfV nm st l nb sb lb), .bool (sfOk nm st l nb sb lb)]) ∧ Below w.heap.size w w' := by
  have b0 : Below w.heap.size w ((w.alloc (.cells ⟨[.string nm, .int .i64 st, .slice A n c]⟩ 25)).alloc (.cells ⟨[.string nb, .int .i64 sb, .slice B n2 c2]⟩ 25)) := by (repeat' (first | (with_reducible exact Below.refl _ _) | (with_reducible assumption) | (with_reducible refine below_drewN ?_ _) | (with_reducible refine Below.drew ?_) | (with_reducible refine below_alloc ?_ _) | (with_reducible refine Below.alloc ?_ ?_ _) | (with_reducible refine Below.setCell ?_ ?_ _) | (with_reducible refine below_go ?_ (by with_reducible assumption)) | (with_reducible refine below_then (by with_reducible assumption) ?_ ?_) | go_size))
  have K0 := (Blk.at_ w 25 [.string nm, .int .i64 st, .slice A n c] (b := w.heap.size) rfl).alloc (.cells ⟨[.string nb, .int .i64 sb, .slice B n2 c2]⟩ 25)
  have J0 := Blk.at_ (w.alloc (.cells ⟨[.string nm, .int .i64 st, .slice A n c]⟩ 25)) 25 [.string nb, .int .i64 sb, .slice B n2 c2] (b := w.heap.size + 1) (by simp)
  have H0 := h.up b0
  have G0 := g.up b0
  have HO : Hid (sfOk nm st l nb sb lb = ((fhsOk nm st l && fhsOk nb sb lb) && decide (st = sb))) := Lib.hid rfl
  have HV : Hid (sfV nm st l nb sb lb = (sfOk nm st l nb sb lb && decide (falS (leadL st l) = falS (leadL sb lb)))) := Lib.hid rfl
  have HF1 : Hid (fhsOk nm st l = true → fhsV nm st l = falS (leadL st l)) := Lib.hid (fun e => by rw [fhsV, if_pos e])
  have HF2 : Hid (fhsOk nb sb lb = true → fhsV nb sb lb = falS (leadL sb lb)) := Lib.hid (fun e => by rw [fhsV, if_pos e])
  go_in
  go_wp2_with fail
  refine (spec_FalseHeads (nm := nm) (st := st) hn H0 hz hs hnm h9).mono ?_; rintro e w1 ⟨A1, m1, c1, rfl, ho1, hm1, hb1⟩
  have K1 := K0.up hb1
  have J1 := J0.up hb1
  have G1 := G0.up hb1
  have B1 := below_go b0 hb1
  have j0 := J1.cell 0; have j1 := J1.cell 1; have j2 := J1.cell 2
  simp only [List.getElem?_cons_zero, List.getElem?_cons_succ] at j0 j1 j2
  clear K0 J0 H0 G0 h g b0 hb1
  go_wp2_with fail
  refine (spec_FalseHeads (nm := nb) (st := sb) hn2 G1 hz2 hs2 hnb h92).mono ?_; rintro e w2 ⟨A2, m2, d2, rfl, ho2, hm2, hb2⟩
  have K2 := K1.up hb2
  have J2 := J1.up hb2
  have B2 := below_go B1 hb2
  have R1 := ho1.recs.up hb2
  have R2 := ho2.recs
  have k1 := K2.cell 1; have j1' := J2.cell 1
  simp only [List.getElem?_cons_zero, List.getElem?_cons_succ] at k1 j1'
  have HL1 := Lib.hid ho1.len
  have HL2 := Lib.hid ho2.len
  clear K1 J1 G1 B1 hb2 j0 j1 j2 ho1 ho2
  rcases hf1 : fhsOk nm st l
  · have e0 := Lib.hid (show sfOk nm st l nb sb lb = false by rw [HO.out, hf1]; rfl)
    have e1 := Lib.hid (show sfV nm st l nb sb lb = false by rw [HV.out, e0.out]; rfl)
    go_wp2
    go_ret2
    rw [e1.out, e0.out]
    exact ⟨rfl, B2⟩
  · rcases hf2 : fhsOk nb sb lb
    · have e0 := Lib.hid (show sfOk nm st l nb sb lb = false by rw [HO.out, hf2, Bool.and_false]; rfl)
      have e1 := Lib.hid (show sfV nm st l nb sb lb = false by rw [HV.out, e0.out]; rfl)
      go_wp2
      go_ret2
      rw [e1.out, e0.out]
      exact ⟨rfl, B2⟩
    · by_cases hst : st = sb
      · have e0 := Lib.hid (show sfOk nm st l nb sb lb = true by rw [HO.out, hf1, hf2, decide_eq_true hst]; rfl)
        have e1 := Lib.hid (show sfV nm st l nb sb lb = decide (fhsV nm st l = fhsV nb sb lb) by rw [HV.out, e0.out, HF1.out hf1, HF2.out hf2]; rfl)
        have hbe : ((st : Int) != (sb : Int)) = false := by simp; omega
        clear hst
        go_wp2_with fail
        refine (spec_sameS A1 A2 m1 m2 c1 d2 _ _ w2 HL1.out HL2.out R1 R2 (by omega) (by omega)).mono ?_; rintro e w3 ⟨rfl, hb3⟩
        go_wp2
        go_ret2
        rw [e1.out, e0.out]
        exact ⟨rfl, below_go B2 hb3⟩
      · have e0 := Lib.hid (show sfOk nm st l nb sb lb = false by rw [HO.out, decide_eq_false hst, Bool.and_false])
        have e1 := Lib.hid (show sfV nm st l nb sb lb = false by rw [HV.out, e0.out]; rfl)
        have hbe : ((st : Int) != (sb : Int)) = true := by simp; omega
        go_wp2
        go_ret2
        rw [e1.out, e0.out]
        exact ⟨rfl, B2⟩
theorem spec_RoundsOf {n : Nat} {w : World} (h3 : 3 ≤ n) (h8 : n ≤ 8) :
    Calls Tryz.prog 34 #[.int .i64 n] w fun e w' => e = .returned (.tuple #[.string (roundsS n), .bool true]) ∧ w = w' := by
  have h1 : inB (n : Int) 3 8 = true := by rw [inB, decide_eq_true_iff]; omega
  go_in
  go_wp2_with (first | (go_at_call 81; refine (spec_l1In _ _ _ _).mono ?_; rw [h1]; rintro e w' ⟨rfl, rfl⟩) | (go_at_call 90; refine (spec_l1Rounds h8).mono ?_; rintro e w' ⟨rfl, rfl⟩))
  go_ret2
  exact ⟨rfl, rfl⟩
theorem spec_TurnRow {a : ByteArray} {w : World} (hg : goodRow a = true) (hz : a.size ≤ 16777216) :
    Calls Tryz.prog 33 #[.string a] w fun e w' => e = .returned (.tuple #[.string (turnS a), .bool true]) ∧ Below w.heap.size w w' := by
  have HG := Lib.hid hg
  go_in
  go_wp2_with fail
  refine (spec_l1Row hz).mono ?_; rw [HG.out]; rintro e w1 ⟨rfl, hb1⟩
  go_wp2_with fail
  refine (spec_l1Turn HG.out).mono ?_; rintro e w2 ⟨rfl, hb2, _⟩
  go_wp2
  go_ret2
  exact ⟨rfl, below_go hb1 hb2⟩
end Go.Proofs.YtidolgonmimicaaGreat
/- The walks through the generator's cursor. -/
namespace Go.Proofs.YtidolgonmimicaaGreat
set_option linter.unusedVariables false
set_option linter.unusedSimpArgs false
open Go.ChangeShapes Go.WideShapes Go.ChangeAt Go.RowKit Go.Deep
/-- Block p is a cursor over n bytes with address A, at most a steps on. -/
def Cur (w : World) (p : Nat) (A : Option Addr) (n c a : Nat) : Prop := ∃ (k : Nat) (s : Int), Blk w p 87 [.slice A n c, .int .i64 k, .int .u64 s] ∧ k ≤ a ∧ 0 ≤ s ∧ s ≤ 18446744073709551615
/-- The bytes that a cursor reads, as they stood in world w0. -/
def Src (w0 : World) (A : Option Addr) (n : Nat) : Prop := ∃ l : List Int, l.length = n ∧ n ≤ 9223372036854775807 ∧ (∀ x ∈ l, 0 ≤ x ∧ x ≤ 255) ∧ Recs byteE 1 w0 A l
theorem Cur.mono {w : World} {p : Nat} {A : Option Addr} {n c a b : Nat} (h : Cur w p A n c a) (hb : a ≤ b) : Cur w p A n c b := by
  obtain ⟨k, s, h1, h2, h3⟩ := h
  exact ⟨k, s, h1, by omega, h3⟩
theorem Cur.lt {w : World} {p : Nat} {A : Option Addr} {n c a : Nat} (h : Cur w p A n c a) : p < w.heap.size := by
  obtain ⟨k, s, h1, _⟩ := h
  exact h1.lt
theorem Cur.grown {w w' : World} {p : Nat} {A : Option Addr} {n c a : Nat} {row : Option Nat} (h : Cur w p A n c a) (hg : w.grownBy w' row) (hne : some p ≠ row) : Cur w' p A n c a := by
  obtain ⟨k, s, h1, h2⟩ := h
  exact ⟨k, s, h1.grown hg hne, h2⟩
theorem Cur.up {w w' : World} {p : Nat} {A : Option Addr} {n c a : Nat} (h : Cur w p A n c a) (hb : Below w.heap.size w w') : Cur w' p A n c a := h.grown (grown_of_below hb) (by simp)
theorem Recs.at_byte {w : World} {A : Option Addr} {l : List Int} {k : Nat} (h : Recs byteE 1 w A l) (hk : k < l.length) : ∃ b off x, A = some ⟨b, off, none⟩ ∧ b < w.heap.size ∧ l[k]? = some x ∧ w.cell? ⟨b, off + k, none⟩ = some (.int .u8 x) := by
  obtain ⟨b, off, hA, hb, hc⟩ := h.cells (by omega)
  obtain ⟨x, hx⟩ := some_of_lt hk
  exact ⟨b, off, x, hA, hb, hx, by simpa using hc k x 0 _ hx rfl⟩
theorem u64_bd (x : Int) : 0 ≤ IntKind.u64.wrap x ∧ IntKind.u64.wrap x ≤ 18446744073709551615 := by rw [IntKind.wrap_u64]; omega
theorem and255 {x : Int} (h0 : 0 ≤ x) (h1 : x ≤ 18446744073709551615) : 0 ≤ bits .and .u64 x 255 ∧ bits .and .u64 x 255 ≤ 255 := by
  obtain ⟨n, rfl⟩ := Int.eq_ofNat_of_zero_le h0
  have e : bits .and .u64 (n : Int) ((255 : Nat) : Int) = ((n &&& 255 : Nat) : Int) := bits_and_u64_nat n 255 (by omega) (by omega)
  have h := Nat.and_le_right (n := n) (m := 255)
  rw [show ((255 : Int)) = ((255 : Nat) : Int) from rfl, e]
  omega
set_option maxRecDepth 100000 in
theorem cur_next {A : Option Addr} {n c a p : Nat} {w0 w : World} (hS : Src w0 A n) (hb : Below w0.heap.size w0 w) (hp : w0.heap.size ≤ p) (hc : Cur w p A n c a) (ha : a ≤ 16777216) :
    Calls Tryz.prog 166 #[.pointer (some ⟨p, 0, none⟩)] w fun e w' => ∃ x : Int, e = .returned (.int .i64 x) ∧ 0 ≤ x ∧ x ≤ 255 ∧ Cur w' p A n c (a + 1) ∧ w.grownBy w' (some p) := by
  obtain ⟨l, rfl, hn, hlb, hR⟩ := hS
  obtain ⟨k, s, K, hk, s0, s1⟩ := hc
  have k0 := K.cell 0; have k1 := K.cell 1; have k2 := K.cell 2
  have f1 := K.frozen 1; have f2 := K.frozen 2
  simp only [List.getElem?_cons_zero, List.getElem?_cons_succ] at k0 k1 k2
  have HK := Lib.hid K
  clear K
  by_cases hlt : k < l.length
  · have hI : (k : Int) < (l.length : Int) := by omega
    have hJ : (k : Int) + 1 ≤ (l.length : Int) := by omega
    obtain ⟨b, o, x, rfl, _, hx, hcx⟩ := (hR.below hb (Nat.le_refl _)).at_byte hlt
    have hxb := hlb x (List.mem_of_getElem? hx)
    have gx : IntKind.i64.wrap x = x := wrap_id (by omega)
    clear hx hR hlb
    go_in
    go_wp2
    go_quiet (fail)
    go_wp2
    go_quiet (fail)
    go_wp2
    go_quiet (fail)
    go_wp2
    go_ret
    refine ⟨_, rfl, hxb.1, hxb.2, ⟨k + 1, _, ((HK.out.drewN _).set_ 1 _).set_ 2 _, by omega, (u64_bd _).1, (u64_bd _).2⟩, ?_⟩
    exact grownBy_trans (grownBy_trans (grown_any (below_drewN (Below.refl _ _) _) _) (only_set _ (p := ⟨p, 1, none⟩) _)) (grownBy_trans (only_set _ (p := ⟨p, 2, none⟩) _) (grown_any (below_drewN (Below.refl _ _) _) _))
  · have hI : ¬ (k : Int) < (l.length : Int) := by omega
    have hJ : ¬ (k : Int) + 1 ≤ (l.length : Int) := by omega
    clear hR hlb
    go_in
    go_wp2
    go_quiet (fail)
    go_wp2
    go_quiet (fail)
    go_wp2
    obtain ⟨T, hT⟩ : ∃ T, T = IntKind.u64.wrap (IntKind.u64.wrap (IntKind.u64.wrap (s * 6364136223846793005)) + 1442695040888963407) := ⟨_, rfl⟩
    have hTb : 0 ≤ T ∧ T ≤ 18446744073709551615 := by rw [hT]; exact u64_bd _
    rw [← hT]
    clear hT
    have hA := and255 (x := T / 1099511627776) (by omega) (by omega)
    obtain ⟨v, hv⟩ : ∃ v, v = bits BinOp.and IntKind.u64 (T / 1099511627776) 255 := ⟨_, rfl⟩
    rw [← hv] at hA ⊢
    clear hv
    have hwv : wrap64 v = v := by unfold wrap64; omega
    rw [hwv]
    clear hwv
    go_ret
    refine ⟨_, rfl, hA.1, hA.2, ⟨k + 1, _, ((HK.out.drewN _).set_ 1 _).set_ 2 _, by omega, hTb.1, hTb.2⟩, ?_⟩
    exact grownBy_trans (grownBy_trans (grown_any (below_drewN (Below.refl _ _) _) _) (only_set _ (p := ⟨p, 1, none⟩) _)) (grownBy_trans (only_set _ (p := ⟨p, 2, none⟩) _) (grown_any (below_drewN (Below.refl _ _) _) _))
theorem grown_below {w0 w w' : World} {p : Nat} (hb : Below w0.heap.size w0 w) (hp : w0.heap.size ≤ p) (hg : w.grownBy w' (some p)) : Below w0.heap.size w0 w' := hb.grown hg hb.size fun k hk => by injection hk with hk; omega
/-- A number below n, or 0. -/
def upTo (n x : Int) : Prop := 0 ≤ x ∧ (x < n ∨ x = 0)
set_option maxRecDepth 100000 in
theorem cur_pick {A : Option Addr} {n c a p : Nat} {N : Int} {w0 w : World} (hS : Src w0 A n) (hb : Below w0.heap.size w0 w) (hp : w0.heap.size ≤ p) (hc : Cur w p A n c a) (ha : a ≤ 16777216) (hN : N ≤ 200) (hN0 : -1000 ≤ N) :
    Calls Tryz.prog 72 #[.pointer (some ⟨p, 0, none⟩), .int .i64 N] w fun e w' => ∃ x : Int, e = .returned (.int .i64 x) ∧ upTo N x ∧ Cur w' p A n c (a + 1) ∧ w.grownBy w' (some p) := by
  by_cases h1 : N ≤ 1
  · go_in
    go_wp2
    go_ret
    exact ⟨0, rfl, ⟨Int.le_refl _, .inr rfl⟩, hc.mono (by omega), grown_any (Below.refl _ _) _⟩
  · go_in
    go_wp2_with fail
    refine (cur_next hS hb hp hc ha).mono ?_; rintro e w1 ⟨x, rfl, x0, x1, hc1, hg1⟩
    have hm : x.tmod N = x % N := Int.tmod_eq_emod_of_nonneg x0
    have m0 := Int.emod_nonneg x (show N ≠ 0 by omega)
    have m1 := Int.emod_lt_of_pos x (show 0 < N by omega)
    have hN1 : ¬ N = 0 := by omega
    go_wp2
    go_ret
    exact ⟨_, rfl, ⟨by omega, .inl (by omega)⟩, hc1, hg1⟩
theorem cur_one {A : Option Addr} {n c a p : Nat} {N : Int} {w0 w : World} (hS : Src w0 A n) (hb : Below w0.heap.size w0 w) (hp : w0.heap.size ≤ p) (hc : Cur w p A n c a) (ha : a ≤ 16777216) (hN : N ≤ 200) (hN0 : -1000 ≤ N) :
    Calls Tryz.prog 95 #[.pointer (some ⟨p, 0, none⟩), .int .i64 N] w fun e w' => ∃ b : Bool, e = .returned (.bool b) ∧ Cur w' p A n c (a + 1) ∧ w.grownBy w' (some p) := by
  go_in
  go_wp2_with fail
  refine (cur_pick hS hb hp hc ha hN hN0).mono ?_; rintro e w1 ⟨x, rfl, _, hc1, hg1⟩
  go_wp2
  go_ret
  exact ⟨_, rfl, hc1, hg1⟩
theorem lit_ints (w : World) (t : TypeId) (l : List Int) : Ints (w.alloc (.cells ⟨l.map fun x => Value.int .i64 x⟩ t)) (some ⟨w.heap.size, 0, none⟩) l := by
  refine ⟨intE_len, by rw [flatMap_len intE_len], fun hn => ⟨w.heap.size, 0, rfl, by simp, fun j u hu => ?_⟩⟩
  have h := Box.new w (l.map fun x => Value.int .i64 x) t
  rw [Nat.zero_add]
  refine h j u ?_
  rw [← hu]
  congr 1
  exact (flatMap_one (fun x => Value.int .i64 x) l).symm
theorem cur_among {A B : Option Addr} {n c a p m d : Nat} {l : List Int} {w0 w : World} (hS : Src w0 A n) (hb : Below w0.heap.size w0 w) (hp : w0.heap.size ≤ p) (hc : Cur w p A n c a) (ha : a ≤ 16777216) (hm : l.length = m) (hl : Ints w B l) (hm0 : 0 < m) (hm1 : m ≤ 200) (hne : ∀ b o, B = some ⟨b, o, none⟩ → b ≠ p) :
    Calls Tryz.prog 149 #[.pointer (some ⟨p, 0, none⟩), .slice B m d] w fun e w' => ∃ x ∈ l, e = .returned (.int .i64 x) ∧ Cur w' p A n c (a + 1) ∧ w.grownBy w' (some p) := by
  subst hm
  go_in
  go_wp2_with fail
  refine (cur_pick hS hb hp hc ha (by omega) (by omega)).mono ?_; rintro e w1 ⟨x, rfl, ⟨x0, x1⟩, hc1, hg1⟩
  obtain ⟨k, rfl⟩ := Int.eq_ofNat_of_zero_le x0
  have hk : k < l.length := by omega
  obtain ⟨b, o, y, rfl, hbb, hy, hcy⟩ := hl.at_int hk
  have hcz : w1.cell? ⟨b, o + k, none⟩ = some (.int .i64 y) := (hg1.cell_far ⟨b, o + k, none⟩ hbb (fun e => hne b o rfl (by injection e))).trans hcy
  have HY := Lib.hid hy
  clear hy hl hcy x1
  go_wp2
  go_ret
  exact ⟨y, List.mem_of_getElem? HY.out, rfl, hc1, hg1⟩
end Go.Proofs.YtidolgonmimicaaGreat
/- The walk through the generator of times. -/
namespace Go.Proofs.YtidolgonmimicaaGreat
set_option linter.unusedVariables false
set_option linter.unusedSimpArgs false
open Go.ChangeShapes Go.WideShapes Go.ChangeAt Go.RowKit Go.Deep
theorem wpList_append_rec2 {P : Program} {α : Type} {e : α → List Value} {s bytes : Nat} {t E : TypeId} {z : Value} (he : ElemOk P t E z s bytes) {ops : Array Oper} {rest : List Oper} {o : Oper} {a : Act} {Q : Exit → Act → World → Prop} {W : World}
    (hgd : o.guard = none) (S X : Operand) (ho : o.op = .call { callee := .builtin .append, args := #[S, X], argTypes := #[t, t] })
    {base : Nat} {A : Option Addr} {n c : Nat} {l : List α} (hs : a.eval S = .slice A n c) (hown : Owned e s E W base A n c l) (x : α) {b cx : Nat} (hx : a.eval X = .slice (some ⟨b, 0, none⟩) 1 cx)
    (hnew : Box W b (e x)) (h1 : ∀ u ∈ e x, u.oneCell' = true) (hn : n ≤ 16777216) (hby : bytes ≤ 4096) (hbase : base ≤ W.heap.size)
    (h : ∀ A' c' w', Owned e s E w' base A' (n + 1) c' (l ++ [x]) → W.grownBy w' (Value.slice A n c).ownBlock → (∀ k, (Value.slice A' (n + 1) c').ownBlock = some k → (Value.slice A n c).ownBlock = some k ∨ W.heap.size ≤ k) → wpList P ops Q rest (a.put o.dst (.slice A' (n + 1) c')) w') :
    wpList P ops Q (o :: rest) a W := by
  obtain ⟨i0, hi, hz0, hz1, hz2⟩ := info_parts he.info
  refine wpList_append_lies W hgd S X t ho base E i0 z s bytes he.under hi hz0 hz1 hz2 he.zs he.pos _ n _ hs hown.2.2 ⟨b, 0, none⟩ 1 cx (e x) hx (by rw [hown.1]; omega)
    (fun j u hu => by rw [Go.WideShapes.add_plain, Nat.zero_add]; exact hnew j u hu) h1 (by omega) (by unfold maxLen; omega) ?_ hbase W.heap.size rfl ?_
  · exact Nat.le_trans (Nat.mul_le_mul (show n + 1 ≤ 16777217 by omega) hby) (by decide)
  · intro g cap w' hown' hg hl _
    have ho' : Owned e s E w' base (some ⟨g, 0, none⟩) (n + 1) cap (l ++ [x]) := ⟨hown.1, by simp [hown.2.1], by simpa using hown'⟩
    refine h _ _ w' ho' hg fun k hk => ?_
    injection hk with hk
    dsimp only at hk
    subst hk
    rcases hl with hl | hl
    · exact .inl hl
    · exact .inr (by omega)
theorem grow_own {w u v : World} {r row : Option Nat} (h : w.grownBy u r) (hg : u.grownBy v row) (hrow : ∀ k, row = some k → w.heap.size ≤ k) : w.grownBy v r :=
  ⟨hg.os.trans h.os, hg.tape.trans h.tape, hg.output.trans h.output, Nat.le_trans h.size hg.size, fun i hi hne => (hg.block i (Nat.lt_of_lt_of_le hi h.size) (fun e => by have := hrow i e.symm; omega)).trans (h.block i hi hne)⟩
/-- Two lists that are being made, in blocks of their own; but for block p nothing that stood before has turned. -/
structure TL (w wr : World) (p : Nat) (A1 : Option Addr) (n1 c1 : Nat) (l1 : List Int) (A2 : Option Addr) (n2 c2 : Nat) (l2 : List Int) : Prop where
  own1 : Owned intE 1 3 wr w.heap.size A1 n1 c1 l1
  own2 : Owned intE 1 3 wr w.heap.size A2 n2 c2 l2
  two : ∀ k, (Value.slice A1 n1 c1).ownBlock = some k → (Value.slice A2 n2 c2).ownBlock ≠ some k
  gr : w.grownBy wr (some p)
section
variable {w wr wv : World} {p : Nat} {A1 A2 A' : Option Addr} {n1 c1 n2 c2 c' : Nat} {l1 l2 : List Int} {x : Int}
theorem TL.grown (h : TL w wr p A1 n1 c1 l1 A2 n2 c2 l2) (hp : p < w.heap.size) (hg : wr.grownBy wv (some p)) : TL w wv p A1 n1 c1 l1 A2 n2 c2 l2 :=
  ⟨h.own1.kept hg (fun k hk e => by have := (h.own1.blk hk).1; injection e with e; omega), h.own2.kept hg (fun k hk e => by have := (h.own2.blk hk).1; injection e with e; omega), h.two, grownBy_trans h.gr hg⟩
theorem TL.alloc (h : TL w wr p A1 n1 c1 l1 A2 n2 c2 l2) (o : Obj) : TL w (wr.alloc o) p A1 n1 c1 l1 A2 n2 c2 l2 :=
  ⟨h.own1.alloc o, h.own2.alloc o, h.two, grownBy_trans h.gr (World.grownBy_alloc _ _ _)⟩
theorem TL.app1 (h : TL w wr p A1 n1 c1 l1 A2 n2 c2 l2) (ho : Owned intE 1 3 wv w.heap.size A' (n1 + 1) c' (l1 ++ [x])) (hg : wr.grownBy wv (Value.slice A1 n1 c1).ownBlock)
    (hl : ∀ k, (Value.slice A' (n1 + 1) c').ownBlock = some k → (Value.slice A1 n1 c1).ownBlock = some k ∨ wr.heap.size ≤ k) : TL w wv p A' (n1 + 1) c' (l1 ++ [x]) A2 n2 c2 l2 :=
  ⟨ho, h.own2.kept hg (fun k hk e => h.two k e hk), fun k hk hk2 => by
    rcases hl k hk with h1 | h1
    · exact h.two k h1 hk2
    · have := (h.own2.blk hk2).2; omega, grow_own h.gr hg (fun k e => (h.own1.blk e).1)⟩
theorem TL.app2 (h : TL w wr p A1 n1 c1 l1 A2 n2 c2 l2) (ho : Owned intE 1 3 wv w.heap.size A' (n2 + 1) c' (l2 ++ [x])) (hg : wr.grownBy wv (Value.slice A2 n2 c2).ownBlock)
    (hl : ∀ k, (Value.slice A' (n2 + 1) c').ownBlock = some k → (Value.slice A2 n2 c2).ownBlock = some k ∨ wr.heap.size ≤ k) : TL w wv p A1 n1 c1 l1 A' (n2 + 1) c' (l2 ++ [x]) :=
  ⟨h.own1.kept hg (fun k hk e => h.two k hk e), ho, fun k hk hk2 => by
    rcases hl k hk2 with h1 | h1
    · exact h.two k hk h1
    · have := (h.own1.blk hk).2; omega, grow_own h.gr hg (fun k e => (h.own2.blk e).1)⟩
end
theorem Cur.app {wr wv : World} {p : Nat} {A B : Option Addr} {n c a m d base : Nat} {l : List Int} (h : Cur wr p A n c a) (ho : Owned intE 1 3 wr base B m d l) (hp : p < base) (hg : wr.grownBy wv (Value.slice B m d).ownBlock) : Cur wv p A n c a :=
  h.grown hg (fun e => by have := (ho.blk e.symm).1; omega)
end Go.Proofs.YtidolgonmimicaaGreat
/- The walks through the generators of changes for extents. -/
namespace Go.Proofs.YtidolgonmimicaaGreat
set_option linter.unusedVariables false
set_option linter.unusedSimpArgs false
open Go.ChangeShapes Go.WideShapes Go.ChangeAt Go.RowKit Go.Deep
theorem cur_fresh (w : World) (A : Option Addr) (n c : Nat) : Cur (w.alloc (.cells #[.slice A n c, .int .i64 0, .int .u64 0] 87)) w.heap.size A n c 0 :=
  ⟨0, 0, Blk.at_ w 87 [.slice A n c, .int .i64 0, .int .u64 0] rfl, Nat.le_refl _, by omega, by omega⟩
theorem Src.over {w w' : World} {A : Option Addr} {n : Nat} (h : Src w A n) (hb : Below w.heap.size w w') : Src w' A n := by
  obtain ⟨l, h1, h2, h3, h4⟩ := h
  exact ⟨l, h1, h2, h3, h4.up hb⟩
theorem cur_stage {A : Option Addr} {n c a p : Nat} {w0 w : World} (hS : Src w0 A n) (hb : Below w0.heap.size w0 w) (hp : w0.heap.size ≤ p) (hc : Cur w p A n c a) (ha : a ≤ 16777216) :
    Calls Tryz.prog 186 #[.pointer (some ⟨p, 0, none⟩)] w fun e w' => ∃ x : Nat, e = .returned (.int .i64 (x : Int)) ∧ 3 ≤ x ∧ x ≤ 8 ∧ Cur w' p A n c (a + 1) ∧ w.grownBy w' (some p) := by
  have hl := lit_ints w 3 [4, 4, 5, 5, 6, 6, 3, 7, 8]
  have hlt := hc.lt
  go_in
  go_wp2_with fail
  refine (cur_among hS (hb.alloc hb.size _) hp (hc.up ((Below.refl _ _).alloc (Nat.le_refl _) _)) ha rfl hl (by decide) (by decide) (fun b o e => by injection e with e; injection e with e; omega)).mono ?_; rintro e w1 ⟨x, hx, rfl, hc1, hg1⟩
  go_wp2
  go_ret
  simp only [List.mem_cons, List.not_mem_nil, or_false] at hx
  refine ⟨x.toNat, ?_, by omega, by omega, hc1, grownBy_trans (World.grownBy_alloc _ _ _) hg1⟩
  rw [show ((x.toNat : Nat) : Int) = x by omega]
  rfl
theorem chs_small {n : Nat} {L : List ByteArray} (hn : n ≤ 8) (h : L.Perm (chsRaw n)) : L.length ≤ 34 ∧ ∀ s ∈ L, s.size ≤ 8 := by
  constructor
  · rw [h.length_eq, chsRaw]
    refine Nat.le_trans (List.length_filter_le _ _) ?_
    rw [List.length_map]; exact fromK_le hn 1
  · intro s hs
    have h1 := (h.mem_iff).1 hs
    rw [chsRaw, List.mem_filter] at h1
    rcases q : sizeOk n s
    · have := h1.2; rw [goodChange_size q] at this; cases this
    · have := sizeOk_t q; omega
end Go.Proofs.YtidolgonmimicaaGreat
/- The walks through the generators of changes and methods. -/
namespace Go.Proofs.YtidolgonmimicaaGreat
set_option linter.unusedVariables false
set_option linter.unusedSimpArgs false
open Go.ChangeShapes Go.WideShapes Go.ChangeAt Go.RowKit Go.Deep
theorem lit_strs2 (w : World) (t : TypeId) (l : List ByteArray) : Strs (w.alloc (.cells ⟨l.map Value.string⟩ t)) (some ⟨w.heap.size, 0, none⟩) l := by
  refine ⟨strE_len, by rw [flatMap_len strE_len], fun hn => ⟨w.heap.size, 0, rfl, by simp, fun j u hu => ?_⟩⟩
  have h := Box.new w (l.map Value.string) t
  rw [Nat.zero_add]
  refine h j u ?_
  rw [← hu]
  congr 1
  exact (flatMap_one Value.string l).symm
theorem cur_of {A B : Option Addr} {n c a p m d : Nat} {l : List ByteArray} {w0 w : World} (hS : Src w0 A n) (hb : Below w0.heap.size w0 w) (hp : w0.heap.size ≤ p) (hc : Cur w p A n c a) (ha : a ≤ 16777216) (hm : l.length = m) (hl : Strs w B l) (hm0 : 0 < m) (hm1 : m ≤ 200) (hne : ∀ b o, B = some ⟨b, o, none⟩ → b ≠ p) :
    Calls Tryz.prog 71 #[.pointer (some ⟨p, 0, none⟩), .slice B m d] w fun e w' => ∃ x ∈ l, e = .returned (.string x) ∧ Cur w' p A n c (a + 1) ∧ w.grownBy w' (some p) := by
  subst hm
  go_in
  go_wp2_with fail
  refine (cur_pick hS hb hp hc ha (by omega) (by omega)).mono ?_; rintro e w1 ⟨x, rfl, ⟨x0, x1⟩, hc1, hg1⟩
  obtain ⟨k, rfl⟩ := Int.eq_ofNat_of_zero_le x0
  have hk : k < l.length := by omega
  obtain ⟨b, o, y, rfl, hbb, hy, hcy⟩ := hl.at_str hk
  have hcz : w1.cell? ⟨b, o + k, none⟩ = some (.string y) := (hg1.cell_far ⟨b, o + k, none⟩ hbb (fun e => hne b o rfl (by injection e))).trans hcy
  have HY := Lib.hid hy
  clear hy hl hcy x1
  go_wp2
  go_ret
  exact ⟨y, List.mem_of_getElem? HY.out, rfl, hc1, hg1⟩
theorem chsRaw_pos : ∀ n : Nat, n < 9 → 3 ≤ n → 1 ≤ (chsRaw n).length := by decide +kernel
set_option maxRecDepth 100000 in
theorem cur_change {A : Option Addr} {n c a p N : Nat} {w0 w : World} (hS : Src w0 A n) (hb : Below w0.heap.size w0 w) (hp : w0.heap.size ≤ p) (hc : Cur w p A n c a) (ha : a ≤ 16777216) (hN : N ≤ 8) (hN3 : 3 ≤ N) :
    Calls Tryz.prog 181 #[.pointer (some ⟨p, 0, none⟩), .int .i64 N] w fun e w' => ∃ x, e = .returned (.string x) ∧ goodChange N x = true ∧ x.size ≤ 8 ∧ Cur w' p A n c (a + 1) ∧ w.grownBy w' (some p) := by
  have hpw := hc.lt
  go_in
  go_wp2_with fail
  refine (spec_l2All hN).mono ?_; rintro e w1 ⟨A1, c1, L, rfl, ho1, hperm, hb1⟩
  have hsm := chs_small hN hperm
  have hlen := hsm.1
  have hpos : 1 ≤ L.length := by rw [hperm.length_eq]; exact chsRaw_pos N (by omega) hN3
  have HSM := Lib.hid hsm.2
  have HPM := Lib.hid (fun x (hx : x ∈ L) => show goodChange N x = true from by
    have h1 := (hperm.mem_iff).1 hx
    rw [chsRaw, List.mem_filter] at h1
    exact h1.2)
  clear hperm hsm
  go_wp2_with fail
  refine (cur_pick hS (grown_below hb hp (grown_any hb1 _)) hp (hc.up hb1) ha (by omega) (by omega)).mono ?_; rintro e w2 ⟨x, rfl, ⟨x0, x1⟩, hc2, hg2⟩
  obtain ⟨k, rfl⟩ := Int.eq_ofNat_of_zero_le x0
  have hk : k < L.length := by omega
  obtain ⟨b, o, y, rfl, hbb, hy, hcy⟩ := (ho1.past hg2 hpw).recs.at_str hk
  have HY := Lib.hid (List.mem_of_getElem? hy)
  clear hy x1
  go_wp2
  go_ret
  exact ⟨y, rfl, HPM.out y HY.out, HSM.out y HY.out, hc2, grownBy_trans (grown_any hb1 _) hg2⟩
theorem goodM_of {nm : ByteArray} {st : Nat} {L : List ByteArray} (h1 : nameOk nm = true) (h2 : 3 ≤ st) (h3 : st ≤ 8) (h4 : 1 ≤ L.length) (h5 : L.length ≤ 40) (h6 : ∀ x ∈ L, goodChange st x = true) : goodM nm st L = true := by
  have e1 : inB (st : Int) 3 8 = true := by simp [inB]; omega
  have e2 : inB (L.length : Int) 1 40 = true := by simp [inB]; omega
  have e3 : allCh st L = true := by
    rw [allCh, List.all_eq_true]
    intro k hk
    obtain ⟨x, hx⟩ := some_of_lt (List.mem_range.1 hk)
    rw [okCh_at hx]
    exact h6 x (List.mem_of_getElem? hx)
  rw [goodM, h1, e1, e2, e3]; rfl
theorem hunt_one : ∀ n : Nat, n < 9 → 3 ≤ n → n % 2 = 0 → goodChange n ⟨#[45]⟩ = true ∧ goodChange n (⟨#[49]⟩ ++ dig1 n) = true ∧ goodChange n ⟨#[49, 50]⟩ = true := by decide +kernel
theorem hunt_two : ∀ n : Nat, n < 9 → 5 ≤ n → n % 2 = 1 → goodChange n (dig1 n) = true ∧ goodChange n ⟨#[49]⟩ = true ∧ goodChange n (⟨#[49, 50]⟩ ++ dig1 n) = true := by decide +kernel
set_option maxHeartbeats 2000000 in
set_option maxRecDepth 100000 in
theorem spec_l4Hunting {N : Nat} {s : ByteArray} {w : World} (hN : N ≤ 8) (hN4 : 4 ≤ N) (hs : goodChange N s = true) :
    Calls Tryz.prog 223 #[.int .i64 N, .string s] w fun e w' => ∃ A' c' L, e = .returned (.slice A' (2 * N) c') ∧ Owned strE 1 9 w' w.heap.size A' (2 * N) c' L ∧ (∀ x ∈ L, goodChange N x = true) ∧ Below w.heap.size w w' := by
  have HS := Lib.hid hs
  have hd1 : (dig1 (N : Int)).size = 1 := rfl
  clear hs
  rcases Nat.mod_two_eq_zero_or_one N with hpar | hpar
  · have HH := Lib.hid (hunt_one N (by omega) (by omega) hpar)
    have hI : ¬ ((N : Int) % 2 = 1) := by omega
    have hpe : ((N : Int) % 2 == 1) = false := by simpa using hI
    go_in
    go_wp2_with fail
    refine (spec_l1Num_1 (by omega) (by omega)).mono ?_; rintro e w1 ⟨rfl, hb1⟩
    go_wp2
    go_loopw [7, 8] (fun v i wr => ∃ (k : Nat) (A' : Option Addr) (c' : Nat) (O : List ByteArray), k ≤ N ∧ i = .int .i64 k ∧ v = .slice A' (2 * k) c' ∧ Hid (∀ x ∈ O, goodChange N x = true) ∧ Hid (Owned strE 1 9 wr w.heap.size A' (2 * k) c' O) ∧ Below w.heap.size w wr) (fun _ i _ => N - (intOf i).toNat)
    case atStart => exact ⟨0, none, 0, [], Nat.zero_le _, rfl, rfl, Lib.hid (fun s hs => by cases hs), Lib.hid (Owned.nil strE_len _ _ _), hb1⟩
    case round =>
      obtain ⟨k, A2, c2, O, hk, rfl, rfl, HZ, HO, hbr⟩ := hrel
      rename World => wr
      have hszr := hbr.size
      by_cases hlt : k < N
      · have HG2 := Lib.hid (show ∀ x ∈ O ++ [⟨#[45]⟩, ⟨#[49]⟩ ++ dig1 N], goodChange N x = true from fun x hx => by
          rcases List.mem_append.1 hx with hx | hx
          · exact HZ.out x hx
          · simp only [List.mem_cons, List.not_mem_nil, or_false] at hx
            rcases hx with rfl | rfl
            · exact HH.out.1
            · exact HH.out.2.1)
        have hl2 := lit_strs2 wr 9 [⟨#[45]⟩, ⟨#[49]⟩ ++ dig1 N]
        go_wp2_with (first | (at_builtin; go_must ((refine wpList_append_recs Tryz.elStr strE_one rfl (.tmp 22) (.tmp 25) rfl rfl (HO.out.alloc _) rfl hl2 rfl ?_ (by decide) ?_ ?_; (focus (first | omega | (simp only [World.size_alloc]; done) | (simp only [World.size_alloc]; omega) | (simp; done) | (simp; omega))); (simp; omega); intro A3 c3 w6 ho6 hg6 hl6; have hb6 : Below w.heap.size w w6 := (hbr.alloc hszr _).trans (grown_base hg6 (by simp; omega) (fun z hz => (HO.out.range z hz).1))))))
        go_roundw
        case rel => exact ⟨k + 1, A3, c3, O ++ [⟨#[45]⟩, ⟨#[49]⟩ ++ dig1 N], by omega, by go_num, by go_num, HG2, Lib.hid ho6, hb6⟩
        case measure => simp [intOf]; omega
      · obtain rfl : k = N := by omega
        obtain ⟨g, rfl, g0, g1, gc, gf⟩ := HO.out.at_ (by omega)
        have hOl := HO.out.len
        obtain ⟨y, hy⟩ := some_of_lt (l := O) (k := 2 * k - 1) (by omega)
        have c0 := gc (2 * k - 1) y 0 _ hy rfl
        have f0 := gf (2 * k - 1)
        simp only [Nat.mul_one, Nat.add_zero] at c0
        have pt := HO.out.put (k := 2 * k - 1) (j := 0) (x := s) (u := .string s) hy (by decide) rfl
        simp only [Nat.mul_one, Nat.add_zero] at pt
        have HPT := Lib.hid pt
        have HGS := Lib.hid (show ∀ x ∈ O.set (2 * k - 1) s, goodChange k x = true from fun x hx => by
          rcases List.mem_or_eq_of_mem_set hx with hx | hx
          · exact HZ.out x hx
          · rw [hx]; exact HS.out)
        have hJ : (2 : Int) * (k : Int) - 1 = ((2 * k - 1 : Nat) : Int) := by omega
        have hJ2 : ((2 * k : Nat) : Int) - 1 = ((2 * k - 1 : Nat) : Int) := by omega
        have hJ3 : ((2 * k - 1 : Nat) : Int) < ((2 * k : Nat) : Int) := by omega
        clear gc gf hy pt
        go_wp2
        go_ret
        exact ⟨_, _, O.set (2 * k - 1) s, rfl, HPT.out.1, HGS.out, hbr.grown HPT.out.2 hszr (fun z hz => by injection hz with hz; omega)⟩
  · have HH := Lib.hid (hunt_two N (by omega) (by omega) hpar)
    have hI : (N : Int) % 2 = 1 := by omega
    have hpe : ((N : Int) % 2 == 1) = true := by simpa using hI
    go_in
    go_wp2_with fail
    refine (spec_l1Num_1 (by omega) (by omega)).mono ?_; rintro e w1 ⟨rfl, hb1⟩
    go_wp2_with fail
    refine (spec_l1Num_1 (by omega) (by omega)).mono ?_; rintro e w2 ⟨rfl, hb2⟩
    have hB2 := below_go hb1 hb2
    go_wp2
    go_loopw [7, 8] (fun v i wr => ∃ (k : Nat) (A' : Option Addr) (c' : Nat) (O : List ByteArray), k ≤ N ∧ i = .int .i64 k ∧ v = .slice A' (2 * k) c' ∧ Hid (∀ x ∈ O, goodChange N x = true) ∧ Hid (Owned strE 1 9 wr w.heap.size A' (2 * k) c' O) ∧ Below w.heap.size w wr) (fun _ i _ => N - (intOf i).toNat)
    case atStart => exact ⟨0, none, 0, [], Nat.zero_le _, rfl, rfl, Lib.hid (fun s hs => by cases hs), Lib.hid (Owned.nil strE_len _ _ _), hB2⟩
    case round =>
      obtain ⟨k, A2, c2, O, hk, rfl, rfl, HZ, HO, hbr⟩ := hrel
      rename World => wr
      have hszr := hbr.size
      by_cases hlt : k < N
      · have HG2 := Lib.hid (show ∀ x ∈ O ++ [dig1 N, ⟨#[49]⟩], goodChange N x = true from fun x hx => by
          rcases List.mem_append.1 hx with hx | hx
          · exact HZ.out x hx
          · simp only [List.mem_cons, List.not_mem_nil, or_false] at hx
            rcases hx with rfl | rfl
            · exact HH.out.1
            · exact HH.out.2.1)
        have hl2 := lit_strs2 wr 9 [dig1 N, ⟨#[49]⟩]
        go_wp2_with (first | (at_builtin; go_must ((refine wpList_append_recs Tryz.elStr strE_one rfl (.tmp 22) (.tmp 25) rfl rfl (HO.out.alloc _) rfl hl2 rfl ?_ (by decide) ?_ ?_; (focus (first | omega | (simp only [World.size_alloc]; done) | (simp only [World.size_alloc]; omega) | (simp; done) | (simp; omega))); (simp; omega); intro A3 c3 w6 ho6 hg6 hl6; have hb6 : Below w.heap.size w w6 := (hbr.alloc hszr _).trans (grown_base hg6 (by simp; omega) (fun z hz => (HO.out.range z hz).1))))))
        go_roundw
        case rel => exact ⟨k + 1, A3, c3, O ++ [dig1 N, ⟨#[49]⟩], by omega, by go_num, by go_num, HG2, Lib.hid ho6, hb6⟩
        case measure => simp [intOf]; omega
      · obtain rfl : k = N := by omega
        obtain ⟨g, rfl, g0, g1, gc, gf⟩ := HO.out.at_ (by omega)
        have hOl := HO.out.len
        obtain ⟨y, hy⟩ := some_of_lt (l := O) (k := 2 * k - 1) (by omega)
        have c0 := gc (2 * k - 1) y 0 _ hy rfl
        have f0 := gf (2 * k - 1)
        simp only [Nat.mul_one, Nat.add_zero] at c0
        have pt := HO.out.put (k := 2 * k - 1) (j := 0) (x := s) (u := .string s) hy (by decide) rfl
        simp only [Nat.mul_one, Nat.add_zero] at pt
        have HPT := Lib.hid pt
        have HGS := Lib.hid (show ∀ x ∈ O.set (2 * k - 1) s, goodChange k x = true from fun x hx => by
          rcases List.mem_or_eq_of_mem_set hx with hx | hx
          · exact HZ.out x hx
          · rw [hx]; exact HS.out)
        have hJ : (2 : Int) * (k : Int) - 1 = ((2 * k - 1 : Nat) : Int) := by omega
        have hJ2 : ((2 * k : Nat) : Int) - 1 = ((2 * k - 1 : Nat) : Int) := by omega
        have hJ3 : ((2 * k - 1 : Nat) : Int) < ((2 * k : Nat) : Int) := by omega
        clear gc gf hy pt
        go_wp2
        go_ret
        exact ⟨_, _, O.set (2 * k - 1) s, rfl, HPT.out.1, HGS.out, hbr.grown HPT.out.2 hszr (fun z hz => by injection hz with hz; omega)⟩
end Go.Proofs.YtidolgonmimicaaGreat
