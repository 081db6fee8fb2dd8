/- Texts 5 of 7 that the claim leans on: plain laws and the walks' contracts, in order. -/
import Derived.Test.YtidolgonmimicaaGreatMParts4
import Derived.Deep.Cut
import Derived.Deep.DeepCutAuto
import Derived.Deep.RegionHeld3
/- The walks of chapter 11, the program's side: false lead heads. -/
namespace Go.Proofs.YtidolgonmimicaaGreat
set_option linter.unusedVariables false
set_option linter.unusedSimpArgs false
open Go.ChangeShapes Go.WideShapes Go.ChangeAt Go.RowKit Go.Deep
open Go.Maps (Keyed string_keyed)
theorem goodM_valid {nm : ByteArray} {st : Int} {l : List ByteArray} (h : goodM nm st l = true) : ∀ s ∈ l, isDash s = true ∨ validD s = true := fun s hs => by
  have h1 := (goodM_t h).2.2.2
  rw [allCh, List.all_eq_true] at h1
  obtain ⟨k, hk⟩ := List.getElem?_of_mem hs
  have h2 := h1 k (List.mem_range.2 (List.getElem?_eq_some_iff.1 hk).1)
  rw [okCh_at hk] at h2
  exact good_valid h2
theorem setx_own {P : Program} {α : Type} {e : α → List Value} {s : Nat} {E k t : TypeId} {w : World} {base b n c : Nat} {A : Option Addr} {l : List α} {S : List ByteArray} (h : Owned e s E w base A n c l) (g : SetX P w k t b S) : some b ≠ (Value.slice A n c).ownBlock := fun e1 => by
  obtain ⟨D, m, ⟨es, clock, hb, _⟩, _⟩ := g
  rcases h.2.2.2 with ⟨hv, _⟩ | ⟨g, cap, cur, hv, _, hh, _⟩
  · rw [hv] at e1; cases e1
  · rw [hv] at e1
    injection e1 with e1
    dsimp only at e1
    subst e1
    rw [hb] at hh
    cases hh
theorem map_own {P : Program} {α : Type} {e : α → List Value} {s : Nat} {E k : TypeId} {R : Value → Option (DataW Unit × List MemPlace)} {D : DataW Unit} {w : World} {base b n c m : Nat} {A : Option Addr} {l : List α} (h : Owned e s E w base A n c l) (g : w.ownsMap P k R b m D) : some b ≠ (Value.slice A n c).ownBlock := fun e1 => by
  obtain ⟨es, clock, hb, _⟩ := g
  rcases h.2.2.2 with ⟨hv, _⟩ | ⟨g, cap, cur, hv, _, hh, _⟩
  · rw [hv] at e1; cases e1
  · rw [hv] at e1
    injection e1 with e1
    dsimp only at e1
    subst e1
    rw [hb] at hh
    cases hh
theorem hC_step {D : DataW Unit} {left : Lit → Bool} {T : List ByteArray} {x : ByteArray} {y : DataW Unit} (h : Collected D left (T.map fun s => s.data.toList)) (hlk : left (.string x.data.toList) = true) (hat : ∀ zd, D.atKey (.string x.data.toList) zd = y) : Collected D (fun z => left z && !z.sameKey (.string x.data.toList)) ((T ++ [x]).map fun s => s.data.toList) := by
  have h1 := h.step hlk hat
  rw [List.map_append]
  exact h1
theorem strs_map {P : Program} {k t : TypeId} {w w' : World} {b : Nat} {A : Option Addr} {l S : List ByteArray} (h : Strs w A l) (g : SetX P w k t b S) (hg : w.grownBy w' (some b)) : Strs w' A l := by
  obtain ⟨D, m, ⟨es, clock, hm, _⟩, _⟩ := g
  refine ⟨h.1, h.2.1, fun hn => ?_⟩
  obtain ⟨b', o', hA, hb, hc⟩ := h.2.2 hn
  subst hA
  have hne : b' ≠ b := by
    intro e
    subst e
    obtain ⟨u, hu⟩ : ∃ u, (l.flatMap strE)[0]? = some u := ⟨_, List.getElem?_eq_getElem (by rw [flatMap_len strE_len]; omega)⟩
    have := hc 0 u hu
    simp [World.cell?, hm] at this
  exact ⟨b', o', rfl, Nat.lt_of_lt_of_le hb hg.size, fun j u hu => (hg.cell_far ⟨b', o' + j, none⟩ hb (fun e => by injection e with e; exact hne e)).trans (hc j u hu)⟩
theorem falTo_len (L : List ByteArray) (k : Nat) (h : k ≤ L.length) : (falTo L k).length ≤ L.length * L.length := by
  have : ∀ M : List ByteArray, (M.flatMap fun r => L.map fun s => timesS r (turnS s)).length = M.length * L.length := by
    intro M
    induction M with
    | nil => simp
    | cons a M ih => rw [List.flatMap_cons, List.length_append, ih, List.length_map, List.length_cons, Nat.succ_mul, Nat.add_comm]
  rw [falTo, this, List.length_take]
  exact Nat.mul_le_mul (by omega) (Nat.le_refl _)
theorem prodL_len (r : ByteArray) (L : List ByteArray) (k : Nat) : (prodL r L k).length ≤ L.length := by
  rw [prodL, List.length_map, List.length_take]; omega
theorem plainElem_bool_shape {P : Program} {e : TypeId} (he : P.underlying e = some .bool) {v : Value} {y : DataW Unit × List MemPlace} (hv : plainElem (H := Unit) P e v = some y) : ∃ c, v = .bool c := by
  unfold plainElem at hv
  rw [he] at hv
  cases v <;> simp at hv ⊢
theorem key_str_shape {P : Program} {k : TypeId} (hk : P.underlying k = some .string) {key : Value} {kl : Lit} (h : keyOf P k key = some kl) : ∃ x : ByteArray, key = .string x ∧ kl = .string x.data.toList := by
  obtain ⟨x, hx, hl, _⟩ := Maps.keyOf_str hk h
  exact ⟨⟨x.toArray⟩, by simpa [encStr] using hx, by simpa using hl⟩
set_option maxHeartbeats 1000000 in
set_option maxRecDepth 100000 in
theorem impl_leadTrue {A : Option Addr} {n c st : Nat} {nm : ByteArray} {l : List ByteArray} {w : World} (hn : l.length = n) (h : Strs w A l) (hz : n ≤ 1048576) (hs : ∀ s ∈ l, s.size ≤ 16777216) (hnm : nm.size ≤ 16777216) (h9 : st ≤ 1000) (hg : goodM nm (st : Int) l = true) :
    Calls Tryz.prog 107 #[.agg #[.string nm, .int .i64 st, .slice A n c]] w fun e w' => e = .returned (.bool (nodupB (leadL st l))) ∧ Below w.heap.size w w' := by
  have b0 : Below w.heap.size w (w.alloc (.cells ⟨[.string nm, .int .i64 st, .slice A n c]⟩ 25)) := by (repeat' (first | (with_reducible exact Below.refl _ _) | (with_reducible assumption) | (with_reducible refine below_drewN ?_ _) | (with_reducible refine Below.drew ?_) | (with_reducible refine below_alloc ?_ _) | (with_reducible refine Below.alloc ?_ ?_ _) | (with_reducible refine Below.setCell ?_ ?_ _) | (with_reducible refine below_go ?_ (by with_reducible assumption)) | (with_reducible refine below_then (by with_reducible assumption) ?_ ?_) | go_size))
  have K0 := Blk.at_ w 25 [.string nm, .int .i64 st, .slice A n c] (b := w.heap.size) rfl
  have HS := Lib.hid hs
  have HGV := Lib.hid (goodM_valid hg)
  have h38 := (goodM_st hg).1
  have hr8 : (roundsS st).size ≤ 8 := by rw [rounds_size st (by omega)]; exact h38.2
  have HR := Lib.hid (leadL_row h38.1 h38.2 l)
  have H0 := h.up b0
  have k0 := K0.cell 0; have k1 := K0.cell 1; have k2 := K0.cell 2
  simp only [List.getElem?_cons_zero, List.getElem?_cons_succ] at k0 k1 k2
  clear hg
  go_in
  go_upto_region 1 with fail
  obtain ⟨w0, hw0⟩ : ∃ u, u = (w.alloc (.cells #[.string nm, .int .i64 st, .slice A n c] 25)) := ⟨_, rfl⟩
  rw [← hw0] at b0 K0 H0 k0 k1 k2 ⊢
  clear hw0
  refine wp_region_still_tail 4 (by kernel_rfl) (by kernel_rfl) ?_
  simp only [List.take_succ_cons, List.take_zero, List.drop_succ_cons, List.drop_zero]
  repeat still_step
  still_call (turnC (impl_rounds h38.2))
  repeat still_step
  refine wpStill_nil ?_
  change wpList _ _ _ _ _ w0.drew
  go_wp2_with fail
  refine (impl_leadRows hr8 hn H0.drew hz HS.out HGV.out).mono ?_; rintro e w2 ⟨A2, c2, rfl, ho, hbd⟩
  have hb2 := below_of_drew hbd
  rw [← leadL_n hn] at ho
  go_wp2_with fail
  refine (impl_isTrue (by rw [leadL_len]; exact hn) ho (by omega) (fun s hs => by have h1 := (HR.out s hs).2; omega)).mono ?_; rintro e w3 ⟨rfl, hb3⟩
  go_wp2
  go_ret
  exact ⟨rfl, below_go (below_go b0 hb2) hb3⟩
set_option maxHeartbeats 1000000 in
theorem impl_IsLeadTrue {A : Option Addr} {n c st : Nat} {nm : ByteArray} {l : List ByteArray} {w : World} (hn : l.length = n) (h : Strs w A l) (hz : n ≤ 1048576) (hs : ∀ s ∈ l, s.size ≤ 16777216) (hnm : nm.size ≤ 16777216) (h9 : st ≤ 1000) :
    Calls Tryz.prog 28 #[.agg #[.string nm, .int .i64 st, .slice A n c]] w fun e w' => e = .returned (.tuple #[.bool (ltV nm st l), .bool (goodM nm (st : Int) l)]) ∧ Below w.heap.size w w' := by
  have b0 : Below w.heap.size w (w.alloc (.cells ⟨[.string nm, .int .i64 st, .slice A n c]⟩ 25)) := by (repeat' (first | (with_reducible exact Below.refl _ _) | (with_reducible assumption) | (with_reducible refine below_drewN ?_ _) | (with_reducible refine Below.drew ?_) | (with_reducible refine below_alloc ?_ _) | (with_reducible refine Below.alloc ?_ ?_ _) | (with_reducible refine Below.setCell ?_ ?_ _) | (with_reducible refine below_go ?_ (by with_reducible assumption)) | (with_reducible refine below_then (by with_reducible assumption) ?_ ?_) | go_size))
  have K0 := Blk.at_ w 25 [.string nm, .int .i64 st, .slice A n c] (b := w.heap.size) rfl
  have HQ : Hid (ltV nm st l = (goodM nm (st : Int) l && nodupB (leadL st l))) := Lib.hid rfl
  have hI : I64 (st : Int) := ⟨by omega, by omega⟩
  have H0 := h.up b0
  go_in
  go_wp2_with fail
  refine (impl_GoodMethod hn H0 hz hs hnm hI).mono ?_; rintro e w1 ⟨rfl, hb1⟩
  have K1 := K0.up hb1
  have H1 := H0.up hb1
  have B1 := below_go b0 hb1
  clear K0 H0 h b0 hb1
  rcases hg : goodM nm (st : Int) l
  · have e1 := Lib.hid (show ltV nm st l = false by rw [HQ.out, hg]; rfl)
    go_wp2
    go_ret2
    rw [e1.out, hg]
    exact ⟨rfl, B1⟩
  · have e1 := Lib.hid (show ltV nm st l = nodupB (leadL st l) by rw [HQ.out, hg]; rfl)
    have k0 := K1.cell 0; have k1 := K1.cell 1; have k2 := K1.cell 2
    simp only [List.getElem?_cons_zero, List.getElem?_cons_succ] at k0 k1 k2
    go_wp2_with fail
    refine (impl_leadTrue hn H1 hz hs hnm h9 hg).mono ?_; rintro e w2 ⟨rfl, hb2⟩
    go_wp2
    go_ret2
    rw [e1.out, hg]
    exact ⟨rfl, below_go B1 hb2⟩
set_option maxHeartbeats 2000000 in
set_option maxRecDepth 100000 in
theorem impl_falseSet {A : Option Addr} {n c st : Nat} {nm : ByteArray} {l : List ByteArray} {w : World} (hn : l.length = n) (h : Strs w A l) (hz : n ≤ 1048576) (hs : ∀ s ∈ l, s.size ≤ 16777216) (hnm : nm.size ≤ 16777216) (h9 : st ≤ 1000) (hg : goodM nm (st : Int) l = true) :
    Calls Tryz.prog 100 #[.agg #[.string nm, .int .i64 st, .slice A n c], .agg #[.string nm, .int .i64 st, .slice A n c]] w fun e w' => ∃ b, e = .returned (.map (some b)) ∧ SetX Tryz.prog w' 9 4 b (falL (leadL st l)) ∧ w.heap.size ≤ b ∧ Below w.heap.size w w' := by
  have b0 : Below w.heap.size w ((w.alloc (.cells ⟨[.string nm, .int .i64 st, .slice A n c]⟩ 25)).alloc (.cells ⟨[.string nm, .int .i64 st, .slice A n c]⟩ 25)) := by (repeat' (first | (with_reducible exact Below.refl _ _) | (with_reducible assumption) | (with_reducible refine below_drewN ?_ _) | (with_reducible refine Below.drew ?_) | (with_reducible refine below_alloc ?_ _) | (with_reducible refine Below.alloc ?_ ?_ _) | (with_reducible refine Below.setCell ?_ ?_ _) | (with_reducible refine below_go ?_ (by with_reducible assumption)) | (with_reducible refine below_then (by with_reducible assumption) ?_ ?_) | go_size))
  have K0 := (Blk.at_ w 25 [.string nm, .int .i64 st, .slice A n c] (b := w.heap.size) rfl).alloc (.cells ⟨[.string nm, .int .i64 st, .slice A n c]⟩ 25)
  have J0 := Blk.at_ (w.alloc (.cells ⟨[.string nm, .int .i64 st, .slice A n c]⟩ 25)) 25 [.string nm, .int .i64 st, .slice A n c] (b := w.heap.size + 1) (by simp)
  have hmm := @run_makeMap Tryz.prog
  have KS := string_keyed (P := Tryz.prog) (k := 9) Tryz.underlying9
  have HS := Lib.hid hs
  have HGV := Lib.hid (goodM_valid hg)
  have hgs := goodM_st hg
  have h38 := hgs.1
  have hr8 : (roundsS st).size ≤ 8 := by rw [rounds_size st (by omega)]; exact h38.2
  have HR := Lib.hid (leadL_row h38.1 h38.2 l)
  have H0 := h.up b0
  obtain ⟨L, hL1⟩ : ∃ u, u = leadL st l := ⟨_, rfl⟩
  have hLn : L.length = n := by rw [hL1, leadL_len]; exact hn
  rw [← hL1] at HR ⊢
  have HL1 := Lib.hid hL1
  have HLn := Lib.hid hLn
  have hn40 : n ≤ 40 := by omega
  clear hL1 hLn hgs hg
  go_in
  go_upto_region 2 with fail
  clear hmm
  obtain ⟨w0, hw0⟩ : ∃ u, u = ((w.alloc (.cells #[.string nm, .int .i64 st, .slice A n c] 25)).alloc (.cells #[.string nm, .int .i64 st, .slice A n c] 25)) := ⟨_, rfl⟩
  have z0 : w0.heap.size = w.heap.size + 2 := by rw [hw0]; simp
  rw [← hw0] at b0 K0 J0 H0 ⊢
  clear hw0
  have M0 : SetX Tryz.prog (w0.alloc (.map #[] 0)) 9 4 (w.heap.size + 2) [] := SetX.made_at _ _ _ _ z0.symm
  have a0 : Below w0.heap.size w0 (w0.alloc (.map #[] 0)) := by (repeat' (first | (with_reducible exact Below.refl _ _) | (with_reducible assumption) | (with_reducible refine below_drewN ?_ _) | (with_reducible refine Below.drew ?_) | (with_reducible refine below_alloc ?_ _) | (with_reducible refine Below.alloc ?_ ?_ _) | (with_reducible refine Below.setCell ?_ ?_ _) | (with_reducible refine below_go ?_ (by with_reducible assumption)) | (with_reducible refine below_then (by with_reducible assumption) ?_ ?_) | go_size))
  have K0 := K0.up a0
  have J0 := J0.up a0
  have H0 := H0.up a0
  have b0 := below_go b0 a0
  obtain ⟨w1, hw1⟩ : ∃ u, u = w0.alloc (.map #[] 0) := ⟨_, rfl⟩
  rw [← hw1] at K0 J0 H0 M0 b0 ⊢
  clear hw1 a0 z0
  have k0 := K0.cell 0; have k1 := K0.cell 1; have k2 := K0.cell 2
  simp only [List.getElem?_cons_zero, List.getElem?_cons_succ] at k0 k1 k2
  go_region_held3 (fun u => u.cell? ⟨w.heap.size, 0, none⟩ = some (.string nm) ∧ u.cell? ⟨w.heap.size, 1, none⟩ = some (.int .i64 (st : Int)) ∧ u.cell? ⟨w.heap.size, 2, none⟩ = some (.slice A n c)) (first | exact ⟨k0d, k1d, k2d⟩ | exact ⟨k0, k1, k2⟩) (first | (go_at_call 105; refine (impl_rounds h38.2).mono ?_; rintro e w' ⟨rfl, rfl⟩) | (go_at_call 104; refine (impl_leadRows hr8 hn H0.drew hz HS.out HGV.out).mono ?_; rintro e w2 ⟨A2, c2, rfl, ho2, hbd⟩; have hb2 := below_of_drew hbd; have K2 := K0.up hb2; have k0d := K2.cell 0; have k1d := K2.cell 1; have k2d := K2.cell 2; simp only [List.getElem?_cons_zero, List.getElem?_cons_succ] at k0d k1d k2d))
  rw [← leadL_n hn, ← HL1.out] at ho2
  have B2 := below_go b0 hb2
  have HM2 := Lib.hid (M0.up hb2)
  have R2 := Lib.hid ho2
  have HJ2 := Lib.hid (J0.up hb2)
  have HH2 := Lib.hid (H0.up hb2)
  clear K0 H0 J0 M0 ho2 hbd hb2 k0 k1 k2 k0d k1d k2d K2 h b0
  go_wp2
  go_loopw [17] (fun i wr => ∃ (k : Nat), k ≤ n ∧ i = .int .i64 k ∧ Hid (SetX Tryz.prog wr 9 4 (w.heap.size + 2) (falTo L k)) ∧ Hid (Strs wr A2 L) ∧ Hid (Blk wr (w.heap.size + 1) 25 [.string nm, .int .i64 st, .slice A n c]) ∧ Hid (Strs wr A l) ∧ Below w.heap.size w wr) (fun i _ => n - (intOf i).toNat)
  case atStart => exact ⟨0, Nat.zero_le _, rfl, Lib.hid (by rw [falTo_zero]; exact HM2.out), R2, HJ2, HH2, B2⟩
  case round =>
    obtain ⟨k, hk, rfl, HM, HR2, HJ, HH, hb⟩ := hrel
    rename World => wo
    have hszo := hb.size
    by_cases hlt : k < n
    · obtain ⟨b1, o1, x, hA2, _, hx, hcx⟩ := HR2.out.at_str (k := k) (by rw [HLn.out]; exact hlt)
      subst hA2
      have hxN := Lib.hid (HR.out x (List.mem_of_getElem? hx))
      have HTS := Lib.hid (falTo_succ hx)
      have hI : (k : Int) < (n : Int) := by omega
      have k0 := HJ.out.cell 0; have k1 := HJ.out.cell 1; have k2 := HJ.out.cell 2
      simp only [List.getElem?_cons_zero, List.getElem?_cons_succ] at k0 k1 k2
      have J0 := HJ.out
      clear hx
      go_upto_region 5 with fail
      go_region_held3 (fun u => u.cell? ⟨w.heap.size + 1, 0, none⟩ = some (.string nm) ∧ u.cell? ⟨w.heap.size + 1, 1, none⟩ = some (.int .i64 (st : Int)) ∧ u.cell? ⟨w.heap.size + 1, 2, none⟩ = some (.slice A n c)) (first | exact ⟨k0d, k1d, k2d⟩ | exact ⟨k0, k1, k2⟩) (first | (go_at_call 105; refine (impl_rounds h38.2).mono ?_; rintro e w' ⟨rfl, rfl⟩) | (go_at_call 104; refine (impl_leadRows hr8 hn HH.out.drew hz HS.out HGV.out).mono ?_; rintro e w3 ⟨A3, c3, rfl, ho3, hbd⟩; have hb3 := below_of_drew hbd; have K2 := J0.up hb3; have k0d := K2.cell 0; have k1d := K2.cell 1; have k2d := K2.cell 2; simp only [List.getElem?_cons_zero, List.getElem?_cons_succ] at k0d k1d k2d))
      rw [← leadL_n hn, ← HL1.out] at ho3
      have B3 := below_go hb hb3
      have HM3 := Lib.hid (HM.out.up hb3)
      have R3 := Lib.hid ho3
      have RO3 := Lib.hid (HR2.out.up hb3)
      have HJ3 := Lib.hid (HJ.out.up hb3)
      have HH3 := Lib.hid (HH.out.up hb3)
      clear ho3 hbd hb3 k0 k1 k2 k0d k1d k2d K2 J0
      go_wp2
      go_loopw [27] (fun i wr => ∃ (j : Nat), j ≤ n ∧ i = .int .i64 j ∧ Hid (SetX Tryz.prog wr 9 4 (w.heap.size + 2) (falTo L k ++ prodL x L j)) ∧ Hid (w3.grownBy wr (some (w.heap.size + 2)))) (fun i _ => n - (intOf i).toNat)
      case atStart => exact ⟨0, Nat.zero_le _, rfl, Lib.hid (by rw [prodL_zero, List.append_nil]; exact HM3.out), Lib.hid (grown_any (Below.refl _ _) _)⟩
      case round =>
        obtain ⟨j, hj, rfl, HMQ, HGQ⟩ := hrel
        rename World => wq
        have HRQ := Lib.hid (strs_map R3.out HM3.out HGQ.out)
        have hszq := HGQ.out.size
        by_cases hjt : j < n
        · obtain ⟨b2, o2, y, hA3, _, hy, hcy⟩ := HRQ.out.at_str (k := j) (by rw [HLn.out]; exact hjt)
          subst hA3
          have hyN := HR.out y (List.mem_of_getElem? hy)
          have HPS := Lib.hid (prodL_succ (r := x) hy)
          have HLB := Lib.hid (show (falTo L k ++ prodL x L j).length ≤ 16777216 by
            have h1 := falTo_len L k (by rw [HLn.out]; exact hk)
            have h2 := prodL_len x L j
            have h3 := HLn.out
            have h4 : L.length * L.length ≤ 40 * 40 := Nat.mul_le_mul (by omega) (by omega)
            rw [List.length_append]; omega)
          have hty := turn_rowN hyN
          have hft := rowN_fits hxN.out hty
          have hxs : x.size ≤ 16777216 := by have := hxN.out.2; omega
          have hts : (turnS y).size ≤ 16777216 := by have := hty.2; omega
          have hzs : (timesS x (turnS y)).size ≤ 16777216 := by have := (hxN.out.times hty).2; omega
          have HYG := Lib.hid hyN.1
          clear hy hyN hty
          go_wp2_with fail
          refine (impl_turned HYG.out).mono ?_; rintro e w5 ⟨rfl, hb5, _⟩
          go_wp2_with fail
          refine (impl_times hxs hts hft).mono ?_; rintro e w6 ⟨rfl, hb6⟩
          have HM6 := Lib.hid ((HMQ.out.up hb5).up hb6)
          have HG6 := Lib.hid (grownBy_trans (grownBy_trans HGQ.out (grown_any hb5 _)) (grown_any hb6 _))
          obtain ⟨z, hz⟩ : ∃ u, u = timesS x (turnS y) := ⟨_, rfl⟩
          rw [← hz] at HPS hzs ⊢
          clear hz hb5 hb6
          go_wp2_with (first | (at_mapUpdate; go_must ((refine wpList_setx_add rfl (.tmp 31) (.tmp 35) (.const (.bool true)) 110 rfl KS Tryz.underlying110 Tryz.underlying9 Tryz.underlying4 rfl HM6.out HLB.out rfl rfl hzs ?_; intro w8 hm8 hg8))))
          go_roundw
          case rel => exact ⟨j + 1, by omega, by go_num, Lib.hid (by rw [HPS.out, ← List.append_assoc]; exact hm8), Lib.hid (grownBy_trans HG6.out hg8)⟩
          case measure => simp [intOf]; omega
        · obtain rfl : j = n := by omega
          have hJ : ¬ (j : Int) < (j : Int) := by omega
          go_wp2
          go_roundw
          case rel => exact ⟨k + 1, by omega, by go_num, Lib.hid (by have h1 := HMQ.out; rw [HTS.out, HLn.out]; exact h1), Lib.hid (strs_map RO3.out HM3.out HGQ.out), Lib.hid (HJ3.out.grown HGQ.out (fun e => by injection e with e; omega)), Lib.hid (strs_map HH3.out HM3.out HGQ.out), B3.grown HGQ.out B3.size (fun z hz => by injection hz with hz; omega)⟩
          case measure => simp [intOf]; omega
    · obtain rfl : k = n := by omega
      have hI : ¬ (k : Int) < (k : Int) := by omega
      have HALL := Lib.hid (show falTo L k = falL L by rw [← HLn.out, falTo_all])
      go_wp2
      go_ret
      exact ⟨_, rfl, by rw [← HALL.out]; exact HM.out, by omega, hb⟩
set_option maxHeartbeats 1000000 in
set_option maxRecDepth 100000 in
theorem impl_IsFalseHead {A : Option Addr} {n c st : Nat} {nm : ByteArray} {l : List ByteArray} {f : ByteArray} {w : World} (hn : l.length = n) (h : Strs w A l) (hz : n ≤ 1048576) (hs : ∀ s ∈ l, s.size ≤ 16777216) (hnm : nm.size ≤ 16777216) (h9 : st ≤ 1000) (hf : f.size ≤ 16777216) :
    Calls Tryz.prog 22 #[.agg #[.string nm, .int .i64 st, .slice A n c], .string f] w fun e w' => e = .returned (.tuple #[.bool (fhV nm st l f), .bool (fhOk nm st l f)]) ∧ Below w.heap.size w w' := by
  have b0 : Below w.heap.size w (w.alloc (.cells ⟨[.string nm, .int .i64 st, .slice A n c]⟩ 25)) := by (repeat' (first | (with_reducible exact Below.refl _ _) | (with_reducible assumption) | (with_reducible refine below_drewN ?_ _) | (with_reducible refine Below.drew ?_) | (with_reducible refine below_alloc ?_ _) | (with_reducible refine Below.alloc ?_ ?_ _) | (with_reducible refine Below.setCell ?_ ?_ _) | (with_reducible refine below_go ?_ (by with_reducible assumption)) | (with_reducible refine below_then (by with_reducible assumption) ?_ ?_) | go_size))
  have K0 := Blk.at_ w 25 [.string nm, .int .i64 st, .slice A n c] (b := w.heap.size) rfl
  have KS := string_keyed (P := Tryz.prog) (k := 9) Tryz.underlying9
  have H0 := h.up b0
  have hI : I64 (st : Int) := ⟨by omega, by omega⟩
  have HQ : Hid (fhV nm st l f = (fhOk nm st l f && inL (falL (leadL st l)) f)) := Lib.hid rfl
  have HO : Hid (fhOk nm st l f = (goodM nm (st : Int) l && (goodRow f && (f.size == st)))) := Lib.hid rfl
  go_in
  go_wp2_with fail
  refine (impl_GoodMethod hn H0 hz hs hnm hI).mono ?_; rintro e w1 ⟨rfl, hb1⟩
  have K1 := K0.up hb1
  have H1 := H0.up hb1
  have B1 := below_go b0 hb1
  clear K0 H0 h b0 hb1
  rcases hg : goodM nm (st : Int) l
  · have e0 := Lib.hid (show fhOk nm st l f = false by rw [HO.out, hg]; rfl)
    have e1 := Lib.hid (show fhV nm st l f = false by rw [HQ.out, e0.out]; rfl)
    go_wp2
    go_ret2
    rw [e1.out, e0.out]
    exact ⟨rfl, B1⟩
  · have k0 := K1.cell 0; have k1 := K1.cell 1; have k2 := K1.cell 2
    simp only [List.getElem?_cons_zero, List.getElem?_cons_succ] at k0 k1 k2
    go_wp2_with fail
    refine (impl_isRowOf (n := st) hf).mono ?_; rintro e w' ⟨rfl, rfl⟩
    rcases hr : (goodRow f && (f.size == st))
    · have e0 := Lib.hid (show fhOk nm st l f = false by rw [HO.out, hr, Bool.and_false])
      have e1 := Lib.hid (show fhV nm st l f = false by rw [HQ.out, e0.out]; rfl)
      go_wp2
      go_ret2
      rw [e1.out, e0.out]
      exact ⟨rfl, B1⟩
    · have e0 := Lib.hid (show fhOk nm st l f = true by rw [HO.out, hr, hg]; rfl)
      have e1 := Lib.hid (show fhV nm st l f = inL (falL (leadL st l)) f by rw [HQ.out, e0.out]; rfl)
      go_wp2_with fail
      refine (impl_falseSet hn H1 hz hs hnm h9 hg).mono ?_; rintro e w2 ⟨b, rfl, hm, _, hb2⟩
      have lk := hm.look (t := 110) KS Tryz.underlying110 Tryz.underlying9 Tryz.underlying4 (by kernel_rfl) hf
      go_wp2
      go_ret2
      rw [e1.out, e0.out]
      exact ⟨rfl, below_go B1 hb2⟩
set_option maxHeartbeats 2000000 in
set_option maxRecDepth 100000 in
theorem impl_falseHeads {A : Option Addr} {n c st : Nat} {nm : ByteArray} {l : List ByteArray} {w : World} (hn : l.length = n) (h : Strs w A l) (hz : n ≤ 1048576) (hs : ∀ s ∈ l, s.size ≤ 16777216) (hnm : nm.size ≤ 16777216) (h9 : st ≤ 1000) (hg : goodM nm (st : Int) l = true) :
    Calls Tryz.prog 106 #[.agg #[.string nm, .int .i64 st, .slice A n c]] w fun e w' => ∃ A' m c', e = .returned (.slice A' m c') ∧ Owned strE 1 9 w' w.heap.size A' m c' (falS (leadL st l)) ∧ m ≤ 1600 ∧ Below w.heap.size w w' := by
  have b0 : Below w.heap.size w (w.alloc (.cells ⟨[.string nm, .int .i64 st, .slice A n c]⟩ 25)) := by (repeat' (first | (with_reducible exact Below.refl _ _) | (with_reducible assumption) | (with_reducible refine below_drewN ?_ _) | (with_reducible refine Below.drew ?_) | (with_reducible refine below_alloc ?_ _) | (with_reducible refine Below.alloc ?_ ?_ _) | (with_reducible refine Below.setCell ?_ ?_ _) | (with_reducible refine below_go ?_ (by with_reducible assumption)) | (with_reducible refine below_then (by with_reducible assumption) ?_ ?_) | go_size))
  have K0 := Blk.at_ w 25 [.string nm, .int .i64 st, .slice A n c] (b := w.heap.size) rfl
  have KS := string_keyed (P := Tryz.prog) (k := 9) Tryz.underlying9
  have HS := Lib.hid hs
  have hgs := goodM_st hg
  have h38 := hgs.1
  have HFR := Lib.hid (falL_row (leadL_row h38.1 h38.2 l))
  have HFL := Lib.hid (show (falL (leadL st l)).length ≤ 1600 by
    rw [fal_len, leadL_len]
    exact Nat.le_trans (Nat.mul_le_mul (show l.length ≤ 40 by omega) (show l.length ≤ 40 by omega)) (by decide))
  have HFO := Lib.hid (fun (K : List ByteArray) => @falS_of (leadL st l) K)
  have H0 := h.up b0
  have k0 := K0.cell 0; have k1 := K0.cell 1; have k2 := K0.cell 2
  simp only [List.getElem?_cons_zero, List.getElem?_cons_succ] at k0 k1 k2
  have k0d := (K0.alloc (.cells #[] 9)).cell 0; have k1d := (K0.alloc (.cells #[] 9)).cell 1; have k2d := (K0.alloc (.cells #[] 9)).cell 2
  simp only [List.getElem?_cons_zero, List.getElem?_cons_succ] at k0d k1d k2d
  have HE : Hid (Owned strE 1 9 ((w.alloc (.cells #[.string nm, .int .i64 st, .slice A n c] 25)).alloc (.cells #[] 9)) w.heap.size (some ⟨w.heap.size + 1, 0, none⟩) 0 0 []) := Lib.hid (by
    have h1 := Owned.empty (base := w.heap.size) (E := 9) strE_len (w.alloc (.cells #[.string nm, .int .i64 st, .slice A n c] 25)) (by simp)
    simpa using h1)
  have b1 : Below w.heap.size w ((w.alloc (.cells #[.string nm, .int .i64 st, .slice A n c] 25)).alloc (.cells #[] 9)) := by (repeat' (first | (with_reducible exact Below.refl _ _) | (with_reducible assumption) | (with_reducible refine below_drewN ?_ _) | (with_reducible refine Below.drew ?_) | (with_reducible refine below_alloc ?_ _) | (with_reducible refine Below.alloc ?_ ?_ _) | (with_reducible refine Below.setCell ?_ ?_ _) | (with_reducible refine below_go ?_ (by with_reducible assumption)) | (with_reducible refine below_then (by with_reducible assumption) ?_ ?_) | go_size))
  have H1 := h.up b1
  clear hgs
  go_in
  go_wp2_with fail
  refine (impl_falseSet hn H1 hz HS.out hnm h9 hg).mono ?_; rintro e w2 ⟨b, rfl, hm, hbb, hb2⟩
  have HO2 := Lib.hid (HE.out.up hb2)
  have B2 := below_go b1 hb2
  obtain ⟨S, hS⟩ : ∃ u, u = falL (leadL st l) := ⟨_, rfl⟩
  rw [← hS] at hm HFR HFL
  have HSE := Lib.hid hS
  obtain ⟨D, mm, hown, hmS, hsz, hD⟩ := hm
  have HD := Lib.hid hD
  have HOWN := Lib.hid hown
  have hmS2 : Maps.size D ≤ 1600 := by have := HFL.out; omega
  have hszB2 := B2.size
  clear HE H0 H1 h b0 b1 K0 k0 k1 k2 k0d k1d k2d hg hS hb2 hD hsz hmS
  go_wp2_with (first | (at_range; refine wpList_range_own _ rfl _ 110 rfl 9 4 KS Tryz.underlying110 _ b mm D rfl HOWN.out ?_; intro w3 hrg0 hg0 hs0))
  go_frame
  have HOO := Lib.hid (HO2.out.kept hg0 (fun k _ e => by cases e))
  have HRG := Lib.hid hrg0
  have HB3 := Lib.hid (B2.grown hg0 B2.size (fun j hj => by cases hj))
  clear hrg0 hg0 HO2 B2 hs0
  go_loopw [3] (fun v wr => ∃ (left : Lit → Bool) (cnt m : Nat) (A' : Option Addr) (c' : Nat) (T : List ByteArray), wr.ranges Tryz.prog 9 (plainElem Tryz.prog 4) b w2.heap.size mm D left cnt ∧ m + cnt ≤ Maps.size D ∧ v = .slice A' m c' ∧ A' ≠ none ∧ Hid (Owned strE 1 9 wr w.heap.size A' m c' T) ∧ Hid (Collected D left (T.map fun s => s.data.toList)) ∧ Hid (Below w.heap.size w wr))
    (fun _ wr => wr.rangeLeft b w2.heap.size)
  case atStart => exact ⟨_, _, 0, _, _, [], HRG.out, by omega, rfl, by simp, HOO, Lib.hid (Collected.start D), HB3⟩
  case round =>
    obtain ⟨left, cnt, m, A4, c4, T, hrg, hcs, rfl, hnn, HO, HC, HB⟩ := hrel
    rename World => wr
    have hszr := HB.out.size
    have HL := Lib.hid HO.out.len
    go_wp2_with (first
      | (at_next; refine wpList_next_ranges _ rfl _ rfl 9 KS (plainElem Tryz.prog 4) Value.string (fun v : Value => v) (fun key kl hk => by obtain ⟨x, hx, _⟩ := key_str_shape Tryz.underlying9 hk; exact ⟨x, hx⟩) (fun v y hv => ⟨v, rfl⟩) b w2.heap.size mm _ _ _ rfl hrg ?_ ?_))
    · intro hc0 hl0
      have HK := Lib.hid (HD.out.keys HOWN.out KS Tryz.underlying9 HC.out hl0 (fun s hs => by have h1 := (HFR.out s hs).2; omega))
      obtain ⟨g, rfl⟩ : ∃ g, A4 = some ⟨g, 0, none⟩ := by
        rcases HO.out.2.2.2 with ⟨hv, _⟩ | ⟨g, cap, cur, hv, _⟩
        · injection hv with hv _ _
          exact absurd hv hnn
        · injection hv with hv _ _
          exact ⟨g, hv⟩
      have hm16 : m ≤ 1600 := by omega
      go_wp2_with (first | (go_at_call 155; refine (sort_strs HO.out (by omega)).mono ?_; rintro e w7 ⟨rfl, T7, ho7, hp7, hs7, hg7⟩))
      have HFIN := Lib.hid (show T7 = falS (leadL st l) from HFO.out T7 ((hp7.nodup_iff).2 HK.out.1) (fun x => by rw [hp7.mem_iff, HK.out.2, HSE.out]) hs7)
      go_ret
      refine ⟨_, _, _, rfl, by rw [← HFIN.out]; exact ho7, hm16, HB.out.grown hg7 HB.out.size (fun j hj => by injection hj with hj; subst hj; exact (HO.out.blk rfl).1)⟩
    · intro x c kl yd yp w4 cnt2 hkey hlk hv hat hrg2 hlt hg2 hs2 hen
      obtain ⟨x', ex, rfl⟩ := key_str_shape Tryz.underlying9 hkey
      injection ex with ex
      subst ex
      have HO4 := Lib.hid (HO.out.kept hg2 (fun k hk e => by have h1 := row_ne_iter HO.out.2.2 hrg; rw [hk] at h1; exact h1 e))
      have HB4 := Lib.hid (HB.out.grown hg2 HB.out.size (fun j hj => by injection hj with hj; omega))
      have HCS := Lib.hid (hC_step HC.out hlk hat)
      have HR4 := Lib.hid hrg2
      have HLT := Lib.hid hlt
      have HLE := Lib.hid hrg.left_eq
      have hcs2 : m + 1 + cnt2 ≤ Maps.size D := by omega
      clear hs2 hat hlk hrg2 hrg
      have hsz4 := HB4.out.size
      go_wp2_with (first | (at_builtin; go_must ((refine wpList_append_recs Tryz.elStr strE_one rfl (.tmp 14) (.tmp 16) rfl rfl (HO4.out.alloc _) rfl (own_lit1_at' strE_len _ 9 x rfl (Nat.le_refl _)).recs rfl ?_ (by decide) ?_ ?_; (focus (first | omega | (simp only [World.size_alloc]; done) | (simp only [World.size_alloc]; omega) | (simp; done) | (simp; omega))); (focus (first | omega | (simp only [World.size_alloc]; done) | (simp only [World.size_alloc]; omega) | (simp; done) | (simp; omega))); intro A6 c6 w6 ho6 hg6 hl6))))
      have hb6 : Below w.heap.size w w6 := (HB4.out.alloc hsz4 _).trans (grown_base hg6 (by simp; omega) (fun z hz => (HO4.out.range z hz).1))
      have hrg6 := (HR4.out.alloc (.cells ⟨[Value.string x]⟩ 9)).kept hg6 (map_own (HO4.out.alloc (.cells ⟨[Value.string x]⟩ 9)) (HR4.out.alloc (.cells ⟨[Value.string x]⟩ 9)).owns) (row_ne_iter (HO4.out.alloc (.cells ⟨[Value.string x]⟩ 9)).2.2 (HR4.out.alloc (.cells ⟨[Value.string x]⟩ 9)))
      go_roundw
      case rel => exact ⟨_, cnt2, m + 1, A6, c6, T ++ [x], hrg6, hcs2, rfl, (fun e => by obtain ⟨g, e2, _⟩ := ho6.at_ (by omega); rw [e2] at e; cases e), Lib.hid ho6, HCS, Lib.hid hb6⟩
      case measure => rw [hrg6.left_eq, HLE.out]; exact HLT.out
set_option maxHeartbeats 1000000 in
theorem impl_FalseHeads {A : Option Addr} {n c st : Nat} {nm : ByteArray} {l : List ByteArray} {w : World} (hn : l.length = n) (h : Strs w A l) (hz : n ≤ 1048576) (hs : ∀ s ∈ l, s.size ≤ 16777216) (hnm : nm.size ≤ 16777216) (h9 : st ≤ 1000) :
    Calls Tryz.prog 26 #[.agg #[.string nm, .int .i64 st, .slice A n c]] w fun e w' => ∃ A' m c', e = .returned (.tuple #[.slice A' m c', .bool (fhsOk nm st l)]) ∧ Owned strE 1 9 w' w.heap.size A' m c' (fhsV nm st l) ∧ m ≤ 800 ∧ Below w.heap.size w w' := by
  have b0 : Below w.heap.size w (w.alloc (.cells ⟨[.string nm, .int .i64 st, .slice A n c]⟩ 25)) := by (repeat' (first | (with_reducible exact Below.refl _ _) | (with_reducible assumption) | (with_reducible refine below_drewN ?_ _) | (with_reducible refine Below.drew ?_) | (with_reducible refine below_alloc ?_ _) | (with_reducible refine Below.alloc ?_ ?_ _) | (with_reducible refine Below.setCell ?_ ?_ _) | (with_reducible refine below_go ?_ (by with_reducible assumption)) | (with_reducible refine below_then (by with_reducible assumption) ?_ ?_) | go_size))
  have K0 := Blk.at_ w 25 [.string nm, .int .i64 st, .slice A n c] (b := w.heap.size) rfl
  have H0 := h.up b0
  have hI : I64 (st : Int) := ⟨by omega, by omega⟩
  have HQ : Hid (fhsOk nm st l = (goodM nm (st : Int) l && decide ((falS (leadL st l)).length ≤ 800))) := Lib.hid rfl
  have HF : Hid (fhsOk nm st l = false → fhsV nm st l = []) := Lib.hid (fun e => by rw [fhsV, if_neg (by rw [e]; simp)])
  have HT : Hid (fhsOk nm st l = true → fhsV nm st l = falS (leadL st l)) := Lib.hid (fun e => by rw [fhsV, if_pos e])
  go_in
  go_wp2_with fail
  refine (impl_GoodMethod hn H0 hz hs hnm hI).mono ?_; rintro e w1 ⟨rfl, hb1⟩
  have K1 := K0.up hb1
  have H1 := H0.up hb1
  have B1 := below_go b0 hb1
  clear K0 H0 h b0 hb1
  rcases hg : goodM nm (st : Int) l
  · have e1 := Lib.hid (show fhsOk nm st l = false by rw [HQ.out, hg]; rfl)
    go_wp2
    go_ret2
    rw [HF.out e1.out, e1.out]
    exact ⟨none, 0, 0, rfl, Owned.nil strE_len _ _ _, by omega, B1⟩
  · have k0 := K1.cell 0; have k1 := K1.cell 1; have k2 := K1.cell 2
    simp only [List.getElem?_cons_zero, List.getElem?_cons_succ] at k0 k1 k2
    go_wp2_with fail
    refine (impl_falseHeads hn H1 hz hs hnm h9 hg).mono ?_; rintro e w2 ⟨A2, m, c2, rfl, ho, hm, hb2⟩
    have e0 := Lib.hid ho.len
    by_cases hm8 : m ≤ 800
    · have e1 := Lib.hid (show fhsOk nm st l = true by rw [HQ.out, hg, e0.out, decide_eq_true hm8]; rfl)
      have hI8 : ¬ (800 : Int) < (m : Int) := by omega
      go_wp2
      go_ret2
      rw [HT.out e1.out, e1.out]
      exact ⟨_, _, _, rfl, ho.base_le B1.size, hm8, below_go B1 hb2⟩
    · have e1 := Lib.hid (show fhsOk nm st l = false by rw [HQ.out, hg, e0.out, decide_eq_false hm8]; rfl)
      have hI8 : (800 : Int) < (m : Int) := by omega
      go_wp2
      go_ret2
      rw [HF.out e1.out, e1.out]
      exact ⟨none, 0, 0, rfl, Owned.nil strE_len _ _ _, by omega, below_go B1 hb2⟩
set_option maxHeartbeats 1000000 in
set_option maxRecDepth 100000 in
theorem impl_meeting {A B : Option Addr} {n c m d : Nat} {L M : List ByteArray} {w : World} (hn : L.length = n) (h : Strs w A L) (hm : M.length = m) (g : Strs w B M) (hz : n ≤ 1048576) (hy : m ≤ 1048576) (hL : ∀ s ∈ L, s.size ≤ 16777216) (hM : ∀ s ∈ M, s.size ≤ 16777216) :
    Calls Tryz.prog 103 #[.slice A n c, .slice B m d] w fun e w' => ∃ A' q c', e = .returned (.slice A' q c') ∧ Owned strE 1 9 w' w.heap.size A' q c' (meetL L M) ∧ q ≤ n ∧ Below w.heap.size w w' := by
  have hmm := @run_makeMap Tryz.prog
  have KS := string_keyed (P := Tryz.prog) (k := 9) Tryz.underlying9
  have HL := Lib.hid hL
  have HM := Lib.hid hM
  have HA := Lib.hid h
  have HB := Lib.hid g
  have HLn := Lib.hid hn
  have HMn := Lib.hid hm
  have M0 := Lib.hid (SetX.made Tryz.prog w 9 4)
  clear hL hM h g hn hm
  go_in
  go_wp2
  clear hmm
  go_loopw [14] (fun i wr => ∃ (k : Nat), k ≤ m ∧ i = .int .i64 k ∧ Hid (SetX Tryz.prog wr 9 4 w.heap.size (M.take k)) ∧ Hid (Below w.heap.size w wr)) (fun i _ => m - (intOf i).toNat)
  case atStart => exact ⟨0, Nat.zero_le _, rfl, Lib.hid (by simpa using M0.out), Lib.hid (by (repeat' (first | (with_reducible exact Below.refl _ _) | (with_reducible assumption) | (with_reducible refine below_drewN ?_ _) | (with_reducible refine Below.drew ?_) | (with_reducible refine below_alloc ?_ _) | (with_reducible refine Below.alloc ?_ ?_ _) | (with_reducible refine Below.setCell ?_ ?_ _) | (with_reducible refine below_go ?_ (by with_reducible assumption)) | (with_reducible refine below_then (by with_reducible assumption) ?_ ?_) | go_size)))⟩
  case round =>
    obtain ⟨k, hk, rfl, HS, Hb⟩ := hrel
    rename World => wr
    by_cases hlt : k < m
    · obtain ⟨b1, o1, x, hA, _, hx, hcx⟩ := (HB.out.below Hb.out (Nat.le_refl _)).at_str (k := k) (by rw [HMn.out]; exact hlt)
      subst hA
      have hxz := HM.out x (List.mem_of_getElem? hx)
      have HTK := Lib.hid (take_succ_some hx)
      have HLE := Lib.hid (show (M.take k).length ≤ 16777216 by rw [List.length_take]; omega)
      clear hx
      go_wp2_with (first | (at_mapUpdate; go_must ((refine wpList_setx_add rfl (.tmp 18) (.tmp 19) (.const (.bool true)) 110 rfl KS Tryz.underlying110 Tryz.underlying9 Tryz.underlying4 rfl HS.out HLE.out rfl rfl hxz ?_; intro w8 hm8 hg8))))
      go_roundw
      case rel => exact ⟨k + 1, by omega, by go_num, Lib.hid (by rw [HTK.out]; exact hm8), Lib.hid (Hb.out.grown hg8 Hb.out.size (fun j hj => by injection hj with hj; omega))⟩
      case measure => simp [intOf]; omega
    · obtain rfl : k = m := by omega
      have hI : ¬ (k : Int) < (k : Int) := by omega
      have HS2 : Hid (SetX Tryz.prog (wr.alloc (.cells #[] 9)) 9 4 w.heap.size M) := Lib.hid (by
        have h1 := HS.out
        rw [List.take_of_length_le (by rw [HMn.out]; omega)] at h1
        exact h1.alloc _)
      have HE := Lib.hid (Owned.empty (base := w.heap.size) (E := 9) strE_len wr Hb.out.size)
      have HB2 : Hid (Below w.heap.size w (wr.alloc (.cells #[] 9))) := Lib.hid (by have h1 := Hb.out; (repeat' (first | (with_reducible exact Below.refl _ _) | (with_reducible assumption) | (with_reducible refine below_drewN ?_ _) | (with_reducible refine Below.drew ?_) | (with_reducible refine below_alloc ?_ _) | (with_reducible refine Below.alloc ?_ ?_ _) | (with_reducible refine Below.setCell ?_ ?_ _) | (with_reducible refine below_go ?_ (by with_reducible assumption)) | (with_reducible refine below_then (by with_reducible assumption) ?_ ?_) | go_size)))
      clear HS Hb HB HM HMn
      go_wp2
      go_loopw [8, 24] (fun v i wq => ∃ (j q : Nat) (A' : Option Addr) (c' : Nat), j ≤ n ∧ i = .int .i64 j ∧ v = .slice A' q c' ∧ q ≤ j ∧ Hid (Owned strE 1 9 wq w.heap.size A' q c' (meetL (L.take j) M)) ∧ Hid (SetX Tryz.prog wq 9 4 w.heap.size M) ∧ Hid (Below w.heap.size w wq)) (fun _ i _ => n - (intOf i).toNat)
      case atStart => exact ⟨0, 0, _, _, Nat.zero_le _, rfl, rfl, Nat.le_refl _, HE, HS2, HB2⟩
      case round =>
        obtain ⟨j, q, A4, c4, hj, rfl, rfl, hqj, HO, HS, Hb⟩ := hrel
        rename World => wq
        have hszq := Hb.out.size
        by_cases hjt : j < n
        · obtain ⟨b1, o1, x, hA, _, hx, hcx⟩ := (HA.out.below Hb.out (Nat.le_refl _)).at_str (k := j) (by rw [HLn.out]; exact hjt)
          subst hA
          have hxz := HL.out x (List.mem_of_getElem? hx)
          have HMS := Lib.hid (meetL_succ (M := M) hx)
          have lk := HS.out.look (t := 110) KS Tryz.underlying110 Tryz.underlying9 Tryz.underlying4 (by kernel_rfl) hxz
          clear hx
          rcases hin : inL M x
          · have e1 := Lib.hid (show meetL (L.take (j + 1)) M = meetL (L.take j) M by rw [HMS.out, hin]; simp)
            rw [hin] at lk
            go_wp2
            go_roundw
            case rel => exact ⟨j + 1, q, A4, c4, by omega, by go_num, rfl, by omega, Lib.hid (by rw [e1.out]; exact HO.out), HS, Hb⟩
            case measure => simp [intOf]; omega
          · have e1 := Lib.hid (show meetL (L.take (j + 1)) M = meetL (L.take j) M ++ [x] by rw [HMS.out, hin]; simp)
            rw [hin] at lk
            have HO5 := Lib.hid (HO.out.alloc (.cells ⟨[Value.string x]⟩ 9))
            have HS5 := Lib.hid (HS.out.alloc (.cells ⟨[Value.string x]⟩ 9))
            go_wp2_with (first | (at_builtin; go_must ((refine wpList_append_recs Tryz.elStr strE_one rfl (.tmp 31) (.tmp 33) rfl rfl HO5.out rfl (own_lit1_at' strE_len _ 9 x rfl (Nat.le_refl _)).recs rfl ?_ (by decide) ?_ ?_; (focus (first | omega | (simp only [World.size_alloc]; done) | (simp only [World.size_alloc]; omega) | (simp; done) | (simp; omega))); (focus (first | omega | (simp only [World.size_alloc]; done) | (simp only [World.size_alloc]; omega) | (simp; done) | (simp; omega))); intro A6 c6 w6 ho6 hg6 hl6))))
            have hb6 : Below w.heap.size w w6 := (Hb.out.alloc hszq _).trans (grown_base hg6 (by simp; omega) (fun z hz => (HO.out.range z hz).1))
            have hs6 := HS5.out.kept hg6 (setx_own HO5.out HS5.out)
            go_roundw
            case rel => exact ⟨j + 1, q + 1, A6, c6, by omega, by go_num, rfl, by omega, Lib.hid (by rw [e1.out]; exact ho6), Lib.hid hs6, Lib.hid hb6⟩
            case measure => simp [intOf]; omega
        · obtain rfl : j = n := by omega
          have hJ : ¬ (j : Int) < (j : Int) := by omega
          have e1 := Lib.hid (show meetL (L.take j) M = meetL L M by rw [List.take_of_length_le (by rw [HLn.out]; omega)])
          go_wp2
          go_ret
          refine ⟨_, _, _, rfl, by rw [← e1.out]; exact HO.out, hqj, Hb.out⟩
set_option maxHeartbeats 2000000 in
set_option maxRecDepth 100000 in
theorem impl_SharedRows {A : Option Addr} {n c st : Nat} {nm : ByteArray} {l : List ByteArray} {f : ByteArray} {w : World} (hn : l.length = n) (h : Strs w A l) (hz : n ≤ 1048576) (hs : ∀ s ∈ l, s.size ≤ 16777216) (hnm : nm.size ≤ 16777216) (h9 : st ≤ 1000) (hf : f.size ≤ 16777216) :
    Calls Tryz.prog 24 #[.agg #[.string nm, .int .i64 st, .slice A n c], .string f] w fun e w' => ∃ A' m c', e = .returned (.tuple #[.slice A' m c', .bool (fhOk nm st l f)]) ∧ Owned strE 1 9 w' w.heap.size A' m c' (shV nm st l f) ∧ m ≤ 40 ∧ Below w.heap.size w w' := by
  have b0 : Below w.heap.size w (w.alloc (.cells ⟨[.string nm, .int .i64 st, .slice A n c]⟩ 25)) := by (repeat' (first | (with_reducible exact Below.refl _ _) | (with_reducible assumption) | (with_reducible refine below_drewN ?_ _) | (with_reducible refine Below.drew ?_) | (with_reducible refine below_alloc ?_ _) | (with_reducible refine Below.alloc ?_ ?_ _) | (with_reducible refine Below.setCell ?_ ?_ _) | (with_reducible refine below_go ?_ (by with_reducible assumption)) | (with_reducible refine below_then (by with_reducible assumption) ?_ ?_) | go_size))
  have K0 := Blk.at_ w 25 [.string nm, .int .i64 st, .slice A n c] (b := w.heap.size) rfl
  have H0 := h.up b0
  have HS := Lib.hid hs
  have hI : I64 (st : Int) := ⟨by omega, by omega⟩
  have HO : Hid (fhOk nm st l f = (goodM nm (st : Int) l && (goodRow f && (f.size == st)))) := Lib.hid rfl
  have HF : Hid (fhOk nm st l f = false → shV nm st l f = []) := Lib.hid (fun e => by rw [shV, if_neg (by rw [e]; simp)])
  have HT : Hid (fhOk nm st l f = true → shV nm st l f = meetL (leadL st l) ((leadL st l).map (timesS f))) := Lib.hid (fun e => by rw [shV, if_pos e])
  go_in
  go_wp2_with fail
  refine (impl_GoodMethod hn H0 hz hs hnm hI).mono ?_; rintro e w1 ⟨rfl, hb1⟩
  have K1 := K0.up hb1
  have H1 := H0.up hb1
  have B1 := below_go b0 hb1
  clear K0 H0 h b0 hb1
  rcases hg : goodM nm (st : Int) l
  · have e0 := Lib.hid (show fhOk nm st l f = false by rw [HO.out, hg]; rfl)
    go_wp2
    go_ret2
    rw [HF.out e0.out, e0.out]
    exact ⟨none, 0, 0, rfl, Owned.nil strE_len _ _ _, by omega, B1⟩
  · have k0 := K1.cell 0; have k1 := K1.cell 1; have k2 := K1.cell 2
    simp only [List.getElem?_cons_zero, List.getElem?_cons_succ] at k0 k1 k2
    go_wp2_with fail
    refine (impl_isRowOf (n := st) hf).mono ?_; rintro e w' ⟨rfl, rfl⟩
    rcases hr : (goodRow f && (f.size == st))
    · have e0 := Lib.hid (show fhOk nm st l f = false by rw [HO.out, hr, Bool.and_false])
      go_wp2
      go_ret2
      rw [HF.out e0.out, e0.out]
      exact ⟨none, 0, 0, rfl, Owned.nil strE_len _ _ _, by omega, B1⟩
    · have e0 := Lib.hid (show fhOk nm st l f = true by rw [HO.out, hr, hg]; rfl)
      have ht := fhOk_t e0.out
      have h38 := ht.2.2.1
      have hfN := ht.2.1
      have HGV := Lib.hid (goodM_valid hg)
      have hn40 : n ≤ 40 := by have := goodM_st hg; omega
      have hr8 : (roundsS st).size ≤ 8 := by rw [rounds_size st (by omega)]; exact h38.2
      have hf8 : f.size ≤ 8 := by rw [hfN.2]; exact h38.2
      have HR := leadL_row h38.1 h38.2 l
      have HLZ := Lib.hid (fun s (hs : s ∈ leadL st l) => show s.size ≤ 16777216 from by have h1 := (HR s hs).2; omega)
      have HMZ := Lib.hid (fun s (hs : s ∈ (leadL st l).map (timesS f)) => show s.size ≤ 16777216 from by
        obtain ⟨x, hx, rfl⟩ := List.mem_map.1 hs
        have h1 := (hfN.times (HR x hx)).2; omega)
      have HLn := Lib.hid (show (leadL st l).length = n by rw [leadL_len]; exact hn)
      have HMn := Lib.hid (show ((leadL st l).map (timesS f)).length = n by rw [List.length_map, leadL_len]; exact hn)
      have HL1 := Lib.hid (leadL_n (st := st) hn)
      have HM1 := Lib.hid (show rowsL f l n = (leadL st l).map (timesS f) by rw [rowsL_times hfN, ← leadL_n hn])
      have carry : Hid (∀ u : World, Below w1.heap.size w1 u → u.cell? ⟨w.heap.size, 0, none⟩ = some (.string nm) ∧ u.cell? ⟨w.heap.size, 1, none⟩ = some (.int .i64 (st : Int)) ∧ u.cell? ⟨w.heap.size, 2, none⟩ = some (.slice A n c)) := Lib.hid (fun u hu => by
        have L0 := K1.up hu
        exact ⟨by simpa using L0.cell 0, by simpa using L0.cell 1, by simpa using L0.cell 2⟩)
      clear hr HR ht hfN K1 k0 k1 k2
      have k0 := (carry.out _ (Below.refl _ _)).1; have k1 := (carry.out _ (Below.refl _ _)).2.1; have k2 := (carry.out _ (Below.refl _ _)).2.2
      go_upto_region 3 with fail
      go_region_held3 (fun u => u.cell? ⟨w.heap.size, 0, none⟩ = some (.string nm) ∧ u.cell? ⟨w.heap.size, 1, none⟩ = some (.int .i64 (st : Int)) ∧ u.cell? ⟨w.heap.size, 2, none⟩ = some (.slice A n c)) (first | exact carry.out _ hbW | exact carry.out _ hbZ | exact carry.out _ hbY | exact carry.out _ (Below.refl _ _).drew | exact carry.out _ (Below.refl _ _)) (first
        | (go_at_call 105; refine (impl_rounds h38.2).mono ?_; rintro e w' ⟨rfl, rfl⟩)
        | (go_at_call 104; with_reducible refine (impl_leadRows (a := f) hf8 hn HR2.out hz HS.out HGV.out).mono ?_; rintro e w5 ⟨A5, c5, rfl, ho5, hbd⟩; have hbZ := below_go hbY hbd; have RL := Lib.hid (RLa.out.up hbd); have RM := Lib.hid (show Strs w5 A5 ((leadL st l).map (timesS f)) by rw [← HM1.out]; exact ho5))
        | (go_at_call 104; with_reducible refine (impl_leadRows (a := roundsS st) hr8 hn HF2.out hz HS.out HGV.out).mono ?_; rintro e w5 ⟨A5, c5, rfl, ho5, hbd⟩; have hbZ := below_go hbY hbd; have RM := Lib.hid (RMa.out.up hbd); have RL := Lib.hid (show Strs w5 A5 (leadL st l) by rw [HL1.out]; exact ho5))
        | (go_at_call 104; with_reducible refine (impl_leadRows (a := roundsS st) hr8 hn H1.drew hz HS.out HGV.out).mono ?_; rintro e w4 ⟨A4, c4, rfl, ho4, hbd⟩; have hbY := below_of_drew hbd; have HR2 := Lib.hid (H1.up hbY); have RLa := Lib.hid (show Strs w4 A4 (leadL st l) by rw [HL1.out]; exact ho4))
        | (go_at_call 104; with_reducible refine (impl_leadRows (a := f) hf8 hn H1.drew hz HS.out HGV.out).mono ?_; rintro e w4 ⟨A4, c4, rfl, ho4, hbd⟩; have hbY := below_of_drew hbd; have HF2 := Lib.hid (H1.up hbY); have RMa := Lib.hid (show Strs w4 A4 ((leadL st l).map (timesS f)) by rw [← HM1.out]; exact ho4))
        | (go_at_call 103; with_reducible refine (impl_meeting HLn.out RL.out HMn.out RM.out (by omega) (by omega) HLZ.out HMZ.out).mono ?_; rintro e w6 ⟨A6, m6, c6, rfl, ho6, hm6, hb6⟩; have hbW := below_go hbZ hb6))
      all_goals
        go_wp2
        go_ret2
        rw [HT.out e0.out, e0.out]
        exact ⟨_, _, _, rfl, ho6.base_le (Nat.le_trans B1.size hbZ.size), by omega, below_go B1 hbW⟩
set_option maxHeartbeats 1000000 in
set_option maxRecDepth 100000 in
theorem impl_SameFalse {A B : Option Addr} {n c st n2 c2 sb : Nat} {nm nb : ByteArray} {l lb : List ByteArray} {w : World} (hn : l.length = n) (h : Strs w A l) (hz : n ≤ 1048576) (hs : ∀ s ∈ l, s.size ≤ 16777216) (hnm : nm.size ≤ 16777216) (h9 : st ≤ 1000) (hn2 : lb.length = n2) (g : Strs w B lb) (hz2 : n2 ≤ 1048576) (hs2 : ∀ s ∈ lb, s.size ≤ 16777216) (hnb : nb.size ≤ 16777216) (h92 : sb ≤ 1000) :
    Calls Tryz.prog 31 #[.agg #[.string nm, .int .i64 st, .slice A n c], .agg #[.string nb, .int .i64 sb, .slice B n2 c2]] w fun e w' => e = .returned (.tuple #[.bool (sfV nm st l nb sb lb), .bool (sfOk nm st l nb sb lb)]) ∧ Below w.heap.size w w' := by
  have b0 : Below w.heap.size w ((w.alloc (.cells ⟨[.string nm, .int .i64 st, .slice A n c]⟩ 25)).alloc (.cells ⟨[.string nb, .int .i64 sb, .slice B n2 c2]⟩ 25)) := by (repeat' (first | (with_reducible exact Below.refl _ _) | (with_reducible assumption) | (with_reducible refine below_drewN ?_ _) | (with_reducible refine Below.drew ?_) | (with_reducible refine below_alloc ?_ _) | (with_reducible refine Below.alloc ?_ ?_ _) | (with_reducible refine Below.setCell ?_ ?_ _) | (with_reducible refine below_go ?_ (by with_reducible assumption)) | (with_reducible refine below_then (by with_reducible assumption) ?_ ?_) | go_size))
  have K0 := (Blk.at_ w 25 [.string nm, .int .i64 st, .slice A n c] (b := w.heap.size) rfl).alloc (.cells ⟨[.string nb, .int .i64 sb, .slice B n2 c2]⟩ 25)
  have J0 := Blk.at_ (w.alloc (.cells ⟨[.string nm, .int .i64 st, .slice A n c]⟩ 25)) 25 [.string nb, .int .i64 sb, .slice B n2 c2] (b := w.heap.size + 1) (by simp)
  have H0 := h.up b0
  have G0 := g.up b0
  have HO : Hid (sfOk nm st l nb sb lb = ((fhsOk nm st l && fhsOk nb sb lb) && decide (st = sb))) := Lib.hid rfl
  have HV : Hid (sfV nm st l nb sb lb = (sfOk nm st l nb sb lb && decide (falS (leadL st l) = falS (leadL sb lb)))) := Lib.hid rfl
  have HF1 : Hid (fhsOk nm st l = true → fhsV nm st l = falS (leadL st l)) := Lib.hid (fun e => by rw [fhsV, if_pos e])
  have HF2 : Hid (fhsOk nb sb lb = true → fhsV nb sb lb = falS (leadL sb lb)) := Lib.hid (fun e => by rw [fhsV, if_pos e])
  go_in
  go_wp2_with fail
  refine (impl_FalseHeads (nm := nm) (st := st) hn H0 hz hs hnm h9).mono ?_; rintro e w1 ⟨A1, m1, c1, rfl, ho1, hm1, hb1⟩
  have K1 := K0.up hb1
  have J1 := J0.up hb1
  have G1 := G0.up hb1
  have B1 := below_go b0 hb1
  have j0 := J1.cell 0; have j1 := J1.cell 1; have j2 := J1.cell 2
  simp only [List.getElem?_cons_zero, List.getElem?_cons_succ] at j0 j1 j2
  clear K0 J0 H0 G0 h g b0 hb1
  go_wp2_with fail
  refine (impl_FalseHeads (nm := nb) (st := sb) hn2 G1 hz2 hs2 hnb h92).mono ?_; rintro e w2 ⟨A2, m2, d2, rfl, ho2, hm2, hb2⟩
  have K2 := K1.up hb2
  have J2 := J1.up hb2
  have B2 := below_go B1 hb2
  have R1 := ho1.recs.up hb2
  have R2 := ho2.recs
  have k1 := K2.cell 1; have j1' := J2.cell 1
  simp only [List.getElem?_cons_zero, List.getElem?_cons_succ] at k1 j1'
  have HL1 := Lib.hid ho1.len
  have HL2 := Lib.hid ho2.len
  clear K1 J1 G1 B1 hb2 j0 j1 j2 ho1 ho2
  rcases hf1 : fhsOk nm st l
  · have e0 := Lib.hid (show sfOk nm st l nb sb lb = false by rw [HO.out, hf1]; rfl)
    have e1 := Lib.hid (show sfV nm st l nb sb lb = false by rw [HV.out, e0.out]; rfl)
    go_wp2
    go_ret2
    rw [e1.out, e0.out]
    exact ⟨rfl, B2⟩
  · rcases hf2 : fhsOk nb sb lb
    · have e0 := Lib.hid (show sfOk nm st l nb sb lb = false by rw [HO.out, hf2, Bool.and_false]; rfl)
      have e1 := Lib.hid (show sfV nm st l nb sb lb = false by rw [HV.out, e0.out]; rfl)
      go_wp2
      go_ret2
      rw [e1.out, e0.out]
      exact ⟨rfl, B2⟩
    · by_cases hst : st = sb
      · have e0 := Lib.hid (show sfOk nm st l nb sb lb = true by rw [HO.out, hf1, hf2, decide_eq_true hst]; rfl)
        have e1 := Lib.hid (show sfV nm st l nb sb lb = decide (fhsV nm st l = fhsV nb sb lb) by rw [HV.out, e0.out, HF1.out hf1, HF2.out hf2]; rfl)
        have hbe : ((st : Int) != (sb : Int)) = false := by simp; omega
        clear hst
        go_wp2_with fail
        refine (equal_strs A1 A2 m1 m2 c1 d2 _ _ w2 HL1.out HL2.out R1 R2 (by omega) (by omega)).mono ?_; rintro e w3 ⟨rfl, hb3⟩
        go_wp2
        go_ret2
        rw [e1.out, e0.out]
        exact ⟨rfl, below_go B2 hb3⟩
      · have e0 := Lib.hid (show sfOk nm st l nb sb lb = false by rw [HO.out, decide_eq_false hst, Bool.and_false])
        have e1 := Lib.hid (show sfV nm st l nb sb lb = false by rw [HV.out, e0.out]; rfl)
        have hbe : ((st : Int) != (sb : Int)) = true := by simp; omega
        go_wp2
        go_ret2
        rw [e1.out, e0.out]
        exact ⟨rfl, B2⟩
set_option maxHeartbeats 1000000 in
theorem spec_SameFalse {A B : Option Addr} {n c st n2 c2 sb : Nat} {nm nb : ByteArray} {l lb : List ByteArray} {w : World} (hn : l.length = n) (h : Strs w A l) (hz : n ≤ 1048576) (hs : ∀ s ∈ l, s.size ≤ 16777216) (hnm : nm.size ≤ 16777216) (h9 : st ≤ 1000) (hn2 : lb.length = n2) (g : Strs w B lb) (hz2 : n2 ≤ 1048576) (hs2 : ∀ s ∈ lb, s.size ≤ 16777216) (hnb : nb.size ≤ 16777216) (h92 : sb ≤ 1000) :
    Calls Tryz.prog 32 #[.agg #[.string nm, .int .i64 st, .slice A n c], .agg #[.string nb, .int .i64 sb, .slice B n2 c2]] w fun e w' => e = .returned (.tuple #[.bool (sfV nm st l nb sb lb), .bool (sfOk nm st l nb sb lb)]) ∧ Below w.heap.size w w' := by
  have b0 : Below w.heap.size w ((w.alloc (.cells ⟨[.string nm, .int .i64 st, .slice A n c]⟩ 25)).alloc (.cells ⟨[.string nb, .int .i64 sb, .slice B n2 c2]⟩ 25)) := by (repeat' (first | (with_reducible exact Below.refl _ _) | (with_reducible assumption) | (with_reducible refine below_drewN ?_ _) | (with_reducible refine Below.drew ?_) | (with_reducible refine below_alloc ?_ _) | (with_reducible refine Below.alloc ?_ ?_ _) | (with_reducible refine Below.setCell ?_ ?_ _) | (with_reducible refine below_go ?_ (by with_reducible assumption)) | (with_reducible refine below_then (by with_reducible assumption) ?_ ?_) | go_size))
  have K0 := (Blk.at_ w 25 [.string nm, .int .i64 st, .slice A n c] (b := w.heap.size) rfl).alloc (.cells ⟨[.string nb, .int .i64 sb, .slice B n2 c2]⟩ 25)
  have J0 := Blk.at_ (w.alloc (.cells ⟨[.string nm, .int .i64 st, .slice A n c]⟩ 25)) 25 [.string nb, .int .i64 sb, .slice B n2 c2] (b := w.heap.size + 1) (by simp)
  have H0 := h.up b0
  have G0 := g.up b0
  have HO : Hid (sfOk nm st l nb sb lb = ((fhsOk nm st l && fhsOk nb sb lb) && decide (st = sb))) := Lib.hid rfl
  have HV : Hid (sfV nm st l nb sb lb = (sfOk nm st l nb sb lb && decide (falS (leadL st l) = falS (leadL sb lb)))) := Lib.hid rfl
  have HF1 : Hid (fhsOk nm st l = true → fhsV nm st l = falS (leadL st l)) := Lib.hid (fun e => by rw [fhsV, if_pos e])
  have HF2 : Hid (fhsOk nb sb lb = true → fhsV nb sb lb = falS (leadL sb lb)) := Lib.hid (fun e => by rw [fhsV, if_pos e])
  go_in
  go_wp2_with fail
  refine (spec_FalseHeads (nm := nm) (st := st) hn H0 hz hs hnm h9).mono ?_; rintro e w1 ⟨A1, m1, c1, rfl, ho1, hm1, hb1⟩
  have K1 := K0.up hb1
  have J1 := J0.up hb1
  have G1 := G0.up hb1
  have B1 := below_go b0 hb1
  have j0 := J1.cell 0; have j1 := J1.cell 1; have j2 := J1.cell 2
  simp only [List.getElem?_cons_zero, List.getElem?_cons_succ] at j0 j1 j2
  clear K0 J0 H0 G0 h g b0 hb1
  go_wp2_with fail
  refine (spec_FalseHeads (nm := nb) (st := sb) hn2 G1 hz2 hs2 hnb h92).mono ?_; rintro e w2 ⟨A2, m2, d2, rfl, ho2, hm2, hb2⟩
  have K2 := K1.up hb2
  have J2 := J1.up hb2
  have B2 := below_go B1 hb2
  have R1 := ho1.recs.up hb2
  have R2 := ho2.recs
  have k1 := K2.cell 1; have j1' := J2.cell 1
  simp only [List.getElem?_cons_zero, List.getElem?_cons_succ] at k1 j1'
  have HL1 := Lib.hid ho1.len
  have HL2 := Lib.hid ho2.len
  clear K1 J1 G1 B1 hb2 j0 j1 j2 ho1 ho2
  rcases hf1 : fhsOk nm st l
  · have e0 := Lib.hid (show sfOk nm st l nb sb lb = false by rw [HO.out, hf1]; rfl)
    have e1 := Lib.hid (show sfV nm st l nb sb lb = false by rw [HV.out, e0.out]; rfl)
    go_wp2
    go_ret2
    rw [e1.out, e0.out]
    exact ⟨rfl, B2⟩
  · rcases hf2 : fhsOk nb sb lb
    · have e0 := Lib.hid (show sfOk nm st l nb sb lb = false by rw [HO.out, hf2, Bool.and_false]; rfl)
      have e1 := Lib.hid (show sfV nm st l nb sb lb = false by rw [HV.out, e0.out]; rfl)
      go_wp2
      go_ret2
      rw [e1.out, e0.out]
      exact ⟨rfl, B2⟩
    · by_cases hst : st = sb
      · have e0 := Lib.hid (show sfOk nm st l nb sb lb = true by rw [HO.out, hf1, hf2, decide_eq_true hst]; rfl)
        have e1 := Lib.hid (show sfV nm st l nb sb lb = decide (fhsV nm st l = fhsV nb sb lb) by rw [HV.out, e0.out, HF1.out hf1, HF2.out hf2]; rfl)
        have hbe : ((st : Int) != (sb : Int)) = false := by simp; omega
        clear hst
        go_wp2_with fail
        refine (spec_sameS A1 A2 m1 m2 c1 d2 _ _ w2 HL1.out HL2.out R1 R2 (by omega) (by omega)).mono ?_; rintro e w3 ⟨rfl, hb3⟩
        go_wp2
        go_ret2
        rw [e1.out, e0.out]
        exact ⟨rfl, below_go B2 hb3⟩
      · have e0 := Lib.hid (show sfOk nm st l nb sb lb = false by rw [HO.out, decide_eq_false hst, Bool.and_false])
        have e1 := Lib.hid (show sfV nm st l nb sb lb = false by rw [HV.out, e0.out]; rfl)
        have hbe : ((st : Int) != (sb : Int)) = true := by simp; omega
        go_wp2
        go_ret2
        rw [e1.out, e0.out]
        exact ⟨rfl, B2⟩
theorem spec_RoundsOf {n : Nat} {w : World} (h3 : 3 ≤ n) (h8 : n ≤ 8) :
    Calls Tryz.prog 34 #[.int .i64 n] w fun e w' => e = .returned (.tuple #[.string (roundsS n), .bool true]) ∧ w = w' := by
  have h1 : inB (n : Int) 3 8 = true := by rw [inB, decide_eq_true_iff]; omega
  go_in
  go_wp2_with (first | (go_at_call 81; refine (spec_l1In _ _ _ _).mono ?_; rw [h1]; rintro e w' ⟨rfl, rfl⟩) | (go_at_call 90; refine (spec_l1Rounds h8).mono ?_; rintro e w' ⟨rfl, rfl⟩))
  go_ret2
  exact ⟨rfl, rfl⟩
theorem spec_TurnRow {a : ByteArray} {w : World} (hg : goodRow a = true) (hz : a.size ≤ 16777216) :
    Calls Tryz.prog 33 #[.string a] w fun e w' => e = .returned (.tuple #[.string (turnS a), .bool true]) ∧ Below w.heap.size w w' := by
  have HG := Lib.hid hg
  go_in
  go_wp2_with fail
  refine (spec_l1Row hz).mono ?_; rw [HG.out]; rintro e w1 ⟨rfl, hb1⟩
  go_wp2_with fail
  refine (spec_l1Turn HG.out).mono ?_; rintro e w2 ⟨rfl, hb2, _⟩
  go_wp2
  go_ret2
  exact ⟨rfl, below_go hb1 hb2⟩
end Go.Proofs.YtidolgonmimicaaGreat
/- Truth by parts, both sides; a list of rows that is true. -/
namespace Go.Proofs.YtidolgonmimicaaGreat
set_option linter.unusedVariables false
set_option linter.unusedSimpArgs false
open Go.ChangeShapes Go.WideShapes Go.ChangeAt Go.RowKit Go.Deep
/-- What TrueByParts answers. -/
def TbP (nm : ByteArray) (st : Nat) (l : List ByteArray) (kb ks t : ByteArray) (x : Bool) : Prop :=
  (goodF nm (st : Int) l kb ks t = true → ∃ M, IsOrd st (hdAt st l kb ks t t.size) M ∧ x = (nodupB (leadL st l) && nodupB ((tRows st l kb ks t t.size).map (leastS st (hdAt st l kb ks t t.size) M)))) ∧ (goodF nm (st : Int) l kb ks t = false → x = false)
theorem TbP.uniq {nm : ByteArray} {st : Nat} {l : List ByteArray} {kb ks t : ByteArray} {x y : Bool} (h : TbP nm st l kb ks t x) (g : TbP nm st l kb ks t y) : x = y := by
  rcases hg : goodF nm (st : Int) l kb ks t
  · rw [h.2 hg, g.2 hg]
  · obtain ⟨M, h1, rfl⟩ := h.1 hg
    obtain ⟨K, g1, rfl⟩ := g.1 hg
    obtain rfl := h1.uniq g1
    rfl
def TbR (nm : ByteArray) (st : Nat) (l : List ByteArray) (kb ks t : ByteArray) (w : World) (e : Ending) (w' : World) : Prop :=
  ∃ x : Bool, e = .returned (.tuple #[.bool x, .bool (goodF nm (st : Int) l kb ks t)]) ∧ TbP nm st l kb ks t x ∧ Below w.heap.size w w'
theorem TbR.mk {nm : ByteArray} {st : Nat} {l : List ByteArray} {kb ks t : ByteArray} {w w' : World} {e : Ending} (x b : Bool) (he : e = .returned (.tuple #[.bool x, .bool b])) (hb : b = goodF nm (st : Int) l kb ks t) (h1 : TbP nm st l kb ks t x) (h2 : Below w.heap.size w w') : TbR nm st l kb ks t w e w' := by
  subst hb; exact ⟨x, he, h1, h2⟩
theorem tbP_f {nm : ByteArray} {st : Nat} {l : List ByteArray} {kb ks t : ByteArray} (h : goodF nm (st : Int) l kb ks t = false) : TbP nm st l kb ks t false := ⟨fun e => by (rw [h] at e; cases e), fun _ => rfl⟩
theorem tbP_t {nm : ByteArray} {st M : Nat} {l : List ByteArray} {kb ks t : ByteArray} (h : goodF nm (st : Int) l kb ks t = true) (hM : IsOrd st (hdAt st l kb ks t t.size) M) (x : Bool) (hx : x = (nodupB (leadL st l) && nodupB ((tRows st l kb ks t t.size).map (leastS st (hdAt st l kb ks t t.size) M)))) : TbP nm st l kb ks t x := ⟨fun _ => ⟨M, hM, hx⟩, fun e => by (rw [h] at e; cases e)⟩
theorem least_row {n m : Nat} {e x : ByteArray} (he : RowN n e) (hm : IsOrd n e m) (hx : RowN n x) : RowN n (leastS n e m x) := cosL_row he hx _ (least_mem hm x)
-- spec_PartRows
set_option maxHeartbeats 2000000 in
set_option maxRecDepth 100000 in
theorem spec_PartRows {A : Option Addr} {n c st : Nat} {nm : ByteArray} {l : List ByteArray} {kb ks t : ByteArray} {w : World} (hn : l.length = n) (h : Strs w A l) (hz : n ≤ 1048576) (hs : ∀ s ∈ l, s.size ≤ 16777216) (hnm : nm.size ≤ 16777216) (h9 : st ≤ 1000) (hkb : kb.size ≤ 16777216) (hks : ks.size ≤ 16777216) (ht : t.size ≤ 16777216) (hcap : n ≤ c) :
    Calls Tryz.prog 50 #[.agg #[.string nm, .int .i64 st, .slice A n c], .agg #[.string kb, .string ks], .string t] w fun e w' => ∃ A' m' c', e = .returned (.tuple #[.slice A' m' c', .bool (rowsOk nm (st : Int) l kb ks t)]) ∧ (rowsOk nm (st : Int) l kb ks t = true → m' = t.size * n ∧ ∃ M, IsOrd st (hdAt st l kb ks t t.size) M ∧ Owned strE 1 9 w' w.heap.size A' m' c' ((tRows st l kb ks t t.size).map (leastS st (hdAt st l kb ks t t.size) M))) ∧ (rowsOk nm (st : Int) l kb ks t = false → A' = none ∧ m' = 0 ∧ c' = 0) ∧ Below w.heap.size w w' := by
  have b0 : Below w.heap.size w ((w.alloc (.cells ⟨[.string nm, .int .i64 st, .slice A n c]⟩ 25)).alloc (.cells ⟨[.string kb, .string ks]⟩ 27)) := by (repeat' (first | (with_reducible exact Below.refl _ _) | (with_reducible assumption) | (with_reducible refine below_drewN ?_ _) | (with_reducible refine Below.drew ?_) | (with_reducible refine below_alloc ?_ _) | (with_reducible refine Below.alloc ?_ ?_ _) | (with_reducible refine Below.setCell ?_ ?_ _) | (with_reducible refine below_go ?_ (by with_reducible assumption)) | (with_reducible refine below_then (by with_reducible assumption) ?_ ?_) | go_size))
  have K0 := (Blk.at_ w 25 [.string nm, .int .i64 st, .slice A n c] (b := w.heap.size) rfl).alloc (.cells ⟨[.string kb, .string ks]⟩ 27)
  have J0 := Blk.at_ (w.alloc (.cells ⟨[.string nm, .int .i64 st, .slice A n c]⟩ 25)) 27 [.string kb, .string ks] (b := w.heap.size + 1) (by simp)
  have hI : I64 (st : Int) := ⟨by omega, by omega⟩
  have H0 := h.up b0
  have HQ : Hid (rowsOk nm (st : Int) l kb ks t = (goodF nm (st : Int) l kb ks t && decide (t.size * l.length ≤ 800))) := Lib.hid rfl
  have HG : Hid (goodF nm st l kb ks t = (goodK nm (st : Int) l kb ks && goodT t)) := Lib.hid rfl
  clear h
  go_in
  go_wp2_with fail
  refine (spec_TouchRows (nm := nm) (st := (st : Int)) hn H0 hz hs hnm hI hkb hks hcap ht).mono ?_; rintro e w1 ⟨A1, m1, c1, rfl, hy, hno, hb1⟩
  have K1 := K0.up hb1
  have J1 := J0.up hb1
  have H1 := H0.up hb1
  have B1 := below_go b0 hb1
  have hs0 := b0.size
  clear K0 J0 H0
  rcases hg : rowsOk nm (st : Int) l kb ks t
  · have e2 := Lib.hid hg
    obtain ⟨rfl, rfl, rfl⟩ := hno hg
    clear hy hno
    go_wp2
    go_ret2
    rw [e2.out]
    exact ⟨none, 0, 0, rfl, (fun e => by cases e), fun _ => ⟨rfl, rfl, rfl⟩, B1⟩
  · have e2 := Lib.hid hg
    obtain ⟨hm1, ho⟩ := hy hg
    have hgg := hg
    rw [HQ.out, HG.out, Bool.and_eq_true, Bool.and_eq_true, decide_eq_true_iff] at hgg
    have h38 := (goodK_all hgg.1.1).1
    have HRW : Hid (RowN st (hdAt st l kb ks t t.size)) := Lib.hid (hdAt_good h38.1 h38.2 l kb ks t t.size)
    obtain ⟨M, hM⟩ := IsOrd.ex HRW.out
    have HM := Lib.hid hM
    have hstn : ((st : Int)).toNat = st := by omega
    rw [hstn] at ho
    have HO := Lib.hid ho
    have HTR := Lib.hid (tRows_row (l := l) (b := kb) (s := ks) (u := t) h38.1 h38.2 t.size)
    have hmz : m1 ≤ 1048576 := by rw [hm1, ← hn]; omega
    have HM1 := Lib.hid hm1
    clear hy hno ho hM hm1
    have k0 := K1.cell 0; have k1 := K1.cell 1; have k2 := K1.cell 2; have j0 := J1.cell 0; have j1 := J1.cell 1
    simp only [List.getElem?_cons_zero, List.getElem?_cons_succ] at k0 k1 k2 j0 j1
    go_wp2_with fail
    refine (spec_l12Rows (t := t) hn H1 hgg.1.1 hgg.1.2 hcap HM.out).mono ?_; rintro e w2 ⟨A3, m3, c3, rfl, hm3, ho3, hb2⟩
    have HM3 := Lib.hid hm3
    clear hm3
    go_wp2
    go_ret2
    rw [e2.out]
    exact ⟨A3, m3, c3, rfl, fun _ => ⟨HM3.out, M, HM.out, ho3.base_le B1.size⟩, (fun e => by cases e), below_go B1 hb2⟩
set_option maxHeartbeats 4000000 in
set_option maxRecDepth 100000 in
theorem spec_TrueByParts {A : Option Addr} {n c st : Nat} {nm : ByteArray} {l : List ByteArray} {kb ks t : ByteArray} {w : World} (hn : l.length = n) (h : Strs w A l) (hz : n ≤ 1048576) (hs : ∀ s ∈ l, s.size ≤ 16777216) (hnm : nm.size ≤ 16777216) (h9 : st ≤ 1000) (hkb : kb.size ≤ 16777216) (hks : ks.size ≤ 16777216) (ht : t.size ≤ 16777216) (hcap : n ≤ c) :
    Calls Tryz.prog 42 #[.agg #[.string nm, .int .i64 st, .slice A n c], .agg #[.string kb, .string ks], .string t] w fun e w' => TbR nm st l kb ks t w e w' := by
  have b0 : Below w.heap.size w ((w.alloc (.cells ⟨[.string nm, .int .i64 st, .slice A n c]⟩ 25)).alloc (.cells ⟨[.string kb, .string ks]⟩ 27)) := by (repeat' (first | (with_reducible exact Below.refl _ _) | (with_reducible assumption) | (with_reducible refine below_drewN ?_ _) | (with_reducible refine Below.drew ?_) | (with_reducible refine below_alloc ?_ _) | (with_reducible refine Below.alloc ?_ ?_ _) | (with_reducible refine Below.setCell ?_ ?_ _) | (with_reducible refine below_go ?_ (by with_reducible assumption)) | (with_reducible refine below_then (by with_reducible assumption) ?_ ?_) | go_size))
  have K0 := (Blk.at_ w 25 [.string nm, .int .i64 st, .slice A n c] (b := w.heap.size) rfl).alloc (.cells ⟨[.string kb, .string ks]⟩ 27)
  have J0 := Blk.at_ (w.alloc (.cells ⟨[.string nm, .int .i64 st, .slice A n c]⟩ 25)) 27 [.string kb, .string ks] (b := w.heap.size + 1) (by simp)
  have hI : I64 (st : Int) := ⟨by omega, by omega⟩
  have H0 := h.up b0
  have HG : Hid (goodF nm st l kb ks t = (goodK nm (st : Int) l kb ks && goodT t)) := Lib.hid rfl
  obtain ⟨gf, hgf⟩ : ∃ u, u = goodF nm (st : Int) l kb ks t := ⟨_, rfl⟩
  have HGF := Lib.hid hgf
  rw [← hgf] at HG
  clear hgf
  go_in
  go_wp2_with fail
  refine (spec_l9Asked hn H0 hz hs hnm hI hkb hks ht).mono ?_; rw [← HGF.out]; rintro e w1 ⟨rfl, hb1⟩
  have K1 := K0.up hb1
  have J1 := J0.up hb1
  have H1 := H0.up hb1
  have B1 := below_go b0 hb1
  clear K0 J0 H0 h b0 hb1
  rcases gf
  · have HN := Lib.hid (tbP_f HGF.out.symm)
    go_wp2
    go_ret2
    exact TbR.mk _ _ rfl HGF.out HN.out B1
  · have hgg := HG.out
    rw [eq_comm, Bool.and_eq_true] at hgg
    have h38 := (goodK_all hgg.1).1
    have hGM := (goodK_t hgg.1).1
    have HRW : Hid (RowN st (hdAt st l kb ks t t.size)) := Lib.hid (hdAt_good h38.1 h38.2 l kb ks t t.size)
    obtain ⟨M, hM⟩ := IsOrd.ex HRW.out
    have HM := Lib.hid hM
    have HTB := Lib.hid (fun (x : Bool) hx => tbP_t (x := x) HGF.out.symm hM hx)
    have HTR := Lib.hid (tRows_row (l := l) (b := kb) (s := ks) (u := t) h38.1 h38.2 t.size)
    have hts := (goodT_t hgg.2).2.1
    have hts1 := (goodT_t hgg.2).1
    have hmz : t.size * n ≤ 2400 := Nat.le_trans (Nat.mul_le_mul hts (show n ≤ 40 by have := (goodK_all hgg.1).2.1; omega)) (by decide)
    have HLZ := Lib.hid (fun s (hs : s ∈ (tRows st l kb ks t t.size).map (leastS st (hdAt st l kb ks t t.size) M)) => show s.size ≤ 16777216 from by
      obtain ⟨y, hy, rfl⟩ := List.mem_map.1 hs
      have := least_row HRW.out HM.out (HTR.out y hy)
      rw [this.2]; omega)
    have k0 := K1.cell 0; have k1 := K1.cell 1; have k2 := K1.cell 2; have j0 := J1.cell 0; have j1 := J1.cell 1
    simp only [List.getElem?_cons_zero, List.getElem?_cons_succ] at k0 k1 k2 j0 j1
    clear hM
    have HLT : Hid (ltV nm st l = nodupB (leadL st l)) := Lib.hid (by rw [ltV, hGM, Bool.true_and])
    go_wp2_with fail
    refine (spec_IsLeadTrue (nm := nm) hn H1 hz hs hnm h9).mono ?_; rw [HLT.out]; rintro e w2 ⟨rfl, hb2⟩
    have K2 := K1.up hb2
    have J2 := J1.up hb2
    have H2 := H1.up hb2
    have B2 := below_go B1 hb2
    clear k0 k1 k2 j0 j1 K1 J1 H1 hb2
    have k0 := K2.cell 0; have k1 := K2.cell 1; have k2 := K2.cell 2; have j0 := J2.cell 0; have j1 := J2.cell 1
    simp only [List.getElem?_cons_zero, List.getElem?_cons_succ] at k0 k1 k2 j0 j1
    rcases hl : nodupB (leadL st l)
    · have HF := Lib.hid (HTB.out false (by rw [hl, Bool.false_and]))
      clear hl
      go_wp2
      go_ret2
      exact TbR.mk _ _ rfl HGF.out HF.out B2
    · have HL := Lib.hid hl
      clear hl
      go_wp2_with fail
      refine (spec_l12Rows (t := t) hn H2 hgg.1 hgg.2 hcap HM.out).mono ?_; rintro e w3 ⟨A3, m3, c3, rfl, hm3, ho3, hb3⟩
      have HO3 := Lib.hid ho3
      have hm3z : m3 ≤ 2400 := by omega
      have B3 := below_go B2 hb3
      clear ho3 hm3
      go_wp2_with fail
      refine (spec_l7True HO3.out.len HO3.out.recs (by omega) HLZ.out).mono ?_; rintro e w4 ⟨rfl, hb4⟩
      have HF := Lib.hid (HTB.out _ (by rw [HL.out, Bool.true_and]))
      go_wp2
      go_ret2
      exact TbR.mk _ _ rfl HGF.out HF.out (below_go B3 hb4)
theorem okRow_of12 {n : Nat} {L : List ByteArray} (h : ∀ x ∈ L, RowN n x) {k : Nat} (hk : k < L.length) : okRow L k = true := by
  have h0 : 0 < L.length := by omega
  have a := h _ (List.getElem_mem hk)
  have b := h _ (List.getElem_mem h0)
  simp only [okRow, List.getD, List.getElem?_eq_getElem hk, List.getElem?_eq_getElem h0, Option.getD_some, a.1, a.2, b.2]
  simp
theorem goodRows_of12 {n : Nat} {L : List ByteArray} (h : ∀ x ∈ L, RowN n x) (hl : L.length ≤ 800) : goodRows L = true := by
  rw [goodRows, Bool.and_eq_true, decide_eq_true_iff, List.all_eq_true]
  exact ⟨fun k hk => okRow_of12 h (List.mem_range.1 hk), hl⟩
set_option maxHeartbeats 1000000 in
theorem spec_IsTrueList {A : Option Addr} {N c n : Nat} {l : List ByteArray} {w : World} (hN : l.length = N) (h : Strs w A l) (hz : N ≤ 800) (hr : ∀ s ∈ l, RowN n s) :
    Calls Tryz.prog 53 #[.slice A N c] w fun e w' => e = .returned (.tuple #[.bool (nodupB l), .bool true]) ∧ Below w.heap.size w w' := by
  have HS := Lib.hid (fun s (hs : s ∈ l) => show s.size ≤ 16777216 from by
    have a := hr s hs
    have b := a.st
    rw [a.2]; omega)
  have HR := Lib.hid (goodRows_of12 hr (by omega))
  have HN := Lib.hid hN
  clear hr hN
  go_in
  go_wp2_with fail
  refine (spec_l6Rows HN.out h (by omega) HS.out).mono ?_; rw [HR.out]; rintro e w1 ⟨rfl, hb1⟩
  go_wp2_with fail
  refine (spec_l7True HN.out (h.up hb1) (by omega) HS.out).mono ?_; rintro e w2 ⟨rfl, hb2⟩
  go_wp2
  go_ret2
  exact ⟨rfl, below_go hb1 hb2⟩
set_option maxHeartbeats 4000000 in
set_option maxRecDepth 100000 in
theorem impl_TrueByParts {A : Option Addr} {n c st : Nat} {nm : ByteArray} {l : List ByteArray} {kb ks t : ByteArray} {w : World} (hn : l.length = n) (h : Strs w A l) (hz : n ≤ 1048576) (hs : ∀ s ∈ l, s.size ≤ 16777216) (hnm : nm.size ≤ 16777216) (h9 : st ≤ 1000) (hkb : kb.size ≤ 16777216) (hks : ks.size ≤ 16777216) (ht : t.size ≤ 16777216) :
    Calls Tryz.prog 41 #[.agg #[.string nm, .int .i64 st, .slice A n c], .agg #[.string kb, .string ks], .string t] w fun e w' => TbR nm st l kb ks t w e w' := by
  have b0 : Below w.heap.size w ((w.alloc (.cells ⟨[.string nm, .int .i64 st, .slice A n c]⟩ 25)).alloc (.cells ⟨[.string kb, .string ks]⟩ 27)) := by (repeat' (first | (with_reducible exact Below.refl _ _) | (with_reducible assumption) | (with_reducible refine below_drewN ?_ _) | (with_reducible refine Below.drew ?_) | (with_reducible refine below_alloc ?_ _) | (with_reducible refine Below.alloc ?_ ?_ _) | (with_reducible refine Below.setCell ?_ ?_ _) | (with_reducible refine below_go ?_ (by with_reducible assumption)) | (with_reducible refine below_then (by with_reducible assumption) ?_ ?_) | go_size))
  have K0 := (Blk.at_ w 25 [.string nm, .int .i64 st, .slice A n c] (b := w.heap.size) rfl).alloc (.cells ⟨[.string kb, .string ks]⟩ 27)
  have J0 := Blk.at_ (w.alloc (.cells ⟨[.string nm, .int .i64 st, .slice A n c]⟩ 25)) 27 [.string kb, .string ks] (b := w.heap.size + 1) (by simp)
  have hI : I64 (st : Int) := ⟨by omega, by omega⟩
  have H0 := h.up b0
  have HG : Hid (goodF nm st l kb ks t = (goodK nm (st : Int) l kb ks && goodT t)) := Lib.hid rfl
  obtain ⟨gf, hgf⟩ : ∃ u, u = goodF nm (st : Int) l kb ks t := ⟨_, rfl⟩
  have HGF := Lib.hid hgf
  rw [← hgf] at HG
  clear hgf
  go_in
  go_wp2_with fail
  refine (impl_goodFor hn H0 hz hs hnm hI hkb hks ht).mono ?_; rw [← HGF.out]; rintro e w1 ⟨rfl, hb1⟩
  have K1 := K0.up hb1
  have J1 := J0.up hb1
  have H1 := H0.up hb1
  have B1 := below_go b0 hb1
  clear K0 J0 H0 h b0 hb1
  rcases gf
  · have HN := Lib.hid (tbP_f HGF.out.symm)
    go_wp2
    go_ret2
    exact TbR.mk _ _ rfl HGF.out HN.out B1
  · have hgg := HG.out
    rw [eq_comm, Bool.and_eq_true] at hgg
    have h38 := (goodK_all hgg.1).1
    have hGM := (goodK_t hgg.1).1
    have HRW : Hid (RowN st (hdAt st l kb ks t t.size)) := Lib.hid (hdAt_good h38.1 h38.2 l kb ks t t.size)
    obtain ⟨M, hM⟩ := IsOrd.ex HRW.out
    have HM := Lib.hid hM
    have HTB := Lib.hid (fun (x : Bool) hx => tbP_t (x := x) HGF.out.symm hM hx)
    have HTR := Lib.hid (tRows_row (l := l) (b := kb) (s := ks) (u := t) h38.1 h38.2 t.size)
    have hts := (goodT_t hgg.2).2.1
    have hts1 := (goodT_t hgg.2).1
    have hmz : t.size * n ≤ 2400 := Nat.le_trans (Nat.mul_le_mul hts (show n ≤ 40 by have := (goodK_all hgg.1).2.1; omega)) (by decide)
    have HLZ := Lib.hid (fun s (hs : s ∈ (tRows st l kb ks t t.size).map (leastS st (hdAt st l kb ks t t.size) M)) => show s.size ≤ 16777216 from by
      obtain ⟨y, hy, rfl⟩ := List.mem_map.1 hs
      have := least_row HRW.out HM.out (HTR.out y hy)
      rw [this.2]; omega)
    have k0 := K1.cell 0; have k1 := K1.cell 1; have k2 := K1.cell 2; have j0 := J1.cell 0; have j1 := J1.cell 1
    simp only [List.getElem?_cons_zero, List.getElem?_cons_succ] at k0 k1 k2 j0 j1
    clear hM
    go_wp2_with fail
    refine (impl_heads (t := t) hn H1 hgg.1 hgg.2).mono ?_; rintro e w2 ⟨A2, c2, rfl, ho2, hb2⟩
    have K2 := K1.up hb2
    have H2 := Lib.hid (H1.up hb2)
    have B2 := below_go B1 hb2
    have HO2 := Lib.hid ho2
    have hcap2 := ho2.cap.1
    obtain ⟨g, rfl, g0, g1, gc, _⟩ := ho2.at_ (by omega)
    have cg := gc t.size _ 0 _ (hdsL_at (by omega)) rfl
    simp only [Nat.mul_one, Nat.add_zero] at cg
    have CA : Hid (∀ u : World, Below w2.heap.size w2 u → (u.cell? ⟨w.heap.size, 0, none⟩ = some (.string nm) ∧ u.cell? ⟨w.heap.size, 1, none⟩ = some (.int .i64 st) ∧ u.cell? ⟨w.heap.size, 2, none⟩ = some (.slice A n c)) ∧ u.cell? ⟨g, t.size, none⟩ = some (.string (hdAt st l kb ks t t.size))) := Lib.hid (fun u hu => by
      have L0 := K2.up hu
      exact ⟨⟨by simpa using L0.cell 0, by simpa using L0.cell 1, by simpa using L0.cell 2⟩, (hu.cell (p := ⟨g, t.size, none⟩) g1).trans cg⟩)
    have HTK := Lib.hid (show (hdsL st l kb ks t (t.size + 1)).take t.size = hdsL st l kb ks t t.size from by
      rw [hdsL_succ, List.take_append_of_le_length (by rw [hdsL_len]; exact Nat.le_refl _), List.take_of_length_le (by rw [hdsL_len]; exact Nat.le_refl _)])
    have HST := Lib.hid (fun (u : World) (hu : Below w2.heap.size w2 u) => show Strs u (some ⟨g, 0, none⟩) (hdsL st l kb ks t t.size) from by
      have := ((HO2.out.up hu).recs).front t.size (by rw [hdsL_len]; omega)
      rwa [HTK.out] at this)
    clear k0 k1 k2 j0 j1 K1 J1 H1 hb2 gc cg ho2
    go_upto_region 4 with fail
    have C0 : Below w2.heap.size w2 w2.drew := (Below.refl _ _).drew
    have hcI : (t.size : Int) ≤ (c2 : Int) := by omega
    have hcJ : (t.size : Int) ≤ ((t.size + 1 : Nat) : Int) := by omega
    have hcK : (t.size : Int) < ((t.size + 1 : Nat) : Int) := by omega
    have hcL : (t.size : Int) < (t.size : Int) + 1 := by omega
    have hcM : (t.size : Int) ≤ (t.size : Int) + 1 := by omega
    rcases hl : nodupB (leadL st l)
    · have HF := Lib.hid (HTB.out false (by rw [hl, Bool.false_and]))
      have HL := Lib.hid hl
      clear hl
      refine wp_region_held_drew (S := fun u => (u.cell? ⟨w.heap.size, 0, none⟩ = some (.string nm) ∧ u.cell? ⟨w.heap.size, 1, none⟩ = some (.int .i64 st) ∧ u.cell? ⟨w.heap.size, 2, none⟩ = some (.slice A n c)) ∧ u.cell? ⟨g, t.size, none⟩ = some (.string (hdAt st l kb ks t t.size))) (by kernel_rfl) (CA.out _ C0) (fun hHeld => ?_)
      refine wpAnyH_take (i := 0) (oi := { dst := some 18, op := _, type := _, pos := _, after := _, guard := _ }) (v := ?_) rfl (by kernel_rfl) (by kernel_rfl) (by kernel_rfl) (fun _ _ _ h => h) (Or.inl ⟨by rfl, ?_⟩) (by assumption) ?_
      rotate_left
      · (intro w hSw; (try dsimp only at hSw); go_simp) <;> with_reducible rfl
      (try simp only [Act.put, List.setIfInBounds_toArray, List.set_cons_zero, List.set_cons_succ])
      refine wpAnyH_ready (rs := [1]) (by kernel_rfl) (by simp) ?_
      refine AllReadyH.cons (o := _) rfl (fun K hK => ?_) AllReadyH.nil
      go_simp
      refine (impl_leadTrue (nm := nm) hn (H2.out.up C0) hz hs hnm h9 hGM).mono ?_; rw [HL.out]; rintro e w3 ⟨rfl, hb3⟩
      have C3 := below_go C0 hb3
      try go_wp2_with fail
      refine hK.out _ _ (CA.out _ C3) (fun hHeld => ?_)
      clear hK K
      (try simp only [Act.put, List.setIfInBounds_toArray, List.set_cons_zero, List.set_cons_succ])
      refine wpAnyH_take (i := 2) (oi := { dst := some 20, op := _, type := _, pos := _, after := _, guard := _ }) (v := ?_) rfl (by kernel_rfl) (by kernel_rfl) (by kernel_rfl) (fun _ _ _ h => h) (Or.inl ⟨by rfl, ?_⟩) (by assumption) ?_
      rotate_left
      · (intro w hSw; (try dsimp only at hSw); go_simp) <;> with_reducible rfl
      (try simp only [Act.put, List.setIfInBounds_toArray, List.set_cons_zero, List.set_cons_succ])
      refine wpAnyH_take (i := 3) (oi := { dst := some 21, op := _, type := _, pos := _, after := _, guard := _ }) (v := undef) rfl (by kernel_rfl) (by kernel_rfl) (by kernel_rfl) (fun _ _ _ h => h) (Or.inr ⟨by rfl, rfl⟩) (by assumption) ?_
      (try simp only [Act.put, List.setIfInBounds_toArray, List.set_cons_zero, List.set_cons_succ])
      refine wpAnyH_take (i := 4) (oi := { dst := some 22, op := _, type := _, pos := _, after := _, guard := _ }) (v := undef) rfl (by kernel_rfl) (by kernel_rfl) (by kernel_rfl) (fun _ _ _ h => h) (Or.inr ⟨by rfl, rfl⟩) (by assumption) ?_
      (try simp only [Act.put, List.setIfInBounds_toArray, List.set_cons_zero, List.set_cons_succ])
      refine wpAnyH_take (i := 5) (oi := { dst := some 23, op := _, type := _, pos := _, after := _, guard := _ }) (v := undef) rfl (by kernel_rfl) (by kernel_rfl) (by kernel_rfl) (fun _ _ _ h => h) (Or.inr ⟨by rfl, rfl⟩) (by assumption) ?_
      (try simp only [Act.put, List.setIfInBounds_toArray, List.set_cons_zero, List.set_cons_succ])
      refine wpAnyH_take (i := 6) (oi := { dst := some 24, op := _, type := _, pos := _, after := _, guard := _ }) (v := undef) rfl (by kernel_rfl) (by kernel_rfl) (by kernel_rfl) (fun _ _ _ h => h) (Or.inr ⟨by rfl, rfl⟩) (by assumption) ?_
      (try simp only [Act.put, List.setIfInBounds_toArray, List.set_cons_zero, List.set_cons_succ])
      refine wpAnyH_take (i := 7) (oi := { dst := some 25, op := _, type := _, pos := _, after := _, guard := _ }) (v := undef) rfl (by kernel_rfl) (by kernel_rfl) (by kernel_rfl) (fun _ _ _ h => h) (Or.inr ⟨by rfl, rfl⟩) (by assumption) ?_
      (try simp only [Act.put, List.setIfInBounds_toArray, List.set_cons_zero, List.set_cons_succ])
      refine wpAnyH_take (i := 8) (oi := { dst := some 26, op := _, type := _, pos := _, after := _, guard := _ }) (v := undef) rfl (by kernel_rfl) (by kernel_rfl) (by kernel_rfl) (fun _ _ _ h => h) (Or.inr ⟨by rfl, rfl⟩) (by assumption) ?_
      (try simp only [Act.put, List.setIfInBounds_toArray, List.set_cons_zero, List.set_cons_succ])
      refine wpAnyH_take (i := 9) (oi := { dst := some 27, op := _, type := _, pos := _, after := _, guard := _ }) (v := undef) rfl (by kernel_rfl) (by kernel_rfl) (by kernel_rfl) (fun _ _ _ h => h) (Or.inr ⟨by rfl, rfl⟩) (by assumption) ?_
      (try simp only [Act.put, List.setIfInBounds_toArray, List.set_cons_zero, List.set_cons_succ])
      refine wpAnyH_take (i := 10) (oi := { dst := some 28, op := _, type := _, pos := _, after := _, guard := _ }) (v := undef) rfl (by kernel_rfl) (by kernel_rfl) (by kernel_rfl) (fun _ _ _ h => h) (Or.inr ⟨by rfl, rfl⟩) (by assumption) ?_
      (try simp only [Act.put, List.setIfInBounds_toArray, List.set_cons_zero, List.set_cons_succ])
      refine wpAnyH_take (i := 11) (oi := { dst := some 29, op := _, type := _, pos := _, after := _, guard := _ }) (v := undef) rfl (by kernel_rfl) (by kernel_rfl) (by kernel_rfl) (fun _ _ _ h => h) (Or.inr ⟨by rfl, rfl⟩) (by assumption) ?_
      (try simp only [Act.put, List.setIfInBounds_toArray, List.set_cons_zero, List.set_cons_succ])
      refine wpAnyH_take (i := 12) (oi := { dst := some 30, op := _, type := _, pos := _, after := _, guard := _ }) (v := undef) rfl (by kernel_rfl) (by kernel_rfl) (by kernel_rfl) (fun _ _ _ h => h) (Or.inr ⟨by rfl, rfl⟩) (by assumption) ?_
      (try simp only [Act.put, List.setIfInBounds_toArray, List.set_cons_zero, List.set_cons_succ])
      refine wpAnyH_ready (rs := [13]) (by kernel_rfl) (by simp) ?_
      refine AllReadyH.cons (o := _) rfl (fun K hK => ?_) AllReadyH.nil
      go_simp
      refine hK.out _ _ (CA.out _ C3) (fun hHeld => ?_)
      clear hK K
      (try simp only [Act.put, List.setIfInBounds_toArray, List.set_cons_zero, List.set_cons_succ])
      refine wpAnyH_ready (rs := [14]) (by kernel_rfl) (by simp) ?_
      refine AllReadyH.cons (o := _) rfl (fun K hK => ?_) AllReadyH.nil
      go_simp
      refine hK.out _ _ (CA.out _ C3) (fun hHeld => ?_)
      clear hK K
      (try simp only [Act.put, List.setIfInBounds_toArray, List.set_cons_zero, List.set_cons_succ])
      refine wpAnyH_ready (rs := [15]) (by kernel_rfl) (by simp) ?_
      refine AllReadyH.cons (o := _) rfl (fun K hK => ?_) AllReadyH.nil
      go_simp
      refine hK.out _ _ (CA.out _ C3) (fun hHeld => ?_)
      clear hK K
      (try simp only [Act.put, List.setIfInBounds_toArray, List.set_cons_zero, List.set_cons_succ])
      refine wpAnyH_take (i := 16) (oi := { dst := some 34, op := _, type := _, pos := _, after := _, guard := _ }) (v := ?_) rfl (by kernel_rfl) (by kernel_rfl) (by kernel_rfl) (fun _ _ _ h => h) (Or.inl ⟨by rfl, ?_⟩) (by assumption) ?_
      rotate_left
      · (intro w hSw; (try dsimp only at hSw); go_simp) <;> with_reducible rfl
      (try simp only [Act.put, List.setIfInBounds_toArray, List.set_cons_zero, List.set_cons_succ])
      refine wpAnyH_take (i := 17) (oi := { dst := some 6, op := _, type := _, pos := _, after := _, guard := _ }) (v := ?_) rfl (by kernel_rfl) (by kernel_rfl) (by kernel_rfl) (fun _ _ _ h => h) (Or.inl ⟨by rfl, ?_⟩) (by assumption) ?_
      rotate_left
      · (intro w hSw; (try dsimp only at hSw); go_simp) <;> with_reducible rfl
      (try simp only [Act.put, List.setIfInBounds_toArray, List.set_cons_zero, List.set_cons_succ])
      refine wpAnyH_take (i := 18) (oi := { dst := some 7, op := _, type := _, pos := _, after := _, guard := _ }) (v := ?_) rfl (by kernel_rfl) (by kernel_rfl) (by kernel_rfl) (fun _ _ _ h => h) (Or.inl ⟨by rfl, ?_⟩) (by assumption) ?_
      rotate_left
      · (intro w hSw; (try dsimp only at hSw); go_simp) <;> with_reducible rfl
      (try simp only [Act.put, List.setIfInBounds_toArray, List.set_cons_zero, List.set_cons_succ])
      refine wpAnyH_done (by kernel_rfl) ?_ _
      (try simp only [Act.put, List.setIfInBounds_toArray, List.set_cons_zero, List.set_cons_succ])
      go_wp2
      go_ret2
      exact TbR.mk _ _ rfl HGF.out HF.out (below_go B2 C3)
    · have HL := Lib.hid hl
      clear hl
      refine wp_region_held_drew (S := fun u => (u.cell? ⟨w.heap.size, 0, none⟩ = some (.string nm) ∧ u.cell? ⟨w.heap.size, 1, none⟩ = some (.int .i64 st) ∧ u.cell? ⟨w.heap.size, 2, none⟩ = some (.slice A n c)) ∧ u.cell? ⟨g, t.size, none⟩ = some (.string (hdAt st l kb ks t t.size))) (by kernel_rfl) (CA.out _ C0) (fun hHeld => ?_)
      refine wpAnyH_take (i := 0) (oi := { dst := some 18, op := _, type := _, pos := _, after := _, guard := _ }) (v := ?_) rfl (by kernel_rfl) (by kernel_rfl) (by kernel_rfl) (fun _ _ _ h => h) (Or.inl ⟨by rfl, ?_⟩) (by assumption) ?_
      rotate_left
      · (intro w hSw; (try dsimp only at hSw); go_simp) <;> with_reducible rfl
      (try simp only [Act.put, List.setIfInBounds_toArray, List.set_cons_zero, List.set_cons_succ])
      refine wpAnyH_ready (rs := [1]) (by kernel_rfl) (by simp) ?_
      refine AllReadyH.cons (o := _) rfl (fun K hK => ?_) AllReadyH.nil
      go_simp
      refine (impl_leadTrue (nm := nm) hn (H2.out.up C0) hz hs hnm h9 hGM).mono ?_; rw [HL.out]; rintro e w3 ⟨rfl, hb3⟩
      have C3 := below_go C0 hb3
      try go_wp2_with fail
      refine hK.out _ _ (CA.out _ C3) (fun hHeld => ?_)
      clear hK K
      (try simp only [Act.put, List.setIfInBounds_toArray, List.set_cons_zero, List.set_cons_succ])
      refine wpAnyH_take (i := 2) (oi := { dst := some 20, op := _, type := _, pos := _, after := _, guard := _ }) (v := ?_) rfl (by kernel_rfl) (by kernel_rfl) (by kernel_rfl) (fun _ _ _ h => h) (Or.inl ⟨by rfl, ?_⟩) (by assumption) ?_
      rotate_left
      · (intro w hSw; (try dsimp only at hSw); go_simp) <;> with_reducible rfl
      (try simp only [Act.put, List.setIfInBounds_toArray, List.set_cons_zero, List.set_cons_succ])
      refine wpAnyH_take (i := 3) (oi := { dst := some 21, op := _, type := _, pos := _, after := _, guard := _ }) (v := ?_) rfl (by kernel_rfl) (by kernel_rfl) (by kernel_rfl) (fun _ _ _ h => h) (Or.inl ⟨by rfl, ?_⟩) (by assumption) ?_
      rotate_left
      · (intro w hSw; (try dsimp only at hSw); go_simp) <;> with_reducible rfl
      (try simp only [Act.put, List.setIfInBounds_toArray, List.set_cons_zero, List.set_cons_succ])
      refine wpAnyH_take (i := 4) (oi := { dst := some 22, op := _, type := _, pos := _, after := _, guard := _ }) (v := ?_) rfl (by kernel_rfl) (by kernel_rfl) (by kernel_rfl) (fun _ _ _ h => h) (Or.inl ⟨by rfl, ?_⟩) (by assumption) ?_
      rotate_left
      · (intro w hSw; (try dsimp only at hSw); go_simp) <;> with_reducible rfl
      (try simp only [Act.put, List.setIfInBounds_toArray, List.set_cons_zero, List.set_cons_succ])
      refine wpAnyH_take (i := 5) (oi := { dst := some 23, op := _, type := _, pos := _, after := _, guard := _ }) (v := ?_) rfl (by kernel_rfl) (by kernel_rfl) (by kernel_rfl) (fun _ _ _ h => h) (Or.inl ⟨by rfl, ?_⟩) (by assumption) ?_
      rotate_left
      · (intro w hSw; (try dsimp only at hSw); go_simp) <;> with_reducible rfl
      (try simp only [Act.put, List.setIfInBounds_toArray, List.set_cons_zero, List.set_cons_succ])
      refine wpAnyH_take (i := 6) (oi := { dst := some 24, op := _, type := _, pos := _, after := _, guard := _ }) (v := ?_) rfl (by kernel_rfl) (by kernel_rfl) (by kernel_rfl) (fun _ _ _ h => h) (Or.inl ⟨by rfl, ?_⟩) (by assumption) ?_
      rotate_left
      · (intro w hSw; (try dsimp only at hSw); go_simp) <;> with_reducible rfl
      (try simp only [Act.put, List.setIfInBounds_toArray, List.set_cons_zero, List.set_cons_succ])
      refine wpAnyH_take (i := 7) (oi := { dst := some 25, op := _, type := _, pos := _, after := _, guard := _ }) (v := ?_) rfl (by kernel_rfl) (by kernel_rfl) (by kernel_rfl) (fun _ _ _ h => h) (Or.inl ⟨by rfl, ?_⟩) (by assumption) ?_
      rotate_left
      · (intro w hSw; (try dsimp only at hSw); go_simp) <;> with_reducible rfl
      (try simp only [Act.put, List.setIfInBounds_toArray, List.set_cons_zero, List.set_cons_succ])
      refine wpAnyH_take (i := 8) (oi := { dst := some 26, op := _, type := _, pos := _, after := _, guard := _ }) (v := ?_) rfl (by kernel_rfl) (by kernel_rfl) (by kernel_rfl) (fun _ _ _ h => h) (Or.inl ⟨by rfl, ?_⟩) (by assumption) ?_
      rotate_left
      · (intro w hSw; (try dsimp only at hSw); go_simp) <;> with_reducible rfl
      (try simp only [Act.put, List.setIfInBounds_toArray, List.set_cons_zero, List.set_cons_succ])
      refine wpAnyH_take (i := 9) (oi := { dst := some 27, op := _, type := _, pos := _, after := _, guard := _ }) (v := ?_) rfl (by kernel_rfl) (by kernel_rfl) (by kernel_rfl) (fun _ _ _ h => h) (Or.inl ⟨by rfl, ?_⟩) (by assumption) ?_
      rotate_left
      · (intro w hSw; (try dsimp only at hSw); go_simp) <;> with_reducible rfl
      (try simp only [Act.put, List.setIfInBounds_toArray, List.set_cons_zero, List.set_cons_succ])
      refine wpAnyH_take (i := 10) (oi := { dst := some 28, op := _, type := _, pos := _, after := _, guard := _ }) (v := ?_) rfl (by kernel_rfl) (by kernel_rfl) (by kernel_rfl) (fun _ _ _ h => h) (Or.inl ⟨by rfl, ?_⟩) (by assumption) ?_
      rotate_left
      · (intro w hSw; (try dsimp only at hSw); go_simp) <;> with_reducible rfl
      (try simp only [Act.put, List.setIfInBounds_toArray, List.set_cons_zero, List.set_cons_succ])
      refine wpAnyH_take (i := 11) (oi := { dst := some 29, op := _, type := _, pos := _, after := _, guard := _ }) (v := ?_) rfl (by kernel_rfl) (by kernel_rfl) (by kernel_rfl) (fun _ _ _ h => h) (Or.inl ⟨by rfl, ?_⟩) (by assumption) ?_
      rotate_left
      · (intro w hSw; (try dsimp only at hSw); go_simp) <;> with_reducible rfl
      (try simp only [Act.put, List.setIfInBounds_toArray, List.set_cons_zero, List.set_cons_succ])
      refine wpAnyH_take (i := 12) (oi := { dst := some 30, op := _, type := _, pos := _, after := _, guard := _ }) (v := ?_) rfl (by kernel_rfl) (by kernel_rfl) (by kernel_rfl) (fun _ _ _ h => h) (Or.inl ⟨by rfl, ?_⟩) (by assumption) ?_
      rotate_left
      · (intro w hSw; (try dsimp only at hSw); go_simp) <;> with_reducible rfl
      (try simp only [Act.put, List.setIfInBounds_toArray, List.set_cons_zero, List.set_cons_succ])
      refine wpAnyH_ready (rs := [13]) (by kernel_rfl) (by simp) ?_
      refine AllReadyH.cons (o := _) rfl (fun K hK => ?_) AllReadyH.nil
      go_simp
      refine (impl_leadsFrom (nm := nm) (kb := kb) (ks := ks) (t := t) (m := t.size) hn (H2.out.up C3) hgg.1 (HST.out _ C3) hts).mono ?_; rintro e w4 ⟨A4, m4, c4, rfl, hm4, ho4, hb4⟩
      have C4 := below_go C3 hb4
      have HO4 := Lib.hid ho4
      have hm4z : m4 ≤ 2400 := by omega
      clear ho4 hm4
      try go_wp2_with fail
      refine hK.out _ _ (CA.out _ C4) (fun hHeld => ?_)
      clear hK K
      (try simp only [Act.put, List.setIfInBounds_toArray, List.set_cons_zero, List.set_cons_succ])
      refine wpAnyH_ready (rs := [14]) (by kernel_rfl) (by simp) ?_
      refine AllReadyH.cons (o := _) rfl (fun K hK => ?_) AllReadyH.nil
      go_simp
      refine (impl_leastOnes HRW.out HM.out HTR.out HO4.out.len HO4.out.recs (by omega)).mono ?_; rintro e w5 ⟨A5, c5, rfl, ho5, hb5⟩
      have C5 := below_go C4 hb5
      have HO5 := Lib.hid ho5
      clear ho5
      try go_wp2_with fail
      refine hK.out _ _ (CA.out _ C5) (fun hHeld => ?_)
      clear hK K
      (try simp only [Act.put, List.setIfInBounds_toArray, List.set_cons_zero, List.set_cons_succ])
      refine wpAnyH_ready (rs := [15]) (by kernel_rfl) (by simp) ?_
      refine AllReadyH.cons (o := _) rfl (fun K hK => ?_) AllReadyH.nil
      go_simp
      refine (impl_isTrue HO5.out.len HO5.out.recs (by omega) HLZ.out).mono ?_; rintro e w6 ⟨rfl, hb6⟩
      have C6 := below_go C5 hb6
      try go_wp2_with fail
      refine hK.out _ _ (CA.out _ C6) (fun hHeld => ?_)
      clear hK K
      (try simp only [Act.put, List.setIfInBounds_toArray, List.set_cons_zero, List.set_cons_succ])
      refine wpAnyH_take (i := 16) (oi := { dst := some 34, op := _, type := _, pos := _, after := _, guard := _ }) (v := ?_) rfl (by kernel_rfl) (by kernel_rfl) (by kernel_rfl) (fun _ _ _ h => h) (Or.inl ⟨by rfl, ?_⟩) (by assumption) ?_
      rotate_left
      · (intro w hSw; (try dsimp only at hSw); go_simp) <;> with_reducible rfl
      (try simp only [Act.put, List.setIfInBounds_toArray, List.set_cons_zero, List.set_cons_succ])
      refine wpAnyH_take (i := 17) (oi := { dst := some 6, op := _, type := _, pos := _, after := _, guard := _ }) (v := ?_) rfl (by kernel_rfl) (by kernel_rfl) (by kernel_rfl) (fun _ _ _ h => h) (Or.inl ⟨by rfl, ?_⟩) (by assumption) ?_
      rotate_left
      · (intro w hSw; (try dsimp only at hSw); go_simp) <;> with_reducible rfl
      (try simp only [Act.put, List.setIfInBounds_toArray, List.set_cons_zero, List.set_cons_succ])
      refine wpAnyH_take (i := 18) (oi := { dst := some 7, op := _, type := _, pos := _, after := _, guard := _ }) (v := ?_) rfl (by kernel_rfl) (by kernel_rfl) (by kernel_rfl) (fun _ _ _ h => h) (Or.inl ⟨by rfl, ?_⟩) (by assumption) ?_
      rotate_left
      · (intro w hSw; (try dsimp only at hSw); go_simp) <;> with_reducible rfl
      (try simp only [Act.put, List.setIfInBounds_toArray, List.set_cons_zero, List.set_cons_succ])
      refine wpAnyH_done (by kernel_rfl) ?_ _
      (try simp only [Act.put, List.setIfInBounds_toArray, List.set_cons_zero, List.set_cons_succ])
      have HF := Lib.hid (HTB.out _ (by rw [HL.out, Bool.true_and]))
      go_wp2
      go_ret2
      exact TbR.mk _ _ rfl HGF.out HF.out (below_go B2 C6)
end Go.Proofs.YtidolgonmimicaaGreat
/- The facts that the law of parts leans on: the whole of the parts comes round, and its rows tell what the proof by parts tells. -/
namespace Go.Proofs.YtidolgonmimicaaGreat
set_option linter.unusedVariables false
set_option linter.unusedSimpArgs false
open Go.ChangeShapes Go.WideShapes Go.ChangeAt Go.RowKit Go.Deep
theorem parts_facts {nm : ByteArray} {st : Nat} {l : List ByteArray} {kb ks t W : ByteArray} {n : Nat} {x : Bool} (h : WhP nm st l kb ks t W true) (hp : PaP nm st l kb ks t n) (hx : TbP nm st l kb ks t x) :
    goodF nm (st : Int) l kb ks W = true ∧ hdAt st l kb ks W W.size = roundsS st ∧ W.size = n * t.size ∧ nodupB (tRows st l kb ks W W.size) = x ∧ W.size ≤ 60 := by
  obtain ⟨m, h1, h2, h3⟩ := h
  obtain rfl := hp.uniq h1
  rw [eq_comm, Bool.and_eq_true, decide_eq_true_iff] at h2
  obtain ⟨hgf, h60⟩ := h2
  rw [if_pos rfl] at h3
  obtain ⟨hk, hg⟩ := goodF_t' hgf
  have h38 := (goodK_all hk).1
  have hO := hp.2.1 hgf
  obtain ⟨M, hM, hxe⟩ := hx.1 hgf
  obtain rfl := hO.uniq hM
  obtain ⟨hu1, hu2, _⟩ := goodT_t hg
  have hA : Again t W n := by rw [h3]; exact rep_again t n
  have hgT : goodT W = true := by rw [h3, goodT_rep hg hO.1]; exact decide_eq_true h60
  have hs : W.size = n * t.size := hA.1
  have hrw : RowN st (hdAt st l kb ks t t.size) := hdAt_good h38.1 h38.2 l kb ks t t.size
  refine ⟨by rw [goodF, hk, hgT]; rfl, ?_, hs, ?_, by omega⟩
  · have h1n := hO.1
    have e := hd_again (l := l) (b := kb) (s := ks) h38.1 h38.2 hA (n - 1) t.size (by omega) (Nat.le_refl _)
    have e2 : (n - 1) * t.size + t.size = n * t.size := by
      rw [← Nat.succ_mul]; congr 1; omega
    rw [e2, ← hs] at e
    have e3 : timesS (pwS st (hdAt st l kb ks t t.size) (n - 1)) (hdAt st l kb ks t t.size) = pwS st (hdAt st l kb ks t t.size) (n - 1 + 1) := rfl
    rw [e, e3, show n - 1 + 1 = n by omega]
    exact hO.2.1
  · have := parts_law (l := l) (b := kb) (s := ks) h38.1 h38.2 hu1 hO hA
    rw [nodupB, ← this, hxe, nodupB, nodupB]
end Go.Proofs.YtidolgonmimicaaGreat
