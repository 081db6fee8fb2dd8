/- The laws' own conversions of [][]int: comparing, marking. -/
import Derived.Test.YtcpfcgcdahhnjaaCints
import Derived.Test.YtcpfcgcdahhnjaaTab
namespace Go.Proofs.Ytcpfcgcdahhnjaa
set_option linter.unusedVariables false
set_option linter.unusedSimpArgs false
open Go.ChangeShapes Go.WideShapes Go.ChangeAt Go.RowKit Go.Deep
set_option maxRecDepth 100000 in
theorem laws_eqIntSS (vs us : List Hd) (A C : Option Addr) (n n' c d : Nat) (T U : List (List Int)) (w : World) (hn : T.length = n) (hn' : U.length = n') (h : TabR vs w A T) (g : TabR us w C U) (hz : n ≤ 16777216) (hz' : n' ≤ 16777216) (hr : ∀ r ∈ T, r.length ≤ 16777216) (hr' : ∀ r ∈ U, r.length ≤ 16777216) :
    Calls Try.prog 30 #[.slice A n c, .slice C n' d] w fun e w' => e = .returned (.bool (decide (T = U))) ∧ Below w.heap.size w w' := by
  subst hn hn'
  by_cases hl : T.length = U.length
  · have HL := Lib.hid hl
    have HR := Lib.hid hr
    have HR' := Lib.hid hr'
    rw [← hl]
    clear hl hr hr'
    go_in
    go_wp2
    go_loopw [5] (fun i wr => ∃ k : Nat, k ≤ T.length ∧ i = .int .i64 k ∧ Hid (∀ j, j < k → T[j]? = U[j]?) ∧ Below w.heap.size w wr) (fun i _ => T.length - (intOf i).toNat)
    case atStart => exact ⟨0, Nat.zero_le _, rfl, Lib.hid (fun j hj => absurd hj (by omega)), Below.refl _ _⟩
    case round =>
      obtain ⟨k, hk, rfl, HT, hb⟩ := hrel
      by_cases hlt : k < T.length
      · have hW := h.up hb
        have gW := g.up hb
        obtain ⟨b1, o1, v, rfl, _, hv, hcx⟩ := hW.2.1.at_slc (k := k) (by rw [hW.1]; exact hlt)
        obtain ⟨b2, o2, u, rfl, _, hu, hcy⟩ := gW.2.1.at_slc (k := k) (by rw [gW.1, ← HL.out]; exact hlt)
        obtain ⟨x, hx⟩ := some_of_lt hlt
        obtain ⟨y, hy⟩ := some_of_lt (l := U) (k := k) (by rw [← HL.out]; exact hlt)
        obtain ⟨e1, r1⟩ := hW.2.2 k v x hv hx
        obtain ⟨e2, r2⟩ := gW.2.2 k u y hu hy
        rw [e1] at hcx
        rw [e2] at hcy
        have HX := Lib.hid hx
        have HY := Lib.hid hy
        have lx := HR.out x (List.mem_of_getElem? hx)
        have ly := HR'.out y (List.mem_of_getElem? hy)
        clear hx hy h g hW gW hv hu e1 e2
        by_cases exy : x = y
        · have EX := Lib.hid exy
          clear exy
          go_wp2
          go_region_held3 (fun u_1 => u_1.cell? ⟨b1, o1 + k, none⟩ = some (.slice v.1 x.length v.2.2) ∧ u_1.cell? ⟨b2, o2 + k, none⟩ = some (.slice u.1 y.length u.2.2)) (first | exact ⟨by assumption, by assumption⟩) (first | (go_at_call 20; refine (laws_eqIntS _ _ _ _ _ _ _ _ _ rfl rfl r1.drew r2.drew lx ly).mono ?_; rintro e w2 ⟨rfl, hbd⟩; rw [decide_eq_true EX.out]; have hb2 := below_of_drew hbd; have hcx := (hb2.cell (p := ⟨b1, o1 + k, none⟩) (by assumption)).trans hcx; have hcy := (hb2.cell (p := ⟨b2, o2 + k, none⟩) (by assumption)).trans hcy))
          have hb3 := hb.trans (hb2.mono hb.size)
          go_wp2
          go_roundw
          case rel => exact ⟨k + 1, by omega, by go_num, Lib.hid (upto_succ HT.out (by rw [HX.out, HY.out, EX.out])), hb3⟩
          case measure => simp [intOf]; omega
        · have EX := Lib.hid exy
          clear exy
          go_wp2
          go_region_held3 (fun u_1 => u_1.cell? ⟨b1, o1 + k, none⟩ = some (.slice v.1 x.length v.2.2) ∧ u_1.cell? ⟨b2, o2 + k, none⟩ = some (.slice u.1 y.length u.2.2)) (first | exact ⟨by assumption, by assumption⟩) (first | (go_at_call 20; refine (laws_eqIntS _ _ _ _ _ _ _ _ _ rfl rfl r1.drew r2.drew lx ly).mono ?_; rintro e w2 ⟨rfl, hbd⟩; rw [decide_eq_false EX.out]; have hb2 := below_of_drew hbd; have hcx := (hb2.cell (p := ⟨b1, o1 + k, none⟩) (by assumption)).trans hcx; have hcy := (hb2.cell (p := ⟨b2, o2 + k, none⟩) (by assumption)).trans hcy))
          have hb3 := hb.trans (hb2.mono hb.size)
          go_wp2
          go_ret
          refine ⟨ret_bool ?_, hb3⟩
          have hd : T ≠ U := fun e => EX.out (by
            have h1 := HX.out
            rw [e, HY.out] at h1
            injection h1 with h1
            exact h1.symm)
          simp [hd]
      · go_wp2
        go_ret
        refine ⟨ret_bool ?_, hb⟩
        have hd : T = U := eq_of_upto (fun j hj => HT.out j hj) (by omega) (by have := HL.out; omega)
        simp [hd]
  · have hne : ((T.length : Int) != (U.length : Int)) = true := by simp; omega
    have hd : T ≠ U := fun e => hl (by rw [e])
    have HD := Lib.hid hd
    clear hd hl
    go_in
    go_wp2
    go_ret
    refine ⟨ret_bool ?_, by (repeat' (first | (with_reducible exact Below.refl _ _) | (with_reducible assumption) | (with_reducible refine below_drewN ?_ _) | (with_reducible refine Below.drew ?_) | (with_reducible refine below_alloc ?_ _) | (with_reducible refine Below.alloc ?_ ?_ _) | (with_reducible refine Below.setCell ?_ ?_ _) | (with_reducible refine below_go ?_ (by with_reducible assumption)) | (with_reducible refine below_then (by with_reducible assumption) ?_ ?_) | go_size))⟩
    simp [HD.out]
/-- How many numbers stand in the rows before row i. -/
def offs (T : List (List Int)) (i : Nat) : Nat := ((T.take i).map List.length).sum
theorem offs_zero (T : List (List Int)) : offs T 0 = 0 := by simp [offs]
theorem offs_succ {T : List (List Int)} {i : Nat} {r : List Int} (h : T[i]? = some r) : offs T (i + 1) = offs T i + r.length := by
  rw [offs, take_succ_some h, List.map_append, List.sum_append]; simp [offs]
theorem offs_bd {T : List (List Int)} {B : Nat} (h : ∀ r ∈ T, r.length ≤ B) : ∀ i, i ≤ T.length → offs T i ≤ i * B
  | 0, _ => by simp [offs_zero]
  | i + 1, hi => by
    obtain ⟨r, hr⟩ := some_of_lt (l := T) (k := i) (by omega)
    have h1 := offs_bd h i (by omega)
    have h2 := h r (List.mem_of_getElem? hr)
    rw [offs_succ hr, Nat.succ_mul]; omega
/-- The marks that row i gets. -/
def markRow (T : List (List Int)) (k0 : Int) (i : Nat) : List Int := (List.range (T[i]?.getD []).length).map (markInt (k0 + (offs T i : Nat)))
theorem markRow_eq {T : List (List Int)} {k0 : Int} {i : Nat} {r : List Int} (h : T[i]? = some r) : markRow T k0 i = (List.range r.length).map (markInt (k0 + (offs T i : Nat))) := by simp [markRow, h]
/-- Rows below k are marked, the others as they were. -/
def markUpto (T : List (List Int)) (k0 : Int) (k : Nat) : List (List Int) := (List.range T.length).map fun i => if i < k then markRow T k0 i else T[i]?.getD []
theorem markUpto_len (T : List (List Int)) (k0 : Int) (k : Nat) : (markUpto T k0 k).length = T.length := by simp [markUpto]
theorem markUpto_zero (T : List (List Int)) (k0 : Int) : markUpto T k0 0 = T := by
  apply List.ext_getElem?
  intro i
  by_cases hi : i < T.length
  · simp [markUpto, hi]
  · simp [markUpto, hi]
theorem markUpto_at {T : List (List Int)} {k0 : Int} {k i : Nat} (hi : i < T.length) : (markUpto T k0 k)[i]? = some (if i < k then markRow T k0 i else T[i]?.getD []) := by simp [markUpto, hi]
set_option maxRecDepth 100000 in
theorem laws_markIntSS (vs : List Hd) (A : Option Addr) (n c base : Nat) (T : List (List Int)) (k0 : Int) (w : World) (h : Tab vs w base A n c T) (hbase : base ≤ w.heap.size) (hz : n ≤ 1000) (hr : ∀ r ∈ T, r.length ≤ 1000) (hk0 : 0 ≤ k0 ∧ k0 ≤ 16777216) :
    Calls Try.prog 31 #[.slice A n c, .int .i64 k0] w fun e w' => e = .returned (.int .i64 (k0 + (offs T n : Nat))) ∧ Tab vs w' base A n c (markUpto T k0 n) ∧ Below base w w' := by
  have hl := h.len
  have hob : ∀ i, i ≤ n → offs T i ≤ 1000000 := fun i hi => by
    have h1 := offs_bd hr i (by omega)
    have h2 : i * 1000 ≤ 1000 * 1000 := Nat.mul_le_mul_right _ (by omega)
    omega
  have HR := Lib.hid hr
  clear hr
  go_in
  go_wp2
  go_loopw [5, 1] (fun p q wr => ∃ (i : Nat), i ≤ n ∧ p = .int .i64 i ∧ q = .int .i64 (k0 + (offs T i : Nat)) ∧ Tab vs wr base A n c (markUpto T k0 i) ∧ Below base w wr) (fun p _ _ => n - (intOf p).toNat)
  case atStart => exact ⟨0, Nat.zero_le _, rfl, by simp [offs_zero], by rw [markUpto_zero]; exact h, Below.refl _ _⟩
  case round =>
    obtain ⟨i, hi, rfl, rfl, hT, hb⟩ := hrel
    have ho1 := hob i hi
    by_cases hlt : i < n
    · obtain ⟨r, hr⟩ := some_of_lt (l := T) (k := i) (by omega)
      have hrl := HR.out r (List.mem_of_getElem? hr)
      have hmr := markUpto_at (T := T) (k0 := k0) (k := i) (i := i) (by omega)
      rw [if_neg (by omega), hr] at hmr
      obtain ⟨b1, o1, v, rfl, _, hv, hcx⟩ := hT.top.recs.at_slc (k := i) (by rw [hT.top.len]; exact hlt)
      have hrow := hT.row i v r hv hmr
      have e1 := hrow.len
      have ES := Lib.hid (offs_succ hr)
      have ER := Lib.hid (markRow_eq (k0 := k0) hr)
      have HT := Lib.hid hT
      have hV := Lib.hid hv
      clear hr hv hmr hT h
      go_wp2_with (first | (go_at_call 23; refine (laws_markIntS _ _ _ _ _ _ _ hrow (Nat.le_trans hbase hb.size) (by omega) (by omega)).mono ?_; rintro e w1 ⟨rfl, ho, hg, hb1⟩))
      go_roundw
      case rel =>
        refine ⟨i + 1, by omega, by go_num, by rw [ES.out, e1]; go_num, ?_, hb.trans hb1⟩
        refine ⟨by rw [markUpto_len]; exact hl, ?_, fun k v' r' hv' hr' => ?_, HT.out.off, HT.out.two⟩
        · refine HT.out.top.same fun g hgb => ?_
          refine hg.block g (HT.out.top.blk hgb).2 (fun e => ?_)
          exact HT.out.off i v hV.out g e.symm hgb
        · have hk : k < T.length := by rw [hl, ← HT.out.top.len]; exact (List.getElem?_eq_some_iff.1 hv').1
          rw [markUpto_at hk] at hr'
          injection hr' with hr'
          by_cases ek : k = i
          · subst ek
            rw [hV.out] at hv'
            injection hv' with hv'
            subst hv'
            rw [if_pos (by omega), ER.out] at hr'
            subst hr'
            rw [e1]
            exact ho
          · have hold := HT.out.row k v' _ hv' (markUpto_at hk)
            have e3 : (if k < i + 1 then markRow T k0 k else T[k]?.getD []) = (if k < i then markRow T k0 k else T[k]?.getD []) := by
              by_cases hki : k < i
              · rw [if_pos hki, if_pos (by omega)]
              · rw [if_neg hki, if_neg (by omega)]
            rw [e3] at hr'
            subst hr'
            refine hold.same fun g hgb => hg.block g (hold.blk hgb).2 (fun e => ?_)
            exact HT.out.two i k v v' (fun e4 => ek e4.symm) hV.out hv' g e.symm hgb
      case measure => simp [intOf]; omega
    · go_wp2
      go_ret
      obtain rfl : i = n := by omega
      exact ⟨rfl, hT, hb⟩
set_option maxRecDepth 100000 in
theorem laws_heldIntSS (vs : List Hd) (A : Option Addr) (n c base : Nat) (T : List (List Int)) (k0 : Int) (w : World) (h : Tab vs w base A n c (markUpto T k0 n)) (hl : T.length = n) (hz : n ≤ 1000) (hr : ∀ r ∈ T, r.length ≤ 1000) (hk0 : 0 ≤ k0 ∧ k0 ≤ 16777216) :
    Calls Try.prog 32 #[.slice A n c, .int .i64 k0] w fun e w' => e = .returned (.int .i64 (k0 + (offs T n : Nat))) ∧ w = w' := by
  have hob : ∀ i, i ≤ n → offs T i ≤ 1000000 := fun i hi => by
    have h1 := offs_bd hr i (by omega)
    have h2 : i * 1000 ≤ 1000 * 1000 := Nat.mul_le_mul_right _ (by omega)
    omega
  have HR := Lib.hid hr
  clear hr
  go_in
  go_wp2
  go_loop [5, 1] (fun p q => ∃ i : Nat, i ≤ n ∧ p = .int .i64 i ∧ q = .int .i64 (k0 + (offs T i : Nat))) (fun p _ => n - (intOf p).toNat)
  case atStart => exact ⟨0, Nat.zero_le _, rfl, by simp [offs_zero]⟩
  case round =>
    obtain ⟨i, hi, rfl, rfl⟩ := hrel
    have ho1 := hob i hi
    by_cases hlt : i < n
    · obtain ⟨r, hr⟩ := some_of_lt (l := T) (k := i) (by omega)
      have hrl := HR.out r (List.mem_of_getElem? hr)
      have hmr := markUpto_at (T := T) (k0 := k0) (k := n) (i := i) (by omega)
      rw [if_pos hlt, markRow_eq hr] at hmr
      obtain ⟨b1, o1, v, rfl, _, hv, hcx⟩ := h.top.recs.at_slc (k := i) (by rw [h.top.len]; exact hlt)
      have hrow := h.row i v _ hv hmr
      have e1 : v.2.1 = r.length := by rw [← hrow.len]; simp
      rw [e1] at hcx
      have hrec := hrow.recs
      have ES := Lib.hid (offs_succ hr)
      clear hr hv hmr h hrow e1
      go_wp2_with (first | (go_at_call 24; refine (laws_heldIntS _ _ _ _ _ hrec (by omega) (by omega)).mono ?_; rintro e w' ⟨rfl, rfl⟩))
      go_round
      case rel => exact ⟨i + 1, by omega, by go_num, by rw [ES.out]; go_num⟩
      case measure => simp [intOf]; omega
    · go_wp2
      go_ret
      obtain rfl : i = n := by omega
      exact ⟨rfl, rfl⟩
end Go.Proofs.Ytcpfcgcdahhnjaa
