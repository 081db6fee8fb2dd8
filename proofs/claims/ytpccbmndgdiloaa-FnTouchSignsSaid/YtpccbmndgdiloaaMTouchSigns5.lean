/- Texts 5 of 5 that the claim leans on: plain laws and the walks' contracts, in order. -/
import Derived.Test.YtpccbmndgdiloaaMTouchSigns4
/- Chapter 17 as plain functions: the inverse of a row, the powers of a row, Q-sets. -/
namespace Go.Proofs.Ytpccbmndgdiloaa
set_option linter.unusedVariables false
set_option linter.unusedSimpArgs false
open Go.ChangeShapes Go.WideShapes Go.ChangeAt Go.RowKit Go.Deep
theorem nodup_of {α : Type} {l : List α} (h : ∀ i j, i < j → j < l.length → l[i]? ≠ l[j]?) : l.Nodup :=
  List.pairwise_iff_getElem.2 fun i j hi hj hij e => h i j hij hj (by rw [List.getElem?_eq_getElem hi, List.getElem?_eq_getElem hj, e])
/-- m is the inverse of a, written in bytes. -/
def TurnOf (a : ByteArray) (m : List Int) : Prop := m.length = a.size ∧ ∀ i, i < a.size → m[(PlainAid.bt a i - 49).toNat]? = some (49 + (i : Int))
theorem row_at {a : ByteArray} (h : goodRow a = true) {i : Nat} (hi : i < a.size) : 49 ≤ PlainAid.bt a i ∧ PlainAid.bt a i ≤ 48 + (a.size : Int) := by
  have := (goodRow_list h).2 _ (List.mem_of_getElem? (nums_at hi))
  rwa [nums_len] at this
theorem row_inj {a : ByteArray} (h : goodRow a = true) {i j : Nat} (hi : i < a.size) (hj : j < a.size) (e : PlainAid.bt a i = PlainAid.bt a j) : i = j := by
  have hn := (goodRow_list h).1
  have h1 := nums_at hi
  have h2 := nums_at hj
  rw [e] at h1
  exact (List.getElem?_inj (by rw [nums_len]; exact hi) hn).1 (h1.trans h2.symm)
theorem row_hit {a : ByteArray} (h : goodRow a = true) {j : Nat} (hj : j < a.size) : ∃ i, i < a.size ∧ PlainAid.bt a i = 49 + (j : Int) := by
  have hm : (49 + (j : Int)) ∈ nums a := (isRowL_mem (goodRow_list h)).2 (by rw [nums_len]; omega)
  obtain ⟨i, hi⟩ := List.getElem?_of_mem hm
  have hl := (List.getElem?_eq_some_iff.1 hi).1
  rw [nums_len] at hl
  rw [nums_at hl] at hi
  injection hi with hi
  exact ⟨i, hl, hi⟩
theorem TurnOf.uniq {a : ByteArray} {m l : List Int} (h : goodRow a = true) (hm : TurnOf a m) (hl : TurnOf a l) : m = l := by
  refine eq_of_upto (k := a.size) (fun j hj => ?_) hm.1 hl.1
  obtain ⟨i, hi, e⟩ := row_hit h hj
  have h1 := hm.2 i hi
  have h2 := hl.2 i hi
  rw [e, show ((49 : Int) + (j : Int) - 49).toNat = j by omega] at h1 h2
  rw [h1, h2]
/-- The inverse of a row. -/
noncomputable def turnS (a : ByteArray) : ByteArray := by
  classical exact if h : ∃ m, TurnOf a m then strOfNums h.choose else ByteArray.empty
theorem turn_eq {a : ByteArray} {m : List Int} (h : goodRow a = true) (hm : TurnOf a m) : turnS a = strOfNums m := by
  have he : ∃ m, TurnOf a m := ⟨m, hm⟩
  rw [turnS, dif_pos he, TurnOf.uniq h he.choose_spec hm]
theorem turn_row {a : ByteArray} {m : List Int} (h : goodRow a = true) (hm : TurnOf a m) : RowN a.size (turnS a) := by
  have hn := goodRow_n h
  have hv : ∀ j, j < a.size → ∃ i, i < a.size ∧ PlainAid.bt a i = 49 + (j : Int) ∧ m[j]? = some (49 + (i : Int)) := fun j hj => by
    obtain ⟨i, hi, e⟩ := row_hit h hj
    have h1 := hm.2 i hi
    rw [e, show ((49 : Int) + (j : Int) - 49).toNat = j by omega] at h1
    exact ⟨i, hi, e, h1⟩
  have hr : isRowL m := by
    constructor
    · refine nodup_of ?_
      intro i j hij hj hc
      rw [hm.1] at hj
      obtain ⟨p, _, ep, e1⟩ := hv i (by omega)
      obtain ⟨q, _, eq, e2⟩ := hv j hj
      rw [e1, e2] at hc
      injection hc with hc
      have : p = q := by omega
      subst this
      omega
    · intro z hz
      obtain ⟨j, hj⟩ := List.getElem?_of_mem hz
      have hl := (List.getElem?_eq_some_iff.1 hj).1
      rw [hm.1] at hl
      obtain ⟨p, hp, _, e1⟩ := hv j hl
      rw [e1] at hj
      injection hj with hj
      rw [hm.1]; omega
  have hb := rowL_bytes hr (by rw [hm.1]; omega)
  have hs : (strOfNums m).size = a.size := by rw [strOfNums_size, hm.1]
  rw [turn_eq h hm]
  exact ⟨goodRow_of (by rw [hs]; omega) (by rw [nums_strOf hb]; exact hr), hs⟩
/-! products -/
theorem times_at {a b : ByteArray} {n k : Nat} (ha : RowN n a) (hb : RowN n b) (hk : k < n) : PlainAid.bt (timesS a b) k = PlainAid.bt a (PlainAid.bt b k - 49).toNat := by
  have h1 := timesL_at (a := a) (b := b) (k := k) (by rw [hb.2]; exact hk)
  rw [← nums_times ha.1 hb.1 (by rw [ha.2, hb.2]), nums_at (by rw [(ha.times hb).2]; exact hk)] at h1
  injection h1
theorem row_ext {a b : ByteArray} (e : a.size = b.size) (h : ∀ k, k < a.size → PlainAid.bt a k = PlainAid.bt b k) : a = b := by
  refine nums_inj (eq_of_upto (k := a.size) (fun j hj => ?_) (nums_len a) (by rw [nums_len, e]))
  rw [nums_at hj, nums_at (by rw [← e]; exact hj), h j hj]
theorem times_cancel {x y q : ByteArray} {n : Nat} (hx : RowN n x) (hy : RowN n y) (hq : RowN n q) (e : timesS x q = timesS y q) : x = y := by
  refine row_ext (by rw [hx.2, hy.2]) fun k hk => ?_
  rw [hx.2, ← hq.2] at hk
  obtain ⟨i, hi, e1⟩ := row_hit hq.1 hk
  rw [hq.2] at hi
  have h1 := times_at hx hq hi
  have h2 := times_at hy hq hi
  rw [e1, show ((49 : Int) + (k : Int) - 49).toNat = k by omega] at h1 h2
  rw [← h1, ← h2, e]
theorem rounds_bt {n k : Nat} (h8 : n < 9) (hk : k < n) : PlainAid.bt (roundsS n) k = 49 + (k : Int) := by
  have h1 := nums_at (s := roundsS n) (k := k) (by rw [rounds_size _ h8]; exact hk)
  rw [rowV_nil _ h8] at h1
  have h2 : (rowV n [])[k]? = some (49 + (k : Int)) := by
    rw [rowV, List.getElem?_map, List.getElem?_range hk]
    simp [cval]
    try omega
  rw [h2] at h1
  injection h1 with h1
  exact h1.symm
theorem rounds_times {q : ByteArray} {n : Nat} (hq : RowN n q) : timesS (roundsS n) q = q := by
  have hs := hq.st
  have hr := rowN_rounds hs.1 hs.2
  refine row_ext (by rw [(hr.times hq).2, hq.2]) fun k hk => ?_
  rw [(hr.times hq).2] at hk
  have h1 := row_at hq.1 (i := k) (by rw [hq.2]; exact hk)
  rw [hq.2] at h1
  rw [times_at hr hq hk, rounds_bt (by omega) (by omega)]
  omega
/-- The powers of a row. -/
def pwS (n : Nat) (q : ByteArray) : Nat → ByteArray
  | 0 => roundsS n
  | k + 1 => timesS (pwS n q k) q
theorem pw_row {n : Nat} {q : ByteArray} (hq : RowN n q) : ∀ k, RowN n (pwS n q k)
  | 0 => rowN_rounds hq.st.1 hq.st.2
  | k + 1 => (pw_row hq k).times hq
theorem pw_one {n : Nat} {q : ByteArray} (hq : RowN n q) : pwS n q 1 = q := rounds_times hq
theorem pw_eq {n : Nat} {q : ByteArray} (hq : RowN n q) : ∀ i d, pwS n q i = pwS n q (i + d) → pwS n q d = roundsS n
  | 0, d, h => by rw [Nat.zero_add] at h; exact h.symm
  | i + 1, d, h => by
    rw [Nat.add_right_comm] at h
    exact pw_eq hq i d (times_cancel (pw_row hq i) (pw_row hq (i + d)) hq h)
def pwL (n : Nat) (q : ByteArray) (m : Nat) : List ByteArray := (List.range m).map (pwS n q)
theorem pwL_len (n : Nat) (q : ByteArray) (m : Nat) : (pwL n q m).length = m := by simp [pwL]
theorem pwL_succ (n : Nat) (q : ByteArray) (m : Nat) : pwL n q (m + 1) = pwL n q m ++ [pwS n q m] := by rw [pwL, List.range_succ, List.map_append]; rfl
theorem pwL_le {n m : Nat} {q : ByteArray} (hq : RowN n q) (h : ∀ k, 1 ≤ k → k < m → pwS n q k ≠ roundsS n) : m ≤ fact n := by
  have h1 : (pwL n q m).Nodup := by
    rw [pwL]; refine nodup_of ?_
    intro i j hij hj hc
    rw [List.length_map, List.length_range] at hj
    rw [List.getElem?_map, List.getElem?_map, List.getElem?_range (by omega), List.getElem?_range hj] at hc
    injection hc with hc
    refine h (j - i) (by omega) (by omega) (pw_eq hq i (j - i) ?_)
    rw [hc, show i + (j - i) = j by omega]
  have h2 := rows_le h1 (n := n) (fun s hs => by
    rw [pwL, List.mem_map] at hs
    obtain ⟨k, _, rfl⟩ := hs
    exact pw_row hq k)
  rwa [pwL_len] at h2
/-- A row of rows that has with each of its rows the next one by q. -/
def closedB (q : ByteArray) (B : List ByteArray) : Bool := B.all fun h => inL B (timesS h q)
theorem closed_pw {n : Nat} {q : ByteArray} {B : List ByteArray} (hq : RowN n q) (hB : ∀ h ∈ B, RowN n h) (hc : closedB q B = true) {h : ByteArray} (hh : h ∈ B) : ∀ k, timesS h (pwS n q k) ∈ B
  | 0 => by
    have h1 := times_rounds (hB h hh).1
    rw [(hB h hh).2] at h1
    rw [pwS, h1]; exact hh
  | k + 1 => by
    have ih := closed_pw hq hB hc hh k
    have hp := pw_row hq k
    rw [pwS, times_assoc (hB h hh).1 hp.1 hq.1 (by rw [(hB h hh).2, hp.2]) (by rw [hp.2, hq.2])]
    exact inL_iff.1 (List.all_eq_true.1 hc _ ih)
theorem closed_of {n m : Nat} {q : ByteArray} {B : List ByteArray} (hq : RowN n q) (hB : ∀ h ∈ B, RowN n h) (hm : 1 ≤ m) (hr : pwS n q m = roundsS n) (h : ∀ x ∈ B, ∀ k, k < m → timesS x (pwS n q k) ∈ B) : closedB q B = true := by
  rw [closedB, List.all_eq_true]
  intro x hx
  rw [inL_iff]
  by_cases h1 : 1 < m
  · have := h x hx 1 h1
    rwa [pw_one hq] at this
  · obtain rfl : m = 1 := by omega
    have h2 := times_rounds (hB x hx).1
    rw [(hB x hx).2] at h2
    rw [← pw_one hq, hr, h2]; exact hx
/-- Whether some are rising rows of a group. -/
def rowsInB (G B : List ByteArray) : Bool := B.all (inL G) && incB B
theorem inc_srt {B : List ByteArray} (h : incB B = true) : Srt B := by
  have h1 : ∀ i, i + 1 < B.length → ∀ x y, B[i]? = some x → B[i + 1]? = some y → less x y = true := fun i hi x y hx hy => by
    have := List.all_eq_true.1 h (i + 1) (List.mem_range.2 hi)
    simpa [okInc, List.getD, hx, hy] using this
  have h2 : ∀ (d i : Nat) (x y : ByteArray), B[i]? = some x → B[i + d + 1]? = some y → less x y = true := by
    intro d
    induction d with
    | zero => intro i x y hx hy; exact h1 i (List.getElem?_eq_some_iff.1 hy).1 x y hx hy
    | succ d ih =>
      intro i x y hx hy
      have hl := (List.getElem?_eq_some_iff.1 hy).1
      obtain ⟨z, hz⟩ : ∃ z, B[i + d + 1]? = some z := ⟨_, List.getElem?_eq_getElem (by omega)⟩
      exact less_trans (ih i x z hx hz) (h1 (i + d + 1) (by omega) z y hz hy)
  rw [Srt, List.pairwise_iff_getElem]
  intro i j hi hj hij
  have := h2 (j - i - 1) i _ _ (List.getElem?_eq_getElem hi) (by rw [show i + (j - i - 1) + 1 = j by omega]; exact List.getElem?_eq_getElem hj)
  rw [leS]
  rcases hc : less B[j] B[i] with _ | _
  · rfl
  · have := less_trans this hc
    rw [less_irr] at this; cases this
end Go.Proofs.Ytpccbmndgdiloaa
/- The walks through TouchEnd, IsEven, ChangeRow and the comparison of lists of truth values. -/
namespace Go.Proofs.Ytpccbmndgdiloaa
set_option linter.unusedVariables false
set_option linter.unusedSimpArgs false
open Go.ChangeShapes Go.WideShapes Go.ChangeAt Go.RowKit Go.Deep
theorem even_ch {n : Nat} {c : ByteArray} (h3 : 3 ≤ n) (h8 : n ≤ 8) : evenRow (chRow n c) = evenSwaps n c := by
  have g := good_rounds n (by omega) h3
  have s := rounds_size n (by omega)
  have e := sign_apply g c
  rw [s] at e
  have e2 : applyR (roundsS n) c = chRow n c := by
    rw [applyR, s]
    exact rounds_times ⟨good_ch ⟨h3, h8⟩ c, chRow_size n c⟩
  rw [e2] at e
  have e3 : ∀ n : Nat, n < 9 → 3 ≤ n → evenRow (roundsS n) = true := by decide +kernel
  rw [e, e3 n (by omega) h3]
  simp
theorem impl_IsEven {s : ByteArray} {w : World} (hz : s.size ≤ 16777216) (hg : goodRow s = true) :
    Calls Try.prog 13 #[.string s] w fun e w' => e = .returned (.tuple #[.bool (evenRow s), .bool true]) ∧ Below w.heap.size w w' := by
  have HG := Lib.hid hg
  clear hg
  go_in
  go_wp2_with fail
  refine (impl_GoodRow hz).mono ?_; rw [HG.out]; rintro e w' ⟨rfl, rfl⟩
  go_wp2_with fail
  refine (impl_even hz).mono ?_; rintro e w1 ⟨rfl, hb1⟩
  go_wp2
  go_ret2
  exact ⟨rfl, hb1⟩
theorem impl_ChangeRow {c : ByteArray} {n : Nat} {w : World} (hz : c.size ≤ 16777216) (hg : goodChange n c = true) :
    Calls Try.prog 21 #[.int .i64 n, .string c] w fun e w' => e = .returned (.tuple #[.string (chRow n c), .bool true]) ∧ Below w.heap.size w w' := by
  have HG := Lib.hid hg
  have hn : 3 ≤ n ∧ n ≤ 8 := by
    rw [goodChange, Bool.and_eq_true, Bool.and_eq_true] at hg
    have := inB_t hg.1.1
    omega
  have hv : isDash c = true ∨ validD c = true := by
    rcases hd : isDash c
    · right
      have := good_impl (n := n) (c := c) (by omega) hd
      rw [hg] at this
      exact (Bool.and_eq_true _ _ ▸ this.symm : validD c = true ∧ _).1
    · left; rfl
  clear hg
  go_in
  go_wp2_with fail
  refine (impl_GoodChange hz).mono ?_; rw [HG.out]; rintro e w1 ⟨rfl, hb1⟩
  go_wp2_with fail
  refine (impl_changeRow hz hn.2 hv).mono ?_; rintro e w2 ⟨rfl, hb2⟩
  go_wp2
  go_ret2
  exact ⟨rfl, below_go hb1 hb2⟩
set_option maxHeartbeats 1000000 in
theorem impl_TouchEnd {A : Option Addr} {n c st : Nat} {nm : ByteArray} {l : List ByteArray} {kb ks : ByteArray} {t : ByteArray} {w : World} (hn : l.length = n) (h : Strs w A l) (hk : goodK nm (st : Int) l kb ks = true) (hg : goodT t = true) :
    Calls Try.prog 12 #[.agg #[.string nm, .int .i64 st, .slice A n c], .agg #[.string kb, .string ks], .string t] w fun e w' => e = .returned (.tuple #[.string (hdAt st l kb ks t t.size), .bool true]) ∧ Below w.heap.size w w' := by
  have b0 : Below w.heap.size w ((w.alloc (.cells ⟨[.string nm, .int .i64 st, .slice A n c]⟩ 26)).alloc (.cells ⟨[.string kb, .string ks]⟩ 28)) := by (repeat' (first | (with_reducible exact Below.refl _ _) | (with_reducible assumption) | (with_reducible refine below_drewN ?_ _) | (with_reducible refine Below.drew ?_) | (with_reducible refine below_alloc ?_ _) | (with_reducible refine Below.alloc ?_ ?_ _) | (with_reducible refine Below.setCell ?_ ?_ _) | (with_reducible refine below_go ?_ (by with_reducible assumption)) | (with_reducible refine below_then (by with_reducible assumption) ?_ ?_) | go_size))
  have K0 := (Blk.at_ w 26 [.string nm, .int .i64 st, .slice A n c] (b := w.heap.size) rfl).alloc (.cells ⟨[.string kb, .string ks]⟩ 28)
  have K1 := Blk.at_ (w.alloc (.cells ⟨[.string nm, .int .i64 st, .slice A n c]⟩ 26)) 28 [.string kb, .string ks] (b := w.heap.size + 1) (by simp)
  have hF : goodF nm (st : Int) l kb ks t = true := by rw [goodF, hk, hg]; rfl
  have HF := Lib.hid hF
  have ht := (goodT_t hg).2.1
  have hz := goodK_all hk
  have hsz : ∀ s ∈ l, s.size ≤ 16777216 := fun s hs => by
    rcases q : sizeOk st s
    · have := hz.2.2.1 s hs; rw [goodChange_size q] at this; cases this
    · have := sizeOk_t q; omega
  have hbz : kb.size ≤ 16777216 := by
    rcases q : sizeOk st kb
    · have := hz.2.2.2.1; rw [goodChange_size q] at this; cases this
    · have := sizeOk_t q; omega
  have hszz : ks.size ≤ 16777216 := by
    rcases q : sizeOk st ks
    · have := hz.2.2.2.2; rw [goodChange_size q] at this; cases this
    · have := sizeOk_t q; omega
  have hnm : nm.size ≤ 16777216 := by
    have := (goodM_t (goodK_t hk).1).1
    rw [nameOk, Bool.and_eq_true] at this
    have := inB_t this.2
    omega
  have HSZ := Lib.hid hsz
  have HK := Lib.hid hk
  have HG := Lib.hid hg
  clear hF hsz hk hg
  go_in
  go_wp2_with fail
  obtain ⟨w0, hw0⟩ : ∃ u, u = ((w.alloc (.cells #[.string nm, .int .i64 st, .slice A n c] 26)).alloc (.cells #[.string kb, .string ks] 28)) := ⟨_, rfl⟩
  rw [← hw0] at b0 K0 K1 ⊢
  clear hw0
  refine (impl_goodFor hn (h.up b0) (by omega) HSZ.out hnm (by unfold I64; omega) hbz hszz (by omega)).mono ?_; rw [HF.out]; rintro e w1 ⟨rfl, hb1⟩
  have hB1 := below_go b0 hb1
  have L0 := K0.up hb1; have L1 := K1.up hb1
  have k0 := L0.cell 0; have k1 := L0.cell 1; have k2 := L0.cell 2; have q0 := L1.cell 0; have q1 := L1.cell 1
  simp only [List.getElem?_cons_zero, List.getElem?_cons_succ] at k0 k1 k2 q0 q1
  go_wp2_with fail
  refine (impl_touchEnd hn (h.up hB1) HK.out HG.out).mono ?_; rintro e w2 ⟨rfl, hb2⟩
  go_wp2
  go_ret2
  exact ⟨rfl, below_go hB1 hb2⟩
set_option maxRecDepth 100000 in
theorem laws_sameBools {A B : Option Addr} {n c d : Nat} {l : List Bool} {w : World} (hn : l.length = n) (h : Bools w A l) (g : Bools w B l) (hz : n ≤ 16777216) :
    Calls Try.prog 20 #[.slice A n c, .slice B n d] w fun e w' => e = .returned (.bool true) ∧ Below w.heap.size w w' := by
  subst hn
  go_in
  go_wp2
  go_loopw [13] (fun i wr => ∃ k : Nat, k ≤ l.length ∧ i = .int .i64 k ∧ Below w.heap.size w wr) (fun i _ => l.length - (intOf i).toNat)
  case atStart => exact ⟨0, Nat.zero_le _, rfl, Below.refl _ _⟩
  case round =>
    obtain ⟨k, hk, rfl, hb⟩ := hrel
    by_cases hlt : k < l.length
    · obtain ⟨b1, o1, x, rfl, _, hx, hcx⟩ := (h.below hb (Nat.le_refl _)).at_bool hlt
      obtain ⟨b2, o2, y, rfl, _, hy, hcy⟩ := (g.below hb (Nat.le_refl _)).at_bool hlt
      rw [hx] at hy
      injection hy with hy
      subst hy
      have hxx : (x == x) = true := by simp
      clear hx h g
      go_wp2
      go_quiet (fail)
      go_wp2
      go_roundw
      case rel => exact ⟨k + 1, by omega, by go_num, by (repeat' (first | (with_reducible exact Below.refl _ _) | (with_reducible assumption) | (with_reducible refine below_drewN ?_ _) | (with_reducible refine Below.drew ?_) | (with_reducible refine below_alloc ?_ _) | (with_reducible refine Below.alloc ?_ ?_ _) | (with_reducible refine Below.setCell ?_ ?_ _) | (with_reducible refine below_go ?_ (by with_reducible assumption)) | (with_reducible refine below_then (by with_reducible assumption) ?_ ?_) | go_size))⟩
      case measure => simp [intOf]; omega
    · go_wp2
      go_ret
      exact ⟨rfl, hb⟩
end Go.Proofs.Ytpccbmndgdiloaa
/- The walk through FnTouchSigns: for all bytes the law answers true. -/
namespace Go.Proofs.Ytpccbmndgdiloaa
set_option linter.unusedVariables false
set_option linter.unusedSimpArgs false
open Go.ChangeShapes Go.WideShapes Go.ChangeAt Go.RowKit Go.Deep
theorem laws_big2 (A B : Option Addr) (n m c d : Nat) (w : World) (hn : n ≤ 9223372036854775807) (hm : m ≤ 9223372036854775807) :
    Calls Try.prog 8 #[.slice A n c, .slice B m d] w fun e w' => e = .returned (.bool (!decide (n + m ≤ 1048576))) ∧ w = w' := by
  by_cases h1 : n ≤ 1048576
  · have hI : ¬ (1048576 : Int) < (n : Int) := by omega
    have hW : IntKind.i64.wrap (1048576 - (n : Int)) = 1048576 - (n : Int) := wrap_id (by omega)
    go_in
    go_wp2
    go_ret
    refine ⟨ret_bool ?_, rfl⟩
    by_cases h2 : n + m ≤ 1048576
    · simp [h2]; omega
    · simp [h2]; omega
  · have hI : (1048576 : Int) < (n : Int) := by omega
    go_in
    go_wp2
    go_ret
    refine ⟨ret_bool ?_, rfl⟩
    have h2 : ¬ n + m ≤ 1048576 := by omega
    simp [h2]
theorem goodM_sz {nm : ByteArray} {st : Int} {L : List ByteArray} (h : goodM nm st L = true) : (∀ s ∈ L, s.size ≤ 16777216) ∧ nm.size ≤ 16777216 := by
  obtain ⟨h1, _, _, h4⟩ := goodM_t h
  refine ⟨fun s hs => ?_, ?_⟩
  · obtain ⟨k, hk⟩ := List.getElem?_of_mem hs
    rw [allCh, List.all_eq_true] at h4
    have := h4 k (List.mem_range.2 (List.getElem?_eq_some_iff.1 hk).1)
    rw [okCh_at hk] at this
    have := goodChange_small this
    omega
  · rw [nameOk, Bool.and_eq_true] at h1
    have := inB_t h1.2
    omega
set_option maxHeartbeats 4000000 in
set_option maxRecDepth 100000 in
theorem law_TouchSigns (A0 : Option Addr) (c0 : Nat) (l0 : List Int) (A1 : Option Addr) (c1 : Nat) (l1 : List Int) (w : World) (h0 : Recs byteE 1 w A0 l0) (hm0 : l0.length ≤ 9223372036854775807) (hb0 : ∀ x ∈ l0, 0 ≤ x ∧ x ≤ 255)
    (h1 : Recs byteE 1 w A1 l1) (hm1 : l1.length ≤ 9223372036854775807) (hb1 : ∀ x ∈ l1, 0 ≤ x ∧ x ≤ 255) :
    Calls Try.prog 3 #[.slice A0 l0.length c0, .slice A1 l1.length c1] w fun e w' => e = .returned (.bool true) ∧ Below w.heap.size w w' := by
  by_cases hz : l0.length + l1.length ≤ 1048576
  · have S0 := Lib.hid (show Src w A0 l0.length from ⟨l0, rfl, by omega, hb0, h0⟩)
    have S1 := Lib.hid (show Src w A1 l1.length from ⟨l1, rfl, by omega, hb1, h1⟩)
    clear h0 h1 hb0 hb1
    go_in
    go_wp2_with fail
    refine (laws_big2 _ _ _ _ _ _ _ (by omega) (by omega)).mono ?_; rintro e w' ⟨rfl, rfl⟩
    go_wp2_with fail
    refine (draw_TouchSign S0.out).mono ?_; rintro e w1 ⟨nm, st, A2, n2, c2, L, kb, ks, t, rfl, gM, eL, hcap, hn12, ⟨st3, st6⟩, zkb, zks, zt, O2, hB1⟩
    have HW := hB1
    have sM := goodM_sz gM
    have HZ := Lib.hid sM.1
    have znm := sM.2
    have stI : I64 (st : Int) := ⟨by omega, by omega⟩
    have HGM := Lib.hid gM
    have EL := Lib.hid eL
    clear sM gM hB1 eL
    have K := (Blk.at_ w1 26 [.string nm, .int .i64 (st : Int), .slice A2 n2 c2] (b := w1.heap.size) rfl).alloc (.cells #[.string kb, .string ks] 28)
    have J := Blk.at_ (w1.alloc (.cells #[.string nm, .int .i64 (st : Int), .slice A2 n2 c2] 26)) 28 [.string kb, .string ks] (b := w1.heap.size + 1) (by simp)
    have ab : Below w1.heap.size w1 ((w1.alloc (.cells #[.string nm, .int .i64 (st : Int), .slice A2 n2 c2] 26)).alloc (.cells #[.string kb, .string ks] 28)) := by (repeat' (first | (with_reducible exact Below.refl _ _) | (with_reducible assumption) | (with_reducible refine below_drewN ?_ _) | (with_reducible refine Below.drew ?_) | (with_reducible refine below_alloc ?_ _) | (with_reducible refine Below.alloc ?_ ?_ _) | (with_reducible refine Below.setCell ?_ ?_ _) | (with_reducible refine below_go ?_ (by with_reducible assumption)) | (with_reducible refine below_then (by with_reducible assumption) ?_ ?_) | go_size))
    have R := O2.recs.up ab
    have HW := below_go HW ab
    go_upto_region 4 with fail
    obtain ⟨v, hv⟩ : ∃ u, u = (w1.alloc (.cells #[.string nm, .int .i64 (st : Int), .slice A2 n2 c2] 26)).alloc (.cells #[.string kb, .string ks] 28) := ⟨_, rfl⟩
    rw [← hv] at K J R HW ⊢
    clear hv ab O2
    have kc0 := K.cell 0; have kc1 := K.cell 1; have kc2 := K.cell 2; have jc0 := J.cell 0; have jc1 := J.cell 1
    simp only [List.getElem?_cons_zero, List.getElem?_cons_succ] at kc0 kc1 kc2 jc0 jc1
    obtain ⟨tv, htv⟩ : ∃ b, b = tsV nm (st : Int) L kb ks t := ⟨_, rfl⟩
    rcases hF : goodF nm (st : Int) L kb ks t
    · go_wp2_with fail
      refine (impl_TouchSign EL.out R (by omega) HZ.out (by omega) stI (by omega) (by omega) (by omega)).mono ?_; rw [← htv, hF]; rintro e w3 ⟨rfl, hb3⟩
      have K := K.up hb3
      have J := J.up hb3
      have R := R.up hb3
      have HW := below_go HW hb3
      clear kc0 kc1 kc2 jc0 jc1
      have kc0 := K.cell 0; have kc1 := K.cell 1; have kc2 := K.cell 2; have jc0 := J.cell 0; have jc1 := J.cell 1
      simp only [List.getElem?_cons_zero, List.getElem?_cons_succ] at kc0 kc1 kc2 jc0 jc1
      go_wp2_with fail
      refine (spec_TouchSign EL.out R (by omega) HZ.out (by omega) stI (by omega) (by omega) hcap (by omega)).mono ?_; rw [← htv, hF]; rintro e w4 ⟨rfl, hb4⟩
      have HW := below_go HW hb4
      clear K J R kc0 kc1 kc2 jc0 jc1 hb3 hb4 htv hF HZ HGM EL
      rcases tv
      all_goals
        go_wp2_with fail
        refine (draw_LeadSigns (S1.out.over HW)).mono ?_; rintro e w20 ⟨nm, st, A2, n2, c2, L, kb, ks, rfl, gM, eL, hcap, hn12, ⟨st3, st6⟩, zkb, zks, O2, hB1⟩
        have HW := below_go HW hB1
        have sM := goodM_sz gM
        have HZ := Lib.hid sM.1
        have znm := sM.2
        have stI : I64 (st : Int) := ⟨by omega, by omega⟩
        have HGM := Lib.hid gM
        have EL := Lib.hid eL
        clear sM gM hB1 eL
        have K := (Blk.at_ w20 26 [.string nm, .int .i64 (st : Int), .slice A2 n2 c2] (b := w20.heap.size) rfl).alloc (.cells #[.string kb, .string ks] 28)
        have J := Blk.at_ (w20.alloc (.cells #[.string nm, .int .i64 (st : Int), .slice A2 n2 c2] 26)) 28 [.string kb, .string ks] (b := w20.heap.size + 1) (by simp)
        have ab : Below w20.heap.size w20 ((w20.alloc (.cells #[.string nm, .int .i64 (st : Int), .slice A2 n2 c2] 26)).alloc (.cells #[.string kb, .string ks] 28)) := by (repeat' (first | (with_reducible exact Below.refl _ _) | (with_reducible assumption) | (with_reducible refine below_drewN ?_ _) | (with_reducible refine Below.drew ?_) | (with_reducible refine below_alloc ?_ _) | (with_reducible refine Below.alloc ?_ ?_ _) | (with_reducible refine Below.setCell ?_ ?_ _) | (with_reducible refine below_go ?_ (by with_reducible assumption)) | (with_reducible refine below_then (by with_reducible assumption) ?_ ?_) | go_size))
        have R := O2.recs.up ab
        have HW := below_go HW ab
        go_upto_region 14 with fail
        obtain ⟨v, hv⟩ : ∃ u, u = (w20.alloc (.cells #[.string nm, .int .i64 (st : Int), .slice A2 n2 c2] 26)).alloc (.cells #[.string kb, .string ks] 28) := ⟨_, rfl⟩
        rw [← hv] at K J R HW ⊢
        clear hv ab O2
        have kc0 := K.cell 0; have kc1 := K.cell 1; have kc2 := K.cell 2; have jc0 := J.cell 0; have jc1 := J.cell 1
        simp only [List.getElem?_cons_zero, List.getElem?_cons_succ] at kc0 kc1 kc2 jc0 jc1
        obtain ⟨B, hB⟩ : ∃ B, B = lsR nm (st : Int) L kb ks := ⟨_, rfl⟩
        obtain ⟨g2, hg2⟩ : ∃ b, b = goodK nm (st : Int) L kb ks := ⟨_, rfl⟩
        go_wp2_with fail
        refine (impl_LeadSigns EL.out R (by omega) HZ.out (by omega) stI (by omega) (by omega)).mono ?_; rw [← hB, ← hg2]; rintro e w21 ⟨A3, c3, rfl, O3, zB, hb21⟩
        have K := K.up hb21
        have J := J.up hb21
        have R := R.up hb21
        have HW := below_go HW hb21
        clear kc0 kc1 kc2 jc0 jc1
        have kc0 := K.cell 0; have kc1 := K.cell 1; have kc2 := K.cell 2; have jc0 := J.cell 0; have jc1 := J.cell 1
        simp only [List.getElem?_cons_zero, List.getElem?_cons_succ] at kc0 kc1 kc2 jc0 jc1
        go_wp2_with fail
        refine (spec_LeadSigns EL.out R (by omega) HZ.out (by omega) stI (by omega) (by omega) hcap).mono ?_; rw [← hB, ← hg2]; rintro e w22 ⟨A4, c4, rfl, O4, _, hb22⟩
        have HW := below_go HW hb22
        have R3 := O3.recs.up hb22
        have R4 := O4.recs
        clear K J R kc0 kc1 kc2 jc0 jc1 O3 O4 hb21 hb22 hB hg2 HZ HGM EL
        go_wp2_with fail
        refine (draw_ChangeSign (S1.out.over HW)).mono ?_; rintro e w23 ⟨N, x, rfl, hN14, hx8, hb23⟩
        have HW := below_go HW hb23
        have R3 := R3.up hb23
        have R4 := R4.up hb23
        obtain ⟨sg, hsg⟩ : ∃ b, b = signR (N : Int) x := ⟨_, rfl⟩
        have HSG := Lib.hid hsg
        rcases hgc : goodChange (N : Int) x
        · go_wp2_with fail
          refine (impl_ChangeSign (n := (N : Int)) (c := x) (by omega)).mono ?_; rw [← hsg, hgc]; rintro e w24 ⟨rfl, hb24⟩
          have HW := below_go HW hb24
          have R3 := R3.up hb24
          have R4 := R4.up hb24
          go_wp2_with fail
          refine (spec_ChangeSign (n := (N : Int)) (c := x) (by omega) ⟨by omega, by omega⟩).mono ?_; rw [← hsg, hgc]; rintro e w25 ⟨rfl, hb25⟩
          have HW := below_go HW hb25
          have R3 := R3.up hb25
          have R4 := R4.up hb25
          clear hsg hgc
          rcases g2 <;> rcases sg
          all_goals
            go_wp2_with fail
            refine (laws_sameBools rfl R3 R4 zB).mono ?_; rintro e w26 ⟨rfl, hb26⟩
            go_wp2
            go_ret
            exact ⟨rfl, below_go HW hb26⟩
        · go_wp2_with fail
          refine (impl_ChangeSign (n := (N : Int)) (c := x) (by omega)).mono ?_; rw [← hsg, hgc]; rintro e w24 ⟨rfl, hb24⟩
          have HW := below_go HW hb24
          have R3 := R3.up hb24
          have R4 := R4.up hb24
          go_wp2_with fail
          refine (spec_ChangeSign (n := (N : Int)) (c := x) (by omega) ⟨by omega, by omega⟩).mono ?_; rw [← hsg, hgc]; rintro e w25 ⟨rfl, hb25⟩
          have HW := below_go HW hb25
          have R3 := R3.up hb25
          have R4 := R4.up hb25
          have HGC := Lib.hid hgc
          have h38 : 3 ≤ N ∧ N ≤ 8 := by
            rw [goodChange, Bool.and_eq_true, Bool.and_eq_true] at hgc
            have := inB_t hgc.1.1
            omega
          have hev : evenRow (chRow N x) = sg := by rw [even_ch h38.1 h38.2, hsg, signR, hgc]; rfl
          have hgr := good_ch h38 x
          have hgz : (chRow N x).size ≤ 16777216 := by have := goodRow_n hgr; omega
          clear hsg hgc
          rcases g2 <;> rcases sg
          all_goals
            go_wp2_with fail
            refine (laws_sameBools rfl R3 R4 zB).mono ?_; rintro e w26 ⟨rfl, hb26⟩
            have HW := below_go HW hb26
            go_wp2_with fail
            refine (impl_ChangeRow (n := N) (c := x) (by omega) HGC.out).mono ?_; rintro e w27 ⟨rfl, hb27⟩
            have HW := below_go HW hb27
            go_wp2_with fail
            refine (impl_IsEven hgz hgr).mono ?_; rw [hev]; rintro e w28 ⟨rfl, hb28⟩
            go_wp2
            go_ret
            exact ⟨rfl, below_go HW hb28⟩

    · have hgf := goodF_t hF
      have HGK := Lib.hid hgf.1
      have HGT := Lib.hid hgf.2
      have HTE := Lib.hid (show tv = evenRow (hdAt st L kb ks t t.size) by rw [htv]; exact tsV_t hF)
      go_wp2_with fail
      refine (impl_TouchSign EL.out R (by omega) HZ.out (by omega) stI (by omega) (by omega) (by omega)).mono ?_; rw [← htv, hF]; rintro e w3 ⟨rfl, hb3⟩
      have K := K.up hb3
      have J := J.up hb3
      have R := R.up hb3
      have HW := below_go HW hb3
      clear kc0 kc1 kc2 jc0 jc1
      have kc0 := K.cell 0; have kc1 := K.cell 1; have kc2 := K.cell 2; have jc0 := J.cell 0; have jc1 := J.cell 1
      simp only [List.getElem?_cons_zero, List.getElem?_cons_succ] at kc0 kc1 kc2 jc0 jc1
      go_wp2_with fail
      refine (spec_TouchSign EL.out R (by omega) HZ.out (by omega) stI (by omega) (by omega) hcap (by omega)).mono ?_; rw [← htv, hF]; rintro e w4 ⟨rfl, hb4⟩
      have K := K.up hb4
      have J := J.up hb4
      have R := R.up hb4
      have HW := below_go HW hb4
      clear kc0 kc1 kc2 jc0 jc1
      have kc0 := K.cell 0; have kc1 := K.cell 1; have kc2 := K.cell 2; have jc0 := J.cell 0; have jc1 := J.cell 1
      simp only [List.getElem?_cons_zero, List.getElem?_cons_succ] at kc0 kc1 kc2 jc0 jc1
      have hgd := (hdAt_good st3 (by omega : st ≤ 8) L kb ks t t.size).1
      have hgz : (hdAt st L kb ks t t.size).size ≤ 16777216 := by have := goodRow_n hgd; omega
      clear hb3 hb4 htv hF hgf
      rcases tv
      all_goals
        go_wp2_with fail
        refine (impl_TouchEnd EL.out R HGK.out HGT.out).mono ?_; rintro e w5 ⟨rfl, hb5⟩
        have HW := below_go HW hb5
        go_wp2_with fail
        refine (impl_IsEven hgz hgd).mono ?_; rw [← HTE.out]; rintro e w6 ⟨rfl, hb6⟩
        have HW := below_go HW hb6
        clear K J R kc0 kc1 kc2 jc0 jc1 hb5 hb6 HTE hgd hgz HZ HGM EL HGK HGT
        go_wp2_with fail
        refine (draw_LeadSigns (S1.out.over HW)).mono ?_; rintro e w20 ⟨nm, st, A2, n2, c2, L, kb, ks, rfl, gM, eL, hcap, hn12, ⟨st3, st6⟩, zkb, zks, O2, hB1⟩
        have HW := below_go HW hB1
        have sM := goodM_sz gM
        have HZ := Lib.hid sM.1
        have znm := sM.2
        have stI : I64 (st : Int) := ⟨by omega, by omega⟩
        have HGM := Lib.hid gM
        have EL := Lib.hid eL
        clear sM gM hB1 eL
        have K := (Blk.at_ w20 26 [.string nm, .int .i64 (st : Int), .slice A2 n2 c2] (b := w20.heap.size) rfl).alloc (.cells #[.string kb, .string ks] 28)
        have J := Blk.at_ (w20.alloc (.cells #[.string nm, .int .i64 (st : Int), .slice A2 n2 c2] 26)) 28 [.string kb, .string ks] (b := w20.heap.size + 1) (by simp)
        have ab : Below w20.heap.size w20 ((w20.alloc (.cells #[.string nm, .int .i64 (st : Int), .slice A2 n2 c2] 26)).alloc (.cells #[.string kb, .string ks] 28)) := by (repeat' (first | (with_reducible exact Below.refl _ _) | (with_reducible assumption) | (with_reducible refine below_drewN ?_ _) | (with_reducible refine Below.drew ?_) | (with_reducible refine below_alloc ?_ _) | (with_reducible refine Below.alloc ?_ ?_ _) | (with_reducible refine Below.setCell ?_ ?_ _) | (with_reducible refine below_go ?_ (by with_reducible assumption)) | (with_reducible refine below_then (by with_reducible assumption) ?_ ?_) | go_size))
        have R := O2.recs.up ab
        have HW := below_go HW ab
        go_upto_region 14 with fail
        obtain ⟨v, hv⟩ : ∃ u, u = (w20.alloc (.cells #[.string nm, .int .i64 (st : Int), .slice A2 n2 c2] 26)).alloc (.cells #[.string kb, .string ks] 28) := ⟨_, rfl⟩
        rw [← hv] at K J R HW ⊢
        clear hv ab O2
        have kc0 := K.cell 0; have kc1 := K.cell 1; have kc2 := K.cell 2; have jc0 := J.cell 0; have jc1 := J.cell 1
        simp only [List.getElem?_cons_zero, List.getElem?_cons_succ] at kc0 kc1 kc2 jc0 jc1
        obtain ⟨B, hB⟩ : ∃ B, B = lsR nm (st : Int) L kb ks := ⟨_, rfl⟩
        obtain ⟨g2, hg2⟩ : ∃ b, b = goodK nm (st : Int) L kb ks := ⟨_, rfl⟩
        go_wp2_with fail
        refine (impl_LeadSigns EL.out R (by omega) HZ.out (by omega) stI (by omega) (by omega)).mono ?_; rw [← hB, ← hg2]; rintro e w21 ⟨A3, c3, rfl, O3, zB, hb21⟩
        have K := K.up hb21
        have J := J.up hb21
        have R := R.up hb21
        have HW := below_go HW hb21
        clear kc0 kc1 kc2 jc0 jc1
        have kc0 := K.cell 0; have kc1 := K.cell 1; have kc2 := K.cell 2; have jc0 := J.cell 0; have jc1 := J.cell 1
        simp only [List.getElem?_cons_zero, List.getElem?_cons_succ] at kc0 kc1 kc2 jc0 jc1
        go_wp2_with fail
        refine (spec_LeadSigns EL.out R (by omega) HZ.out (by omega) stI (by omega) (by omega) hcap).mono ?_; rw [← hB, ← hg2]; rintro e w22 ⟨A4, c4, rfl, O4, _, hb22⟩
        have HW := below_go HW hb22
        have R3 := O3.recs.up hb22
        have R4 := O4.recs
        clear K J R kc0 kc1 kc2 jc0 jc1 O3 O4 hb21 hb22 hB hg2 HZ HGM EL
        go_wp2_with fail
        refine (draw_ChangeSign (S1.out.over HW)).mono ?_; rintro e w23 ⟨N, x, rfl, hN14, hx8, hb23⟩
        have HW := below_go HW hb23
        have R3 := R3.up hb23
        have R4 := R4.up hb23
        obtain ⟨sg, hsg⟩ : ∃ b, b = signR (N : Int) x := ⟨_, rfl⟩
        have HSG := Lib.hid hsg
        rcases hgc : goodChange (N : Int) x
        · go_wp2_with fail
          refine (impl_ChangeSign (n := (N : Int)) (c := x) (by omega)).mono ?_; rw [← hsg, hgc]; rintro e w24 ⟨rfl, hb24⟩
          have HW := below_go HW hb24
          have R3 := R3.up hb24
          have R4 := R4.up hb24
          go_wp2_with fail
          refine (spec_ChangeSign (n := (N : Int)) (c := x) (by omega) ⟨by omega, by omega⟩).mono ?_; rw [← hsg, hgc]; rintro e w25 ⟨rfl, hb25⟩
          have HW := below_go HW hb25
          have R3 := R3.up hb25
          have R4 := R4.up hb25
          clear hsg hgc
          rcases g2 <;> rcases sg
          all_goals
            go_wp2_with fail
            refine (laws_sameBools rfl R3 R4 zB).mono ?_; rintro e w26 ⟨rfl, hb26⟩
            go_wp2
            go_ret
            exact ⟨rfl, below_go HW hb26⟩
        · go_wp2_with fail
          refine (impl_ChangeSign (n := (N : Int)) (c := x) (by omega)).mono ?_; rw [← hsg, hgc]; rintro e w24 ⟨rfl, hb24⟩
          have HW := below_go HW hb24
          have R3 := R3.up hb24
          have R4 := R4.up hb24
          go_wp2_with fail
          refine (spec_ChangeSign (n := (N : Int)) (c := x) (by omega) ⟨by omega, by omega⟩).mono ?_; rw [← hsg, hgc]; rintro e w25 ⟨rfl, hb25⟩
          have HW := below_go HW hb25
          have R3 := R3.up hb25
          have R4 := R4.up hb25
          have HGC := Lib.hid hgc
          have h38 : 3 ≤ N ∧ N ≤ 8 := by
            rw [goodChange, Bool.and_eq_true, Bool.and_eq_true] at hgc
            have := inB_t hgc.1.1
            omega
          have hev : evenRow (chRow N x) = sg := by rw [even_ch h38.1 h38.2, hsg, signR, hgc]; rfl
          have hgr := good_ch h38 x
          have hgz : (chRow N x).size ≤ 16777216 := by have := goodRow_n hgr; omega
          clear hsg hgc
          rcases g2 <;> rcases sg
          all_goals
            go_wp2_with fail
            refine (laws_sameBools rfl R3 R4 zB).mono ?_; rintro e w26 ⟨rfl, hb26⟩
            have HW := below_go HW hb26
            go_wp2_with fail
            refine (impl_ChangeRow (n := N) (c := x) (by omega) HGC.out).mono ?_; rintro e w27 ⟨rfl, hb27⟩
            have HW := below_go HW hb27
            go_wp2_with fail
            refine (impl_IsEven hgz hgr).mono ?_; rw [hev]; rintro e w28 ⟨rfl, hb28⟩
            go_wp2
            go_ret
            exact ⟨rfl, below_go HW hb28⟩

  · go_in
    go_wp2_with fail
    refine (laws_big2 _ _ _ _ _ _ _ (by omega) (by omega)).mono ?_; rintro e w' ⟨rfl, rfl⟩
    go_wp2
    go_ret
    exact ⟨rfl, Below.refl _ _⟩
end Go.Proofs.Ytpccbmndgdiloaa
