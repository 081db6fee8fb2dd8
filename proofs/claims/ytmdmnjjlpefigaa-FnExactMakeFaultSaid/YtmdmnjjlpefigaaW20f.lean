/- Faults of a touch, both sides. -/
import Derived.Test.YtmdmnjjlpefigaaW9f
namespace Go.Proofs.Ytmdmnjjlpefigaa
set_option linter.unusedVariables false
set_option linter.unusedSimpArgs false
open Go.ChangeShapes Go.WideShapes Go.ChangeAt Go.RowKit Go.Deep
/-- Do two leads and two rows of a lead lie in a touch? -/
def inF (t n f0 f1 f2 f3 : Int) : Bool := inB f0 0 (t - 1) && (inB f2 0 (t - 1) && (inB f1 0 (n - 1) && inB f3 0 (n - 1)))
def cfV (nm : ByteArray) (st : Int) (l : List ByteArray) (kb ks t : ByteArray) (f0 f1 f2 f3 : Int) : Bool :=
  if rowsOk nm st l kb ks t = true ∧ inF t.size l.length f0 f1 f2 f3 = true then decide (f0 * l.length + f1 < f2 * l.length + f3) && decide ((tRows st.toNat l kb ks t t.size)[(f0 * l.length + f1).toNat]? = (tRows st.toNat l kb ks t t.size)[(f2 * l.length + f3).toNat]?) else false
theorem cfV_no {nm : ByteArray} {st : Int} {l : List ByteArray} {kb ks t : ByteArray} {f0 f1 f2 f3 : Int} (h : rowsOk nm st l kb ks t = false) : cfV nm st l kb ks t f0 f1 f2 f3 = false := by rw [cfV, if_neg (by rw [h]; simp)]
theorem cfV_out {nm : ByteArray} {st : Int} {l : List ByteArray} {kb ks t : ByteArray} {f0 f1 f2 f3 : Int} (h : inF t.size l.length f0 f1 f2 f3 = false) : cfV nm st l kb ks t f0 f1 f2 f3 = false := by rw [cfV, if_neg (by rw [h]; simp)]
theorem cfV_in {nm : ByteArray} {m : Nat} {l : List ByteArray} {kb ks t : ByteArray} {f0 f1 f2 f3 : Int} (h : rowsOk nm (m : Int) l kb ks t = true) (h2 : inF t.size l.length f0 f1 f2 f3 = true) {a b : Nat} (ha : f0 * l.length + f1 = a) (hb : f2 * l.length + f3 = b) {x y : ByteArray} (hx : (tRows m l kb ks t t.size)[a]? = some x) (hy : (tRows m l kb ks t t.size)[b]? = some y) :
    cfV nm m l kb ks t f0 f1 f2 f3 = (decide ((a : Int) < (b : Int)) && decide (x = y)) := by
  rw [cfV, if_pos ⟨h, h2⟩, ha, hb]
  simp only [Int.toNat_natCast, hx, hy, Option.some.injEq]
theorem inF_t {t n f0 f1 f2 f3 : Int} (h : inF t n f0 f1 f2 f3 = true) : (0 ≤ f0 ∧ f0 < t) ∧ (0 ≤ f1 ∧ f1 < n) ∧ (0 ≤ f2 ∧ f2 < t) ∧ 0 ≤ f3 ∧ f3 < n := by
  simp only [inF, Bool.and_eq_true] at h
  have h1 := inB_t h.1; have h2 := inB_t h.2.1; have h3 := inB_t h.2.2.1; have h4 := inB_t h.2.2.2
  omega
theorem dec_str (x y : ByteArray) : decide (x = y) = (x.toList == y.toList) := by
  rcases h : (x.toList == y.toList)
  · exact decide_eq_false (fun e => by subst e; simp at h)
  · have h1 : x.toList = y.toList := by simpa using h
    exact decide_eq_true (ba_ext (by rw [← ByteArray.toList_eq, ← ByteArray.toList_eq]; exact h1))
theorem spot_lt {a0 a1 t n : Nat} (h0 : a0 < t) (h1 : a1 < n) : a0 * n + a1 < t * n := by
  have := Nat.mul_le_mul (show a0 + 1 ≤ t by omega) (Nat.le_refl n)
  rw [Nat.succ_mul] at this
  omega
set_option maxHeartbeats 4000000 in
set_option maxRecDepth 100000 in
theorem impl_CheckFault {A : Option Addr} {n c : Nat} {nm : ByteArray} {st : Int} {l : List ByteArray} {kb ks : ByteArray} {t : ByteArray} {f0 f1 f2 f3 : Int} {w : World} (hn : l.length = n) (h : Strs w A l) (hz : n ≤ 1048576) (hs : ∀ s ∈ l, s.size ≤ 16777216) (hnm : nm.size ≤ 16777216) (hst : I64 st) (hkb : kb.size ≤ 16777216) (hks : ks.size ≤ 16777216) (ht : t.size ≤ 16777216) :
    Calls Try.prog 42 #[.agg #[.string nm, .int .i64 st, .slice A n c], .agg #[.string kb, .string ks], .string t, .agg #[.int .i64 f0, .int .i64 f1, .int .i64 f2, .int .i64 f3]] w fun e w' => e = .returned (.tuple #[.bool (cfV nm st l kb ks t f0 f1 f2 f3), .bool (rowsOk nm st l kb ks t)]) ∧ Below w.heap.size w w' := by
  have b0 : Below w.heap.size w (((w.alloc (.cells ⟨[.string nm, .int .i64 st, .slice A n c]⟩ 42)).alloc (.cells ⟨[.string kb, .string ks]⟩ 44)).alloc (.cells ⟨[.int .i64 f0, .int .i64 f1, .int .i64 f2, .int .i64 f3]⟩ 58)) := by (repeat' (first | (with_reducible exact Below.refl _ _) | (with_reducible assumption) | (with_reducible refine below_drewN ?_ _) | (with_reducible refine Below.drew ?_) | (with_reducible refine below_alloc ?_ _) | (with_reducible refine Below.alloc ?_ ?_ _) | (with_reducible refine Below.setCell ?_ ?_ _) | (with_reducible refine below_go ?_ (by with_reducible assumption)) | (with_reducible refine below_then (by with_reducible assumption) ?_ ?_) | go_size))
  have K0 := ((Blk.at_ w 42 [.string nm, .int .i64 st, .slice A n c] (b := w.heap.size) rfl).alloc (.cells ⟨[.string kb, .string ks]⟩ 44)).alloc (.cells ⟨[.int .i64 f0, .int .i64 f1, .int .i64 f2, .int .i64 f3]⟩ 58)
  have K1 := (Blk.at_ (w.alloc (.cells ⟨[.string nm, .int .i64 st, .slice A n c]⟩ 42)) 44 [.string kb, .string ks] (b := w.heap.size + 1) (by simp)).alloc (.cells ⟨[.int .i64 f0, .int .i64 f1, .int .i64 f2, .int .i64 f3]⟩ 58)
  have K2 := Blk.at_ ((w.alloc (.cells ⟨[.string nm, .int .i64 st, .slice A n c]⟩ 42)).alloc (.cells ⟨[.string kb, .string ks]⟩ 44)) 58 [.int .i64 f0, .int .i64 f1, .int .i64 f2, .int .i64 f3] (b := w.heap.size + 1 + 1) (by simp)
  have HQ : Hid (rowsOk nm st l kb ks t = (goodF nm st l kb ks t && decide (t.size * l.length ≤ 800))) := Lib.hid rfl
  go_in
  go_wp2_with fail
  obtain ⟨w0, hw0⟩ : ∃ u, u = (((w.alloc (.cells #[.string nm, .int .i64 st, .slice A n c] 42)).alloc (.cells #[.string kb, .string ks] 44)).alloc (.cells #[.int .i64 f0, .int .i64 f1, .int .i64 f2, .int .i64 f3] 58)) := ⟨_, rfl⟩
  rw [← hw0] at b0 K0 K1 K2 ⊢
  clear hw0
  refine (impl_goodFor hn (h.up b0) hz hs hnm hst hkb hks ht).mono ?_; rintro e w1 ⟨rfl, hb1⟩
  have hB1 := below_go b0 hb1
  rcases hf : goodF nm st l kb ks t
  · have e2 := Lib.hid (show rowsOk nm st l kb ks t = false by rw [HQ.out, hf]; rfl)
    have e1 := Lib.hid (cfV_no (f0 := f0) (f1 := f1) (f2 := f2) (f3 := f3) e2.out)
    go_wp2
    go_ret2
    rw [e1.out, e2.out]
    exact ⟨rfl, hB1⟩
  · obtain ⟨hk, hg⟩ := goodF_t' hf
    obtain ⟨m, rfl⟩ : ∃ m : Nat, st = (m : Int) := ⟨st.toNat, by
      have := (goodM_t (goodK_t hk).1).2.1
      omega⟩
    have L0 := K0.up hb1; have L1 := K1.up hb1; have L2 := K2.up hb1
    have k0 := L0.cell 0; have k1 := L0.cell 1; have k2 := L0.cell 2; have q0 := L1.cell 0; have q1 := L1.cell 1
    simp only [List.getElem?_cons_zero, List.getElem?_cons_succ] at k0 k1 k2 q0 q1
    have e2 := Lib.hid (show rowsOk nm m l kb ks t = decide (t.size * n ≤ 800) by rw [HQ.out, hf, hn]; rfl)
    go_wp2_with fail
    refine (impl_touchRows hn (h.up hB1) hk hg).mono ?_; rintro e w2 ⟨A2, m2, c2, rfl, hy2, hn2, hb2⟩
    have hB2 := below_go hB1 hb2
    clear k0 k1 k2 q0 q1
    by_cases hle : t.size * n ≤ 800
    · obtain ⟨rfl, ho⟩ := hy2 hle
      clear hn2 hy2
      have ED := Lib.hid (decide_eq_true hle)
      have M0 := L0.up hb2; have M2 := L2.up hb2
      have k2 := M0.cell 2; have r0 := M2.cell 0; have r1 := M2.cell 1; have r2 := M2.cell 2; have r3 := M2.cell 3
      simp only [List.getElem?_cons_zero, List.getElem?_cons_succ] at k2 r0 r1 r2 r3
      have ht60 := (goodT_t hg).2.1
      have hwt : IntKind.i64.wrap ((t.size : Int) - 1) = (t.size : Int) - 1 := wrap_id (by omega)
      have hn40 : n ≤ 40 := by have := (goodK_all hk).2.1; omega
      have hwn : IntKind.i64.wrap ((n : Int) - 1) = (n : Int) - 1 := wrap_id (by omega)
      rw [ED.out]
      have HB := hB2
      rcases i0 : inB f0 0 ((t.size : Int) - 1)
      · have e4 := Lib.hid (show inF t.size l.length f0 f1 f2 f3 = false by rw [inF, hn, i0]; simp)
        have e1 := Lib.hid (cfV_out (nm := nm) (st := m) (kb := kb) (ks := ks) e4.out)
        go_wp2_with fail
        refine (impl_within _ _ _ _).mono ?_; rw [i0]; rintro e w' ⟨rfl, rfl⟩
        go_wp2
        go_ret2
        rw [e1.out, e2.out, ED.out]
        exact ⟨rfl, HB⟩
      · go_wp2_with fail
        refine (impl_within _ _ _ _).mono ?_; rw [i0]; rintro e w' ⟨rfl, rfl⟩
        rcases i2 : inB f2 0 ((t.size : Int) - 1)
        · have e4 := Lib.hid (show inF t.size l.length f0 f1 f2 f3 = false by rw [inF, hn, i0, i2]; simp)
          have e1 := Lib.hid (cfV_out (nm := nm) (st := m) (kb := kb) (ks := ks) e4.out)
          go_wp2_with fail
          refine (impl_within _ _ _ _).mono ?_; rw [i2]; rintro e w' ⟨rfl, rfl⟩
          go_wp2
          go_ret2
          rw [e1.out, e2.out, ED.out]
          exact ⟨rfl, HB⟩
        · go_wp2_with fail
          refine (impl_within _ _ _ _).mono ?_; rw [i2]; rintro e w' ⟨rfl, rfl⟩
          rcases i1 : inB f1 0 ((n : Int) - 1)
          · have e4 := Lib.hid (show inF t.size l.length f0 f1 f2 f3 = false by rw [inF, hn, i0, i2, i1]; simp)
            have e1 := Lib.hid (cfV_out (nm := nm) (st := m) (kb := kb) (ks := ks) e4.out)
            go_wp2_with fail
            refine (impl_within _ _ _ _).mono ?_; rw [i1]; rintro e w' ⟨rfl, rfl⟩
            go_wp2
            go_ret2
            rw [e1.out, e2.out, ED.out]
            exact ⟨rfl, HB⟩
          · go_wp2_with fail
            refine (impl_within _ _ _ _).mono ?_; rw [i1]; rintro e w' ⟨rfl, rfl⟩
            rcases i3 : inB f3 0 ((n : Int) - 1)
            · have e4 := Lib.hid (show inF t.size l.length f0 f1 f2 f3 = false by rw [inF, hn, i0, i2, i1, i3]; simp)
              have e1 := Lib.hid (cfV_out (nm := nm) (st := m) (kb := kb) (ks := ks) e4.out)
              go_wp2_with fail
              refine (impl_within _ _ _ _).mono ?_; rw [i3]; rintro e w' ⟨rfl, rfl⟩
              go_wp2
              go_ret2
              rw [e1.out, e2.out, ED.out]
              exact ⟨rfl, HB⟩
            · go_wp2_with fail
              refine (impl_within _ _ _ _).mono ?_; rw [i3]; rintro e w' ⟨rfl, rfl⟩
              have e4 := Lib.hid (show inF t.size l.length f0 f1 f2 f3 = true by rw [inF, hn, i0, i2, i1, i3]; rfl)
              have bb := inF_t e4.out
              rw [hn] at bb
              obtain ⟨a0, rfl⟩ : ∃ k : Nat, f0 = (k : Int) := ⟨f0.toNat, by omega⟩
              obtain ⟨a1, rfl⟩ : ∃ k : Nat, f1 = (k : Int) := ⟨f1.toNat, by omega⟩
              obtain ⟨a2, rfl⟩ : ∃ k : Nat, f2 = (k : Int) := ⟨f2.toNat, by omega⟩
              obtain ⟨a3, rfl⟩ : ∃ k : Nat, f3 = (k : Int) := ⟨f3.toNat, by omega⟩
              clear i0 i1 i2 i3
              have la : a0 * n + a1 < t.size * n := spot_lt (by omega) (by omega)
              have lb : a2 * n + a3 < t.size * n := spot_lt (by omega) (by omega)
              obtain ⟨p, hp⟩ : ∃ p, p = a0 * n := ⟨_, rfl⟩
              obtain ⟨q, hq⟩ : ∃ q, q = a2 * n := ⟨_, rfl⟩
              rw [← hp] at la
              rw [← hq] at lb
              obtain ⟨a, ha⟩ : ∃ a, a = p + a1 := ⟨_, rfl⟩
              obtain ⟨b, hb⟩ : ∃ b, b = q + a3 := ⟨_, rfl⟩
              rw [← ha] at la
              rw [← hb] at lb
              have eP : (a0 : Int) * (n : Int) = (p : Int) := by rw [hp]; push_cast; rfl
              have eQ : (a2 : Int) * (n : Int) = (q : Int) := by rw [hq]; push_cast; rfl
              have eA : (p : Int) + (a1 : Int) = (a : Int) := by omega
              have eB : (q : Int) + (a3 : Int) = (b : Int) := by omega
              have wP : IntKind.i64.wrap ((a0 : Int) * (n : Int)) = (p : Int) := by rw [eP]; exact wrap_id (by omega)
              have wQ : IntKind.i64.wrap ((a2 : Int) * (n : Int)) = (q : Int) := by rw [eQ]; exact wrap_id (by omega)
              have wA : IntKind.i64.wrap ((p : Int) + (a1 : Int)) = (a : Int) := by rw [eA]; exact wrap_id (by omega)
              have wB : IntKind.i64.wrap ((q : Int) + (a3 : Int)) = (b : Int) := by rw [eB]; exact wrap_id (by omega)
              obtain ⟨x, hx⟩ := some_of_lt (l := tRows m l kb ks t t.size) (k := a) (by rw [tRows_len, hn]; exact la)
              obtain ⟨y, hy⟩ := some_of_lt (l := tRows m l kb ks t t.size) (k := b) (by rw [tRows_len, hn]; exact lb)
              have e3 := Lib.hid (show rowsOk nm m l kb ks t = true by rw [e2.out, ED.out])
              have EV := Lib.hid (cfV_in e3.out e4.out (a := a) (b := b) (by rw [hn, eP, eA]) (by rw [hn, eQ, eB]) hx hy)
              obtain ⟨g, rfl, _, _, gc, _⟩ := ho.at_ (by omega)
              have ca := gc a x 0 _ hx rfl
              have cb := gc b y 0 _ hy rfl
              simp only [Nat.mul_one, Nat.add_zero] at ca cb
              clear gc hx hy eP eQ eA eB bb hp hq ha hb e4 ho
              go_wp2_with fail
              go_region_held3 (fun u => u.cell? ⟨w.heap.size + 1 + 1, 0, none⟩ = some (.int .i64 a0) ∧ u.cell? ⟨w.heap.size + 1 + 1, 1, none⟩ = some (.int .i64 a1) ∧ u.cell? ⟨w.heap.size + 1 + 1, 2, none⟩ = some (.int .i64 a2) ∧ u.cell? ⟨w.heap.size + 1 + 1, 3, none⟩ = some (.int .i64 a3)) (first | exact ⟨r0, r1, r2, r3⟩) (first | fail)
              go_wp2_with fail
              by_cases hab : (a : Int) < (b : Int)
              · have EV2 := Lib.hid (show cfV nm m l kb ks t a0 a1 a2 a3 = (x.toList == y.toList) by rw [EV.out, decide_eq_true hab, Bool.true_and, dec_str])
                go_region
                all_goals
                  go_wp2
                  go_ret2
                  rw [EV2.out, e3.out]
                  exact ⟨rfl, by (repeat' (first | (with_reducible exact Below.refl _ _) | (with_reducible assumption) | (with_reducible refine below_drewN ?_ _) | (with_reducible refine Below.drew ?_) | (with_reducible refine below_alloc ?_ _) | (with_reducible refine Below.alloc ?_ ?_ _) | (with_reducible refine Below.setCell ?_ ?_ _) | (with_reducible refine below_go ?_ (by with_reducible assumption)) | (with_reducible refine below_then (by with_reducible assumption) ?_ ?_) | go_size))⟩
              · have EV2 := Lib.hid (show cfV nm m l kb ks t a0 a1 a2 a3 = false by rw [EV.out, decide_eq_false hab, Bool.false_and])
                go_region
                all_goals
                  go_wp2
                  go_ret2
                  rw [EV2.out, e3.out]
                  exact ⟨rfl, by (repeat' (first | (with_reducible exact Below.refl _ _) | (with_reducible assumption) | (with_reducible refine below_drewN ?_ _) | (with_reducible refine Below.drew ?_) | (with_reducible refine below_alloc ?_ _) | (with_reducible refine Below.alloc ?_ ?_ _) | (with_reducible refine Below.setCell ?_ ?_ _) | (with_reducible refine below_go ?_ (by with_reducible assumption)) | (with_reducible refine below_then (by with_reducible assumption) ?_ ?_) | go_size))⟩
    · obtain ⟨rfl, rfl, rfl⟩ := hn2 hle
      have ED := Lib.hid (decide_eq_false hle)
      have e3 := Lib.hid (show rowsOk nm m l kb ks t = false by rw [e2.out, ED.out])
      have e1 := Lib.hid (cfV_no (f0 := f0) (f1 := f1) (f2 := f2) (f3 := f3) e3.out)
      clear hy2 hn2
      rw [ED.out]
      go_wp2
      go_ret2
      rw [e1.out, e3.out]
      exact ⟨rfl, hB2⟩
set_option maxHeartbeats 4000000 in
set_option maxRecDepth 100000 in
theorem spec_CheckFault {A : Option Addr} {n c : Nat} {nm : ByteArray} {st : Int} {l : List ByteArray} {kb ks : ByteArray} {t : ByteArray} {f0 f1 f2 f3 : Int} {w : World} (hn : l.length = n) (h : Strs w A l) (hz : n ≤ 1048576) (hs : ∀ s ∈ l, s.size ≤ 16777216) (hnm : nm.size ≤ 16777216) (hst : I64 st) (hkb : kb.size ≤ 16777216) (hks : ks.size ≤ 16777216) (hcap : n ≤ c) (ht : t.size ≤ 16777216) :
    Calls Try.prog 40 #[.agg #[.string nm, .int .i64 st, .slice A n c], .agg #[.string kb, .string ks], .string t, .agg #[.int .i64 f0, .int .i64 f1, .int .i64 f2, .int .i64 f3]] w fun e w' => e = .returned (.tuple #[.bool (cfV nm st l kb ks t f0 f1 f2 f3), .bool (rowsOk nm st l kb ks t)]) ∧ Below w.heap.size w w' := by
  have b0 : Below w.heap.size w (((w.alloc (.cells ⟨[.string nm, .int .i64 st, .slice A n c]⟩ 42)).alloc (.cells ⟨[.string kb, .string ks]⟩ 44)).alloc (.cells ⟨[.int .i64 f0, .int .i64 f1, .int .i64 f2, .int .i64 f3]⟩ 58)) := by (repeat' (first | (with_reducible exact Below.refl _ _) | (with_reducible assumption) | (with_reducible refine below_drewN ?_ _) | (with_reducible refine Below.drew ?_) | (with_reducible refine below_alloc ?_ _) | (with_reducible refine Below.alloc ?_ ?_ _) | (with_reducible refine Below.setCell ?_ ?_ _) | (with_reducible refine below_go ?_ (by with_reducible assumption)) | (with_reducible refine below_then (by with_reducible assumption) ?_ ?_) | go_size))
  have K0 := ((Blk.at_ w 42 [.string nm, .int .i64 st, .slice A n c] (b := w.heap.size) rfl).alloc (.cells ⟨[.string kb, .string ks]⟩ 44)).alloc (.cells ⟨[.int .i64 f0, .int .i64 f1, .int .i64 f2, .int .i64 f3]⟩ 58)
  have K1 := (Blk.at_ (w.alloc (.cells ⟨[.string nm, .int .i64 st, .slice A n c]⟩ 42)) 44 [.string kb, .string ks] (b := w.heap.size + 1) (by simp)).alloc (.cells ⟨[.int .i64 f0, .int .i64 f1, .int .i64 f2, .int .i64 f3]⟩ 58)
  have K2 := Blk.at_ ((w.alloc (.cells ⟨[.string nm, .int .i64 st, .slice A n c]⟩ 42)).alloc (.cells ⟨[.string kb, .string ks]⟩ 44)) 58 [.int .i64 f0, .int .i64 f1, .int .i64 f2, .int .i64 f3] (b := w.heap.size + 1 + 1) (by simp)
  have HQ : Hid (rowsOk nm st l kb ks t = (goodF nm st l kb ks t && decide (t.size * l.length ≤ 800))) := Lib.hid rfl
  go_in
  go_wp2_with fail
  obtain ⟨w0, hw0⟩ : ∃ u, u = (((w.alloc (.cells #[.string nm, .int .i64 st, .slice A n c] 42)).alloc (.cells #[.string kb, .string ks] 44)).alloc (.cells #[.int .i64 f0, .int .i64 f1, .int .i64 f2, .int .i64 f3] 58)) := ⟨_, rfl⟩
  rw [← hw0] at b0 K0 K1 K2 ⊢
  clear hw0
  refine (spec_TouchRows hn (h.up b0) hz hs hnm hst hkb hks hcap ht).mono ?_; rintro e w2 ⟨A2, m2, c2, rfl, hy2, hn2, hb1⟩
  have hB2 := below_go b0 hb1
  rcases hf : rowsOk nm st l kb ks t
  · have e2 := Lib.hid hf
    have e1 := Lib.hid (cfV_no (f0 := f0) (f1 := f1) (f2 := f2) (f3 := f3) hf)
    clear hy2 hn2
    go_wp2
    go_ret2
    rw [e1.out, e2.out]
    exact ⟨rfl, hB2⟩
  · have hf2 : goodF nm st l kb ks t = true ∧ t.size * l.length ≤ 800 := by
      have := HQ.out
      rw [hf] at this
      have h2 := this.symm
      rw [Bool.and_eq_true] at h2
      exact ⟨h2.1, of_decide_eq_true h2.2⟩
    obtain ⟨hk, hg⟩ := goodF_t' hf2.1
    obtain ⟨m, rfl⟩ : ∃ m : Nat, st = (m : Int) := ⟨st.toNat, by
      have := (goodM_t (goodK_t hk).1).2.1
      omega⟩
    have hle : t.size * n ≤ 800 := by rw [← hn]; exact hf2.2
    have e2 := Lib.hid hf
    have L0 := K0; have L2 := K2; have hb2 := hb1
    obtain ⟨rfl, ho⟩ := hy2 hf
    have ho : Owned strE 1 9 w2 _ A2 (t.size * n) c2 (tRows m l kb ks t t.size) := ho
    clear hn2 hy2 hf2 hf
    have ED := Lib.hid (show True from trivial)
    · have M0 := L0.up hb2; have M2 := L2.up hb2
      have k2 := M0.cell 2; have r0 := M2.cell 0; have r1 := M2.cell 1; have r2 := M2.cell 2; have r3 := M2.cell 3
      simp only [List.getElem?_cons_zero, List.getElem?_cons_succ] at k2 r0 r1 r2 r3
      have ht60 := (goodT_t hg).2.1
      have hwt : IntKind.i64.wrap ((t.size : Int) - 1) = (t.size : Int) - 1 := wrap_id (by omega)
      have hn40 : n ≤ 40 := by have := (goodK_all hk).2.1; omega
      have hwn : IntKind.i64.wrap ((n : Int) - 1) = (n : Int) - 1 := wrap_id (by omega)
      have HB := hB2
      rcases i0 : inB f0 0 ((t.size : Int) - 1)
      · have e4 := Lib.hid (show inF t.size l.length f0 f1 f2 f3 = false by rw [inF, hn, i0]; simp)
        have e1 := Lib.hid (cfV_out (nm := nm) (st := m) (kb := kb) (ks := ks) e4.out)
        go_wp2_with fail
        refine (spec_l1In _ _ _ _).mono ?_; rw [i0]; rintro e w' ⟨rfl, rfl⟩
        go_wp2
        go_ret2
        rw [e1.out, e2.out]
        exact ⟨rfl, HB⟩
      · go_wp2_with fail
        refine (spec_l1In _ _ _ _).mono ?_; rw [i0]; rintro e w' ⟨rfl, rfl⟩
        rcases i2 : inB f2 0 ((t.size : Int) - 1)
        · have e4 := Lib.hid (show inF t.size l.length f0 f1 f2 f3 = false by rw [inF, hn, i0, i2]; simp)
          have e1 := Lib.hid (cfV_out (nm := nm) (st := m) (kb := kb) (ks := ks) e4.out)
          go_wp2_with fail
          refine (spec_l1In _ _ _ _).mono ?_; rw [i2]; rintro e w' ⟨rfl, rfl⟩
          go_wp2
          go_ret2
          rw [e1.out, e2.out]
          exact ⟨rfl, HB⟩
        · go_wp2_with fail
          refine (spec_l1In _ _ _ _).mono ?_; rw [i2]; rintro e w' ⟨rfl, rfl⟩
          rcases i1 : inB f1 0 ((n : Int) - 1)
          · have e4 := Lib.hid (show inF t.size l.length f0 f1 f2 f3 = false by rw [inF, hn, i0, i2, i1]; simp)
            have e1 := Lib.hid (cfV_out (nm := nm) (st := m) (kb := kb) (ks := ks) e4.out)
            go_wp2_with fail
            refine (spec_l1In _ _ _ _).mono ?_; rw [i1]; rintro e w' ⟨rfl, rfl⟩
            go_wp2
            go_ret2
            rw [e1.out, e2.out]
            exact ⟨rfl, HB⟩
          · go_wp2_with fail
            refine (spec_l1In _ _ _ _).mono ?_; rw [i1]; rintro e w' ⟨rfl, rfl⟩
            rcases i3 : inB f3 0 ((n : Int) - 1)
            · have e4 := Lib.hid (show inF t.size l.length f0 f1 f2 f3 = false by rw [inF, hn, i0, i2, i1, i3]; simp)
              have e1 := Lib.hid (cfV_out (nm := nm) (st := m) (kb := kb) (ks := ks) e4.out)
              go_wp2_with fail
              refine (spec_l1In _ _ _ _).mono ?_; rw [i3]; rintro e w' ⟨rfl, rfl⟩
              go_wp2
              go_ret2
              rw [e1.out, e2.out]
              exact ⟨rfl, HB⟩
            · go_wp2_with fail
              refine (spec_l1In _ _ _ _).mono ?_; rw [i3]; rintro e w' ⟨rfl, rfl⟩
              have e4 := Lib.hid (show inF t.size l.length f0 f1 f2 f3 = true by rw [inF, hn, i0, i2, i1, i3]; rfl)
              have bb := inF_t e4.out
              rw [hn] at bb
              obtain ⟨a0, rfl⟩ : ∃ k : Nat, f0 = (k : Int) := ⟨f0.toNat, by omega⟩
              obtain ⟨a1, rfl⟩ : ∃ k : Nat, f1 = (k : Int) := ⟨f1.toNat, by omega⟩
              obtain ⟨a2, rfl⟩ : ∃ k : Nat, f2 = (k : Int) := ⟨f2.toNat, by omega⟩
              obtain ⟨a3, rfl⟩ : ∃ k : Nat, f3 = (k : Int) := ⟨f3.toNat, by omega⟩
              clear i0 i1 i2 i3
              have la : a0 * n + a1 < t.size * n := spot_lt (by omega) (by omega)
              have lb : a2 * n + a3 < t.size * n := spot_lt (by omega) (by omega)
              obtain ⟨p, hp⟩ : ∃ p, p = a0 * n := ⟨_, rfl⟩
              obtain ⟨q, hq⟩ : ∃ q, q = a2 * n := ⟨_, rfl⟩
              rw [← hp] at la
              rw [← hq] at lb
              obtain ⟨a, ha⟩ : ∃ a, a = p + a1 := ⟨_, rfl⟩
              obtain ⟨b, hb⟩ : ∃ b, b = q + a3 := ⟨_, rfl⟩
              rw [← ha] at la
              rw [← hb] at lb
              have eP : (a0 : Int) * (n : Int) = (p : Int) := by rw [hp]; push_cast; rfl
              have eQ : (a2 : Int) * (n : Int) = (q : Int) := by rw [hq]; push_cast; rfl
              have eA : (p : Int) + (a1 : Int) = (a : Int) := by omega
              have eB : (q : Int) + (a3 : Int) = (b : Int) := by omega
              have wP : IntKind.i64.wrap ((a0 : Int) * (n : Int)) = (p : Int) := by rw [eP]; exact wrap_id (by omega)
              have wQ : IntKind.i64.wrap ((a2 : Int) * (n : Int)) = (q : Int) := by rw [eQ]; exact wrap_id (by omega)
              have wA : IntKind.i64.wrap ((p : Int) + (a1 : Int)) = (a : Int) := by rw [eA]; exact wrap_id (by omega)
              have wB : IntKind.i64.wrap ((q : Int) + (a3 : Int)) = (b : Int) := by rw [eB]; exact wrap_id (by omega)
              obtain ⟨x, hx⟩ := some_of_lt (l := tRows m l kb ks t t.size) (k := a) (by rw [tRows_len, hn]; exact la)
              obtain ⟨y, hy⟩ := some_of_lt (l := tRows m l kb ks t t.size) (k := b) (by rw [tRows_len, hn]; exact lb)
              have e3 := Lib.hid (show rowsOk nm m l kb ks t = true from e2.out)
              have EV := Lib.hid (cfV_in e3.out e4.out (a := a) (b := b) (by rw [hn, eP, eA]) (by rw [hn, eQ, eB]) hx hy)
              obtain ⟨g, rfl, _, _, gc, _⟩ := ho.at_ (by omega)
              have ca := gc a x 0 _ hx rfl
              have cb := gc b y 0 _ hy rfl
              simp only [Nat.mul_one, Nat.add_zero] at ca cb
              clear gc hx hy eP eQ eA eB bb hp hq ha hb e4 ho
              go_wp2_with fail
              go_region_held3 (fun u => u.cell? ⟨w.heap.size + 1 + 1, 0, none⟩ = some (.int .i64 a0) ∧ u.cell? ⟨w.heap.size + 1 + 1, 1, none⟩ = some (.int .i64 a1) ∧ u.cell? ⟨w.heap.size + 1 + 1, 2, none⟩ = some (.int .i64 a2) ∧ u.cell? ⟨w.heap.size + 1 + 1, 3, none⟩ = some (.int .i64 a3)) (first | exact ⟨r0, r1, r2, r3⟩) (first | fail)
              go_wp2_with fail
              by_cases hab : (a : Int) < (b : Int)
              · have EV2 := Lib.hid (show cfV nm m l kb ks t a0 a1 a2 a3 = (x.toList == y.toList) by rw [EV.out, decide_eq_true hab, Bool.true_and, dec_str])
                go_region
                all_goals
                  go_wp2
                  go_ret2
                  rw [EV2.out, e3.out]
                  exact ⟨rfl, by (repeat' (first | (with_reducible exact Below.refl _ _) | (with_reducible assumption) | (with_reducible refine below_drewN ?_ _) | (with_reducible refine Below.drew ?_) | (with_reducible refine below_alloc ?_ _) | (with_reducible refine Below.alloc ?_ ?_ _) | (with_reducible refine Below.setCell ?_ ?_ _) | (with_reducible refine below_go ?_ (by with_reducible assumption)) | (with_reducible refine below_then (by with_reducible assumption) ?_ ?_) | go_size))⟩
              · have EV2 := Lib.hid (show cfV nm m l kb ks t a0 a1 a2 a3 = false by rw [EV.out, decide_eq_false hab, Bool.false_and])
                go_region
                all_goals
                  go_wp2
                  go_ret2
                  rw [EV2.out, e3.out]
                  exact ⟨rfl, by (repeat' (first | (with_reducible exact Below.refl _ _) | (with_reducible assumption) | (with_reducible refine below_drewN ?_ _) | (with_reducible refine Below.drew ?_) | (with_reducible refine below_alloc ?_ _) | (with_reducible refine Below.alloc ?_ ?_ _) | (with_reducible refine Below.setCell ?_ ?_ _) | (with_reducible refine below_go ?_ (by with_reducible assumption)) | (with_reducible refine below_then (by with_reducible assumption) ?_ ?_) | go_size))⟩
end Go.Proofs.Ytmdmnjjlpefigaa
