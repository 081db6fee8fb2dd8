/- Making a fault, both sides. -/
import Derived.Test.YtmdmnjjlpefigaaW7r
import Derived.Test.YtmdmnjjlpefigaaW20f
namespace Go.Proofs.Ytmdmnjjlpefigaa
set_option linter.unusedVariables false
set_option linter.unusedSimpArgs false
open Go.ChangeShapes Go.WideShapes Go.ChangeAt Go.RowKit Go.Deep
theorem Blk.drew1 {w : World} {g : Nat} {t : TypeId} {cs : List Value} (h : Blk w g t cs) : Blk w.drew g t cs := h
/-- The first pair of equal rows of a touch that may be asked. -/
def mfO (nm : ByteArray) (st : Int) (l : List ByteArray) (kb ks t : ByteArray) : Option (Nat × Nat) := if rowsOk nm st l kb ks t = true then firstRep (tRows st.toNat l kb ks t t.size) else none
def mfq (o : Option (Nat × Nat)) (f : Nat × Nat → Nat) : Int := match o with | some p => (f p : Int) | none => 0
def mfA (o : Option (Nat × Nat)) (n : Nat) : List Value := [.int .i64 (mfq o fun p => p.1 / n), .int .i64 (mfq o fun p => p.1 % n), .int .i64 (mfq o fun p => p.2 / n), .int .i64 (mfq o fun p => p.2 % n)]
theorem mfO_f {nm : ByteArray} {st : Int} {l : List ByteArray} {kb ks t : ByteArray} (h : rowsOk nm st l kb ks t = false) : mfO nm st l kb ks t = none := by rw [mfO, if_neg (by rw [h]; simp)]
theorem mfO_t {nm : ByteArray} {m : Nat} {l : List ByteArray} {kb ks t : ByteArray} (h : rowsOk nm (m : Int) l kb ks t = true) : mfO nm m l kb ks t = firstRep (tRows m l kb ks t t.size) := by rw [mfO, if_pos h]; rfl
theorem rowsOk_t {nm : ByteArray} {st : Int} {l : List ByteArray} {kb ks t : ByteArray} (h : rowsOk nm st l kb ks t = true) : goodF nm st l kb ks t = true ∧ t.size * l.length ≤ 800 := by
  rw [rowsOk, Bool.and_eq_true] at h
  exact ⟨h.1, of_decide_eq_true h.2⟩
theorem tRows_good {st : Nat} (h3 : 3 ≤ st) (h8 : st ≤ 8) (l : List ByteArray) (b s t : ByteArray) (k : Nat) : ∀ x ∈ tRows st l b s t k, goodRow x = true ∧ x.size = st := by
  intro x hx
  rw [tRows, List.mem_flatMap] at hx
  obtain ⟨h, hh, hx⟩ := hx
  rw [hdsL, List.mem_map] at hh
  obtain ⟨j, _, rfl⟩ := hh
  have hg := hdAt_good h3 h8 l b s t j
  rw [rowsL, List.mem_map] at hx
  obtain ⟨i, _, rfl⟩ := hx
  exact ⟨good_rAt hg.1 l i, by rw [rAt_size]; exact hg.2⟩
theorem goodRows_of {n : Nat} {l : List ByteArray} (h : ∀ x ∈ l, goodRow x = true ∧ x.size = n) (hl : l.length ≤ 800) : goodRows l = true := by
  rw [goodRows, Bool.and_eq_true, List.all_eq_true]
  refine ⟨fun k hk => ?_, decide_eq_true hl⟩
  have hk := List.mem_range.1 hk
  obtain ⟨x, hx⟩ := some_of_lt (l := l) (k := 0) (by omega)
  obtain ⟨y, hy⟩ := some_of_lt hk
  have h1 := h x (List.mem_of_getElem? hx); have h2 := h y (List.mem_of_getElem? hy)
  rw [okRow_at hx hy, h2.1, h2.2, h1.2]
  simp
theorem pair_at {vs : List Hd} {w : World} {base : Nat} {A : Option Addr} {n c : Nat} {T : List (List Int)} {x y : Int} (h : LT intE 1 3 103 vs w base A n c T) (hT : T[0]? = some [x, y]) :
    ∃ b off g d, A = some ⟨b, off, none⟩ ∧ w.cell? ⟨b, off, none⟩ = some (.slice (some ⟨g, 0, none⟩) 2 d) ∧ w.cell? ⟨g, 0, none⟩ = some (.int .i64 x) ∧ w.cell? ⟨g, 1, none⟩ = some (.int .i64 y) := by
  obtain ⟨b, off, v, r, hA, _, hr, _, hc, ho⟩ := h.at_ (k := 0) (by have := (List.getElem?_eq_some_iff.1 hT).1; rw [← h.len]; exact this)
  rw [hT] at hr
  injection hr with hr
  subst hr
  obtain ⟨g, hg, _, _, gc, _⟩ := ho.at_ (by simp)
  refine ⟨b, off, g, v.2.2, hA, ?_, by simpa using gc 0 x 0 _ rfl rfl, by simpa using gc 1 y 0 _ rfl rfl⟩
  rw [← hg]
  simpa using hc
theorem quo_nat {a n : Nat} (ha : a ≤ 16777216) : ∃ q : Nat, Hid (q = a / n) ∧ IntKind.i64.wrap ((a : Int) / (n : Int)) = (q : Int) := by
  have h1 : a / n ≤ a := Nat.div_le_self _ _
  refine ⟨a / n, Lib.hid rfl, ?_⟩
  rw [← Int.natCast_ediv]
  generalize a / n = q at h1 ⊢
  exact wrap_id (by omega)
set_option maxHeartbeats 4000000 in
set_option maxRecDepth 100000 in
theorem impl_MakeFault {A : Option Addr} {n c : Nat} {nm : ByteArray} {st : Int} {l : List ByteArray} {kb ks : ByteArray} {t : ByteArray} {w : World} (hn : l.length = n) (h : Strs w A l) (hz : n ≤ 1048576) (hs : ∀ s ∈ l, s.size ≤ 16777216) (hnm : nm.size ≤ 16777216) (hst : I64 st) (hkb : kb.size ≤ 16777216) (hks : ks.size ≤ 16777216) (ht : t.size ≤ 16777216) :
    Calls Try.prog 44 #[.agg #[.string nm, .int .i64 st, .slice A n c], .agg #[.string kb, .string ks], .string t] w fun e w' => e = .returned (.tuple #[.agg ⟨mfA (mfO nm st l kb ks t) n⟩, .bool (mfO nm st l kb ks t).isSome]) ∧ Below w.heap.size w w' := by
  have b0 : Below w.heap.size w (((w.alloc (.cells ⟨[.string nm, .int .i64 st, .slice A n c]⟩ 42)).alloc (.cells ⟨[.string kb, .string ks]⟩ 44)).alloc (.cells ⟨[.int .i64 0, .int .i64 0, .int .i64 0, .int .i64 0]⟩ 58)) := by (repeat' (first | (with_reducible exact Below.refl _ _) | (with_reducible assumption) | (with_reducible refine below_drewN ?_ _) | (with_reducible refine Below.drew ?_) | (with_reducible refine below_alloc ?_ _) | (with_reducible refine Below.alloc ?_ ?_ _) | (with_reducible refine Below.setCell ?_ ?_ _) | (with_reducible refine below_go ?_ (by with_reducible assumption)) | (with_reducible refine below_then (by with_reducible assumption) ?_ ?_) | go_size))
  have K0 := ((Blk.at_ w 42 [.string nm, .int .i64 st, .slice A n c] (b := w.heap.size) rfl).alloc (.cells ⟨[.string kb, .string ks]⟩ 44)).alloc (.cells ⟨[.int .i64 0, .int .i64 0, .int .i64 0, .int .i64 0]⟩ 58)
  have K1 := (Blk.at_ (w.alloc (.cells ⟨[.string nm, .int .i64 st, .slice A n c]⟩ 42)) 44 [.string kb, .string ks] (b := w.heap.size + 1) (by simp)).alloc (.cells ⟨[.int .i64 0, .int .i64 0, .int .i64 0, .int .i64 0]⟩ 58)
  have K2 := Blk.at_ ((w.alloc (.cells ⟨[.string nm, .int .i64 st, .slice A n c]⟩ 42)).alloc (.cells ⟨[.string kb, .string ks]⟩ 44)) 58 [.int .i64 0, .int .i64 0, .int .i64 0, .int .i64 0] (b := w.heap.size + 1 + 1) (by simp)
  go_in
  go_wp2_with fail
  obtain ⟨w0, hw0⟩ : ∃ u, u = (((w.alloc (.cells #[.string nm, .int .i64 st, .slice A n c] 42)).alloc (.cells #[.string kb, .string ks] 44)).alloc (.cells #[.int .i64 0, .int .i64 0, .int .i64 0, .int .i64 0] 58)) := ⟨_, rfl⟩
  rw [← hw0] at b0 K0 K1 K2 ⊢
  have z0 : w.heap.size + 3 ≤ w0.heap.size := by rw [hw0]; simp
  clear hw0
  refine (impl_TouchRows hn (h.up b0) hz hs hnm hst hkb hks ht).mono ?_; rintro e w1 ⟨A1, m1, c1, rfl, hy1, hn1, hb1⟩
  have hB1 := below_go b0 hb1
  have K0 := K0.up hb1; have K2 := K2.up hb1
  clear K1
  rcases hf : rowsOk nm st l kb ks t
  · have HO := Lib.hid (mfO_f hf)
    obtain ⟨rfl, rfl, rfl⟩ := hn1 hf
    clear hy1 hn1
    go_wp2_with fail
    refine (impl_repeats1 (l := []) rfl ⟨strE_len, Rd.none_ _ _ _⟩ (by decide) (fun s hs => by cases hs)).mono ?_; rintro e w2 ⟨vs, A2, c2, rfl, hL, hb2⟩
    have hB2 := below_go hB1 hb2
    have L2 := K2.up hb2
    have f0 := L2.frozen 0; have f1 := L2.frozen 1; have f2 := L2.frozen 2; have f3 := L2.frozen 3
    have d0 := L2.cell 0; have d1 := L2.cell 1; have d2 := L2.cell 2; have d3 := L2.cell 3
    simp only [List.getElem?_cons_zero, List.getElem?_cons_succ] at d0 d1 d2 d3
    have HK := Lib.hid L2
    clear K0 K2 L2 hL
    go_wp2_with fail
    have Z := (((HK.out.set_ 0 (.int .i64 0)).set_ 1 (.int .i64 0)).set_ 2 (.int .i64 0)).set_ 3 (.int .i64 0)
    have z0 := Z.cell 0; have z1 := Z.cell 1; have z2 := Z.cell 2; have z3 := Z.cell 3
    simp only [List.set_cons_zero, List.set_cons_succ, List.getElem?_cons_zero, List.getElem?_cons_succ] at z0 z1 z2 z3
    rw [HO.out]
    refine bodyPost_ret (v := .tuple #[.agg #[.int .i64 0, .int .i64 0, .int .i64 0, .int .i64 0], .bool false]) (by simp [results, Try.results44, go_sem, z0, z1, z2, z3]) rfl ?_
    exact ⟨rfl, by (repeat' (first | (with_reducible exact Below.refl _ _) | (with_reducible assumption) | (with_reducible refine below_drewN ?_ _) | (with_reducible refine Below.drew ?_) | (with_reducible refine below_alloc ?_ _) | (with_reducible refine Below.alloc ?_ ?_ _) | (with_reducible refine Below.setCell ?_ ?_ _) | (with_reducible refine below_go ?_ (by with_reducible assumption)) | (with_reducible refine below_then (by with_reducible assumption) ?_ ?_) | go_size))⟩
  · have hf2 := rowsOk_t hf
    obtain ⟨hk, hg⟩ := goodF_t' hf2.1
    obtain ⟨m, rfl⟩ : ∃ m : Nat, st = (m : Int) := ⟨st.toNat, by
      have := (goodM_t (goodK_t hk).1).2.1
      omega⟩
    obtain ⟨rfl, ho⟩ := hy1 hf
    have ho : Owned strE 1 9 w1 _ A1 (t.size * n) c1 (tRows m l kb ks t t.size) := ho
    have HO := Lib.hid (mfO_t hf)
    clear hy1 hn1
    have hle : t.size * n ≤ 800 := by rw [← hn]; exact hf2.2
    have h8 := (goodK_all hk).1
    have hgr := tRows_good h8.1 h8.2 l kb ks t t.size
    have hn0 : 0 < n := by rw [← hn]; exact (goodM_t (goodK_t hk).1).2.2.1.1
    have hR := Lib.hid (fun p (hp : firstRep (tRows m l kb ks t t.size) = some p) => repTo_some hp)
    have hLn := Lib.hid (show (tRows m l kb ks t t.size).length = t.size * n by rw [tRows_len, hn])
    go_wp2_with fail
    refine (impl_repeats1 hLn.out ho.recs (by omega) (fun s hs => by have := (hgr s hs).2; omega)).mono ?_; rintro e w2 ⟨vs, A2, c2, rfl, hL, hb2⟩
    have hB2 := below_go hB1 hb2
    have L0 := K0.up hb2; have L2 := K2.up hb2
    have f0 := L2.frozen 0; have f1 := L2.frozen 1; have f2 := L2.frozen 2; have f3 := L2.frozen 3
    have d0 := L2.cell 0; have d1 := L2.cell 1; have d2 := L2.cell 2; have d3 := L2.cell 3; have k2 := L0.cell 2
    simp only [List.getElem?_cons_zero, List.getElem?_cons_succ] at d0 d1 d2 d3 k2
    have HK := Lib.hid L2
    clear K0 K2 L2 L0
    generalize hfr : firstRep (tRows m l kb ks t t.size) = o at hL ⊢
    rcases o with _ | ⟨a, b⟩
    · have HO2 := Lib.hid (HO.out.trans hfr)
      have hlen : (repL none).length = 0 := rfl
      rw [hlen]
      clear hL hfr hlen
      go_wp2_with fail
      have Z := (((HK.out.set_ 0 (.int .i64 0)).set_ 1 (.int .i64 0)).set_ 2 (.int .i64 0)).set_ 3 (.int .i64 0)
      have z0 := Z.cell 0; have z1 := Z.cell 1; have z2 := Z.cell 2; have z3 := Z.cell 3
      simp only [List.set_cons_zero, List.set_cons_succ, List.getElem?_cons_zero, List.getElem?_cons_succ] at z0 z1 z2 z3
      rw [HO2.out]
      refine bodyPost_ret (v := .tuple #[.agg #[.int .i64 0, .int .i64 0, .int .i64 0, .int .i64 0], .bool false]) (by simp [results, Try.results44, go_sem, z0, z1, z2, z3]) rfl ?_
      exact ⟨rfl, by (repeat' (first | (with_reducible exact Below.refl _ _) | (with_reducible assumption) | (with_reducible refine below_drewN ?_ _) | (with_reducible refine Below.drew ?_) | (with_reducible refine below_alloc ?_ _) | (with_reducible refine Below.alloc ?_ ?_ _) | (with_reducible refine Below.setCell ?_ ?_ _) | (with_reducible refine below_go ?_ (by with_reducible assumption)) | (with_reducible refine below_then (by with_reducible assumption) ?_ ?_) | go_size))⟩
    · have HO2 := Lib.hid (HO.out.trans hfr)
      have hlen : (repL (some (a, b))).length = 1 := rfl
      have hlt := hR.out _ hfr
      rw [hLn.out] at hlt
      simp only at hlt
      obtain ⟨bA, oA, g, d, rfl, cA, cx, cy⟩ := pair_at hL (x := (a : Int)) (y := (b : Int)) rfl
      obtain ⟨x0, HX0, qa1⟩ := quo_nat (a := a) (n := n) (by omega)
      obtain ⟨y0, HY0, qb1⟩ := quo_nat (a := b) (n := n) (by omega)
      have HV := Lib.hid (show mfA (some (a, b)) n = [.int .i64 x0, .int .i64 ((a : Int) % (n : Int)), .int .i64 y0, .int .i64 ((b : Int) % (n : Int))] by rw [HX0.out, HY0.out]; rfl)
      have hnI : ¬ n = 0 := by omega
      rw [hlen]
      clear hL hfr hlen
      go_wp2
      go_quiet (fail)
      go_wp2
      have hB3 := below_drewN hB2 nq
      have HK3 := Lib.hid (HK.out.drewN nq)
      have f0 := HK3.out.frozen 0; have f1 := HK3.out.frozen 1; have f2 := HK3.out.frozen 2; have f3 := HK3.out.frozen 3
      have d0 := HK3.out.cell 0; have d1 := HK3.out.cell 1; have d2 := HK3.out.cell 2; have d3 := HK3.out.cell 3
      simp only [List.getElem?_cons_zero, List.getElem?_cons_succ] at d0 d1 d2 d3
      obtain ⟨w3, hw3⟩ : ∃ u, u = w2.drewN nq := ⟨_, rfl⟩
      rw [← hw3] at hB3 HK3 f0 f1 f2 f3 d0 d1 d2 d3 ⊢
      clear hw3
      go_still_tail 13, (by kernel_rfl)
      go_wp2
      have HK4 := HK3.out
      have Z := (((HK4.set_ 0 (.int .i64 x0)).set_ 1 (.int .i64 ((a : Int) % (n : Int)))).set_ 2 (.int .i64 y0)).set_ 3 (.int .i64 ((b : Int) % (n : Int)))
      have z0 := Z.cell 0; have z1 := Z.cell 1; have z2 := Z.cell 2; have z3 := Z.cell 3
      simp only [List.set_cons_zero, List.set_cons_succ, List.getElem?_cons_zero, List.getElem?_cons_succ] at z0 z1 z2 z3
      rw [HO2.out, HV.out]
      refine bodyPost_ret (v := .tuple #[.agg #[.int .i64 x0, .int .i64 ((a : Int) % (n : Int)), .int .i64 y0, .int .i64 ((b : Int) % (n : Int))], .bool true]) (by simp [results, Try.results44, go_sem, z0, z1, z2, z3]) rfl ?_
      exact ⟨rfl, by (repeat' (first | (with_reducible exact Below.refl _ _) | (with_reducible assumption) | (with_reducible refine below_drewN ?_ _) | (with_reducible refine Below.drew ?_) | (with_reducible refine below_alloc ?_ _) | (with_reducible refine Below.alloc ?_ ?_ _) | (with_reducible refine Below.setCell ?_ ?_ _) | (with_reducible refine below_go ?_ (by with_reducible assumption)) | (with_reducible refine below_then (by with_reducible assumption) ?_ ?_) | go_size))⟩
set_option maxHeartbeats 4000000 in
set_option maxRecDepth 100000 in
theorem spec_MakeFault {A : Option Addr} {n c : Nat} {nm : ByteArray} {st : Int} {l : List ByteArray} {kb ks : ByteArray} {t : ByteArray} {w : World} (hn : l.length = n) (h : Strs w A l) (hz : n ≤ 1048576) (hs : ∀ s ∈ l, s.size ≤ 16777216) (hnm : nm.size ≤ 16777216) (hst : I64 st) (hkb : kb.size ≤ 16777216) (hks : ks.size ≤ 16777216) (hcap : n ≤ c) (ht : t.size ≤ 16777216) :
    Calls Try.prog 43 #[.agg #[.string nm, .int .i64 st, .slice A n c], .agg #[.string kb, .string ks], .string t] w fun e w' => e = .returned (.tuple #[.agg ⟨mfA (mfO nm st l kb ks t) n⟩, .bool (mfO nm st l kb ks t).isSome]) ∧ Below w.heap.size w w' := by
  have b0 : Below w.heap.size w (((w.alloc (.cells ⟨[.string nm, .int .i64 st, .slice A n c]⟩ 42)).alloc (.cells ⟨[.string kb, .string ks]⟩ 44)).alloc (.cells ⟨[.int .i64 0, .int .i64 0, .int .i64 0, .int .i64 0]⟩ 58)) := by (repeat' (first | (with_reducible exact Below.refl _ _) | (with_reducible assumption) | (with_reducible refine below_drewN ?_ _) | (with_reducible refine Below.drew ?_) | (with_reducible refine below_alloc ?_ _) | (with_reducible refine Below.alloc ?_ ?_ _) | (with_reducible refine Below.setCell ?_ ?_ _) | (with_reducible refine below_go ?_ (by with_reducible assumption)) | (with_reducible refine below_then (by with_reducible assumption) ?_ ?_) | go_size))
  have K0 := ((Blk.at_ w 42 [.string nm, .int .i64 st, .slice A n c] (b := w.heap.size) rfl).alloc (.cells ⟨[.string kb, .string ks]⟩ 44)).alloc (.cells ⟨[.int .i64 0, .int .i64 0, .int .i64 0, .int .i64 0]⟩ 58)
  have K2 := Blk.at_ ((w.alloc (.cells ⟨[.string nm, .int .i64 st, .slice A n c]⟩ 42)).alloc (.cells ⟨[.string kb, .string ks]⟩ 44)) 58 [.int .i64 0, .int .i64 0, .int .i64 0, .int .i64 0] (b := w.heap.size + 1 + 1) (by simp)
  go_in
  go_wp2_with fail
  obtain ⟨w0, hw0⟩ : ∃ u, u = (((w.alloc (.cells #[.string nm, .int .i64 st, .slice A n c] 42)).alloc (.cells #[.string kb, .string ks] 44)).alloc (.cells #[.int .i64 0, .int .i64 0, .int .i64 0, .int .i64 0] 58)) := ⟨_, rfl⟩
  rw [← hw0] at b0 K0 K2 ⊢
  have z0 : w.heap.size + 3 ≤ w0.heap.size := by rw [hw0]; simp
  clear hw0
  refine (spec_TouchRows hn (h.up b0) hz hs hnm hst hkb hks hcap ht).mono ?_; rintro e w1 ⟨A1, m1, c1, rfl, hy1, hn1, hb1⟩
  have hB1 := below_go b0 hb1
  have K0 := K0.up hb1; have K2 := K2.up hb1
  rcases hf : rowsOk nm st l kb ks t
  · have HO := Lib.hid (mfO_f hf)
    clear hy1 hn1
    have f0 := K2.frozen 0; have f1 := K2.frozen 1; have f2 := K2.frozen 2; have f3 := K2.frozen 3
    have d0 := K2.cell 0; have d1 := K2.cell 1; have d2 := K2.cell 2; have d3 := K2.cell 3
    simp only [List.getElem?_cons_zero, List.getElem?_cons_succ] at d0 d1 d2 d3
    have HK := Lib.hid K2
    clear K0 K2
    go_wp2_with fail
    have Z := (((HK.out.set_ 0 (.int .i64 0)).set_ 1 (.int .i64 0)).set_ 2 (.int .i64 0)).set_ 3 (.int .i64 0)
    have z0 := Z.cell 0; have z1 := Z.cell 1; have z2 := Z.cell 2; have z3 := Z.cell 3
    simp only [List.set_cons_zero, List.set_cons_succ, List.getElem?_cons_zero, List.getElem?_cons_succ] at z0 z1 z2 z3
    rw [HO.out]
    refine bodyPost_ret (v := .tuple #[.agg #[.int .i64 0, .int .i64 0, .int .i64 0, .int .i64 0], .bool false]) (by simp [results, Try.results43, go_sem, z0, z1, z2, z3]) rfl ?_
    exact ⟨rfl, by (repeat' (first | (with_reducible exact Below.refl _ _) | (with_reducible assumption) | (with_reducible refine below_drewN ?_ _) | (with_reducible refine Below.drew ?_) | (with_reducible refine below_alloc ?_ _) | (with_reducible refine Below.alloc ?_ ?_ _) | (with_reducible refine Below.setCell ?_ ?_ _) | (with_reducible refine below_go ?_ (by with_reducible assumption)) | (with_reducible refine below_then (by with_reducible assumption) ?_ ?_) | go_size))⟩
  · have hf2 := rowsOk_t hf
    obtain ⟨hk, hg⟩ := goodF_t' hf2.1
    obtain ⟨m, rfl⟩ : ∃ m : Nat, st = (m : Int) := ⟨st.toNat, by
      have := (goodM_t (goodK_t hk).1).2.1
      omega⟩
    obtain ⟨rfl, ho⟩ := hy1 hf
    have ho : Owned strE 1 9 w1 _ A1 (t.size * n) c1 (tRows m l kb ks t t.size) := ho
    have HO := Lib.hid (mfO_t hf)
    clear hy1 hn1
    have hle : t.size * n ≤ 800 := by rw [← hn]; exact hf2.2
    have h8 := (goodK_all hk).1
    have hgr := tRows_good h8.1 h8.2 l kb ks t t.size
    have hn0 : 0 < n := by rw [← hn]; exact (goodM_t (goodK_t hk).1).2.2.1.1
    have hR := Lib.hid (fun p (hp : firstRep (tRows m l kb ks t t.size) = some p) => repTo_some hp)
    have hLn := Lib.hid (show (tRows m l kb ks t t.size).length = t.size * n by rw [tRows_len, hn])
    have hgR : goodRows (tRows m l kb ks t t.size) = true := goodRows_of (n := m) hgr (by rw [hLn.out]; exact hle)
    go_wp2_with fail
    refine (spec_RepeatsIn hLn.out ho.recs (by omega) (fun s hs => by have := (hgr s hs).2; omega) hgR).mono ?_; rintro e w2 ⟨vs, A2, c2, T, rfl, hL, hT, hF, hb2⟩
    have hB2 := below_go hB1 hb2
    have L0 := K0.up hb2; have L2 := K2.up hb2
    have f0 := L2.frozen 0; have f1 := L2.frozen 1; have f2 := L2.frozen 2; have f3 := L2.frozen 3
    have d0 := L2.cell 0; have d1 := L2.cell 1; have d2 := L2.cell 2; have d3 := L2.cell 3; have k2 := L0.cell 2
    simp only [List.getElem?_cons_zero, List.getElem?_cons_succ] at d0 d1 d2 d3 k2
    have HK := Lib.hid L2
    clear K0 K2 L2 L0
    generalize hfr : firstRep (tRows m l kb ks t t.size) = o at hF ⊢
    rcases o with _ | ⟨a, b⟩
    · have HO2 := Lib.hid (HO.out.trans hfr)
      have hT0 : T = [] := by
        rcases T with _ | ⟨r, T⟩
        · rfl
        · cases hF
      subst hT0
      clear hL hfr hF
      have hlen : ([] : List (List Int)).length = 0 := rfl
      rw [hlen]
      go_wp2_with fail
      have Z := (((HK.out.set_ 0 (.int .i64 0)).set_ 1 (.int .i64 0)).set_ 2 (.int .i64 0)).set_ 3 (.int .i64 0)
      have z0 := Z.cell 0; have z1 := Z.cell 1; have z2 := Z.cell 2; have z3 := Z.cell 3
      simp only [List.set_cons_zero, List.set_cons_succ, List.getElem?_cons_zero, List.getElem?_cons_succ] at z0 z1 z2 z3
      rw [HO2.out]
      refine bodyPost_ret (v := .tuple #[.agg #[.int .i64 0, .int .i64 0, .int .i64 0, .int .i64 0], .bool false]) (by simp [results, Try.results43, go_sem, z0, z1, z2, z3]) rfl ?_
      exact ⟨rfl, by (repeat' (first | (with_reducible exact Below.refl _ _) | (with_reducible assumption) | (with_reducible refine below_drewN ?_ _) | (with_reducible refine Below.drew ?_) | (with_reducible refine below_alloc ?_ _) | (with_reducible refine Below.alloc ?_ ?_ _) | (with_reducible refine Below.setCell ?_ ?_ _) | (with_reducible refine below_go ?_ (by with_reducible assumption)) | (with_reducible refine below_then (by with_reducible assumption) ?_ ?_) | go_size))⟩
    · have HO2 := Lib.hid (HO.out.trans hfr)
      have hlt := hR.out _ hfr
      rw [hLn.out] at hlt
      simp only at hlt
      have hT0 : 0 < T.length := (List.getElem?_eq_some_iff.1 (show T[0]? = some [(a : Int), (b : Int)] from hF)).1
      obtain ⟨bA, oA, g, d, rfl, cA, cx, cy⟩ := pair_at hL (x := (a : Int)) (y := (b : Int)) hF
      obtain ⟨x0, HX0, qa1⟩ := quo_nat (a := a) (n := n) (by omega)
      obtain ⟨y0, HY0, qb1⟩ := quo_nat (a := b) (n := n) (by omega)
      have HV := Lib.hid (show mfA (some (a, b)) n = [.int .i64 x0, .int .i64 ((a : Int) % (n : Int)), .int .i64 y0, .int .i64 ((b : Int) % (n : Int))] by rw [HX0.out, HY0.out]; rfl)
      have hnI : ¬ n = 0 := by omega
      have hTI : ¬ (T.length : Int) = 0 := by omega
      have hTI2 : ¬ T = [] := by rintro rfl; simp at hT0
      clear hL hfr hF hlt
      go_wp2
      obtain ⟨w3, hw3⟩ : ∃ u, u = w2 := ⟨_, rfl⟩
      rw [← hw3] at hB2 HK f0 f1 f2 f3 d0 d1 d2 d3 cA cx cy ⊢
      clear hw3
      go_still_tail 29, (by kernel_rfl)
      go_wp2
      have HK4 := HK.out
      have Z := (((HK4.set_ 0 (.int .i64 x0)).set_ 1 (.int .i64 ((a : Int) % (n : Int)))).set_ 2 (.int .i64 y0)).set_ 3 (.int .i64 ((b : Int) % (n : Int)))
      have z0 := Z.cell 0; have z1 := Z.cell 1; have z2 := Z.cell 2; have z3 := Z.cell 3
      simp only [List.set_cons_zero, List.set_cons_succ, List.getElem?_cons_zero, List.getElem?_cons_succ] at z0 z1 z2 z3
      rw [HO2.out, HV.out]
      refine bodyPost_ret (v := .tuple #[.agg #[.int .i64 x0, .int .i64 ((a : Int) % (n : Int)), .int .i64 y0, .int .i64 ((b : Int) % (n : Int))], .bool true]) (by simp [results, Try.results43, go_sem, z0, z1, z2, z3]) rfl ?_
      exact ⟨rfl, by (repeat' (first | (with_reducible exact Below.refl _ _) | (with_reducible assumption) | (with_reducible refine below_drewN ?_ _) | (with_reducible refine Below.drew ?_) | (with_reducible refine below_alloc ?_ _) | (with_reducible refine Below.alloc ?_ ?_ _) | (with_reducible refine Below.setCell ?_ ?_ _) | (with_reducible refine below_go ?_ (by with_reducible assumption)) | (with_reducible refine below_then (by with_reducible assumption) ?_ ?_) | go_size))⟩
end Go.Proofs.Ytmdmnjjlpefigaa
