/- The rows of a touch, the program's side. -/
import Derived.Test.YtmdmnjjlpefigaaW9b
import Derived.Test.YtmdmnjjlpefigaaW9e
namespace Go.Proofs.Ytmdmnjjlpefigaa
set_option linter.unusedVariables false
set_option linter.unusedSimpArgs false
open Go.ChangeShapes Go.WideShapes Go.ChangeAt Go.RowKit Go.Deep
theorem rowsL_cut (a : ByteArray) (l : List ByteArray) (n : Nat) : (rowsL a l (n + 1)).take n = rowsL a l n := by
  rw [rowsL_succ, List.take_append_of_le_length (by rw [rowsL_len]; exact Nat.le_refl _), List.take_of_length_le (by rw [rowsL_len]; exact Nat.le_refl _)]
theorem hdsL_cut (st : Nat) (l : List ByteArray) (b s t : ByteArray) (n : Nat) : (hdsL st l b s t (n + 1)).take n = hdsL st l b s t n := by
  rw [hdsL_succ, List.take_append_of_le_length (by rw [hdsL_len]; exact Nat.le_refl _), List.take_of_length_le (by rw [hdsL_len]; exact Nat.le_refl _)]
theorem Recs.front {α : Type} {e : α → List Value} {s : Nat} {w : World} {g : Nat} {l : List α} (h : Recs e s w (some ⟨g, 0, none⟩) l) (n : Nat) (hn : n ≤ l.length) : Recs e s w (some ⟨g, 0, none⟩) (l.take n) := by
  have := h.part 0 n (Nat.zero_le _) hn
  simpa using this
set_option maxHeartbeats 1000000 in
set_option maxRecDepth 100000 in
theorem impl_leadRows {A : Option Addr} {n c : Nat} {nm a : ByteArray} {st : Int} {l : List ByteArray} {w : World} (ha : a.size ≤ 8) (hn : l.length = n) (h : Strs w A l) (hz : n ≤ 1048576) (hs : ∀ s ∈ l, s.size ≤ 16777216) (hg : ∀ s ∈ l, isDash s = true ∨ validD s = true) :
    Calls Try.prog 176 #[.agg #[.string nm, .int .i64 st, .slice A n c], .string a] w fun e w' => ∃ A' c', e = .returned (.slice A' n c') ∧ Strs w' A' (rowsL a l n) ∧ Below w.heap.size w w' := by
  have b0 : Below w.heap.size w (w.alloc (.cells ⟨[.string nm, .int .i64 st, .slice A n c]⟩ 42)) := by (repeat' (first | (with_reducible exact Below.refl _ _) | (with_reducible assumption) | (with_reducible refine below_drewN ?_ _) | (with_reducible refine Below.drew ?_) | (with_reducible refine below_alloc ?_ _) | (with_reducible refine Below.alloc ?_ ?_ _) | (with_reducible refine Below.setCell ?_ ?_ _) | (with_reducible refine below_go ?_ (by with_reducible assumption)) | (with_reducible refine below_then (by with_reducible assumption) ?_ ?_) | go_size))
  have K0 := Blk.at_ w 42 [.string nm, .int .i64 st, .slice A n c] (b := w.heap.size) rfl
  have HG := Lib.hid hg
  have HS := Lib.hid hs
  clear hg hs
  go_in
  go_wp2_with fail
  obtain ⟨w0, hw0⟩ : ∃ u, u = (w.alloc (.cells #[.string nm, .int .i64 st, .slice A n c] 42)) := ⟨_, rfl⟩
  rw [← hw0] at b0 K0 ⊢
  clear hw0
  have H0 := Lib.hid (h.up b0)
  have carry : Hid (∀ u : World, Below w0.heap.size w0 u → u.cell? ⟨w.heap.size, 2, none⟩ = some (.slice A n c)) := Lib.hid (fun u hu => by
    have L0 := K0.up hu
    simpa using L0.cell 2)
  clear h K0
  have hwk : IntKind.i64.wrap (n : Int) = (n : Int) := wrap_id (by omega)
  have hle3 : (0 : Int) ≤ (n : Int) := by omega
  go_region_held3 (fun u => u.cell? ⟨w.heap.size, 2, none⟩ = some (.slice A n c)) (first | exact carry.out _ hb1 | exact carry.out _ (Below.refl _ _) | exact carry.out _ (Below.refl _ _).drew) (first | (go_at_call 146; ((refine (impl_rowsUnder ha hn H0.out.drew (by omega) HS.out HG.out).mono ?_); rintro e w1 ⟨A1, c1, rfl, ho, hbd⟩; have hb1 := below_of_drew hbd; have hcp := ho.cap; have hcI : (n : Int) ≤ (c1 : Int) := (by omega); obtain ⟨g, rfl, _⟩ := ho.at_ (by omega))))
  go_wp2
  go_ret
  exact ⟨_, _, rfl, by have q := ho.recs.front n (by rw [rowsL_len]; omega); rw [rowsL_cut] at q; exact q, below_go b0 hb1⟩
set_option maxHeartbeats 1000000 in
set_option maxRecDepth 100000 in
theorem impl_leadsFrom {A : Option Addr} {n c st : Nat} {nm : ByteArray} {l : List ByteArray} {kb ks : ByteArray} {t : ByteArray} {B : Option Addr} {m d : Nat} {w : World} (hn : l.length = n) (h : Strs w A l) (hk : goodK nm (st : Int) l kb ks = true) (hB : Strs w B (hdsL st l kb ks t m)) (hm : m ≤ 60) :
    Calls Try.prog 134 #[.agg #[.string nm, .int .i64 st, .slice A n c], .slice B m d] w fun e w' => ∃ A' m' c', e = .returned (.slice A' m' c') ∧ m' = m * n ∧ Owned strE 1 9 w' w.heap.size A' m' c' (tRows st l kb ks t m) ∧ Below w.heap.size w w' := by
  have b0 : Below w.heap.size w (w.alloc (.cells ⟨[.string nm, .int .i64 st, .slice A n c]⟩ 42)) := by (repeat' (first | (with_reducible exact Below.refl _ _) | (with_reducible assumption) | (with_reducible refine below_drewN ?_ _) | (with_reducible refine Below.drew ?_) | (with_reducible refine below_alloc ?_ _) | (with_reducible refine Below.alloc ?_ ?_ _) | (with_reducible refine Below.setCell ?_ ?_ _) | (with_reducible refine below_go ?_ (by with_reducible assumption)) | (with_reducible refine below_then (by with_reducible assumption) ?_ ?_) | go_size))
  have K0 := Blk.at_ w 42 [.string nm, .int .i64 st, .slice A n c] (b := w.heap.size) rfl
  obtain ⟨h8, h40, hgl, _⟩ := goodK_all hk
  have hn40 : n ≤ 40 := by omega
  have HS := Lib.hid (fun (s' : ByteArray) (hs' : s' ∈ l) => show s'.size ≤ 16777216 from by have := goodChange_small (hgl s' hs'); omega)
  have HG := Lib.hid (fun (x : ByteArray) (hx : x ∈ l) => good_valid (hgl x hx))
  clear hgl
  have HD := Lib.hid (fun k => hdAt_good h8.1 h8.2 l kb ks t k)
  go_in
  go_wp2_with fail
  obtain ⟨w1, hw1⟩ : ∃ u, u = (w.alloc (.cells #[.string nm, .int .i64 st, .slice A n c] 42)) := ⟨_, rfl⟩
  have sz1 : w1.heap.size = w.heap.size + 1 := by rw [hw1]; simp
  rw [← hw1] at b0 K0 ⊢
  clear hw1
  have H0 := Lib.hid (h.up b0)
  have HB := Lib.hid (hB.up b0)
  have carry : Hid (∀ u : World, Below w1.heap.size w1 u → u.cell? ⟨w.heap.size, 0, none⟩ = some (.string nm) ∧ u.cell? ⟨w.heap.size, 1, none⟩ = some (.int .i64 st) ∧ u.cell? ⟨w.heap.size, 2, none⟩ = some (.slice A n c)) := Lib.hid (fun u hu => by
    have L0 := K0.up hu
    exact ⟨by simpa using L0.cell 0, by simpa using L0.cell 1, by simpa using L0.cell 2⟩)
  clear h hB K0
  have HE : Hid (Owned strE 1 9 (w1.alloc (.cells #[] 9)) w1.heap.size (some ⟨w.heap.size + 1, 0, none⟩) 0 0 (tRows st l kb ks t 0)) := Lib.hid (by rw [← sz1]; exact Owned.empty (E := 9) strE_len w1 (Nat.le_refl _))
  clear sz1
  go_wp2
  go_loopw [5, 11] (fun v i wr => ∃ (k : Nat) (A' : Option Addr) (q c' : Nat), k ≤ m ∧ i = .int .i64 k ∧ v = .slice A' q c' ∧ q = k * n ∧ Owned strE 1 9 wr w1.heap.size A' q c' (tRows st l kb ks t k) ∧ Below w1.heap.size w1 wr) (fun _ i _ => m - (intOf i).toNat)
  case atStart => exact ⟨0, _, 0, _, Nat.zero_le _, rfl, rfl, by omega, HE.out, by (repeat' (first | (with_reducible exact Below.refl _ _) | (with_reducible assumption) | (with_reducible refine below_drewN ?_ _) | (with_reducible refine Below.drew ?_) | (with_reducible refine below_alloc ?_ _) | (with_reducible refine Below.alloc ?_ ?_ _) | (with_reducible refine Below.setCell ?_ ?_ _) | (with_reducible refine below_go ?_ (by with_reducible assumption)) | (with_reducible refine below_then (by with_reducible assumption) ?_ ?_) | go_size))⟩
  case round =>
    obtain ⟨k, A', q, c', hk1, rfl, rfl, hq, ho, hb⟩ := hrel
    have HO := Lib.hid ho
    have HM := Lib.hid hq
    have hmb : q ≤ 2400 := by rw [hq]; exact Nat.le_trans (Nat.mul_le_mul (show k ≤ 60 by omega) hn40) (by decide)
    have hsz := hb.size
    clear ho hq
    by_cases hlt : k < m
    · obtain ⟨b3, o3, y, rfl, hbb, hy, hcy⟩ := (HB.out.below hb (Nat.le_refl _)).at_str (k := k) (by rw [hdsL_len]; exact hlt)
      rw [hdsL_at hlt] at hy
      injection hy with hy
      subst hy
      obtain ⟨c0, c1, c2⟩ := carry.out _ hb
      have p2 := HD.out k
      have z1 : (hdAt st l kb ks t k).size ≤ 8 := by rw [p2.2]; omega
      have HT := Lib.hid (tRows_succ st l kb ks t k)
      clear p2
      go_wp2_with fail
      refine (impl_leadRows z1 hn (H0.out.below hb (Nat.le_refl _)) (by omega) HS.out HG.out).mono ?_; rintro e w2 ⟨A2, c3, rfl, hr2, hb2⟩
      have HO1 := Lib.hid (HO.out.up hb2)
      have hsz1 := hb2.size
      have hl2 : (rowsL (hdAt st l kb ks t k) l n).length = n := by rw [rowsL_len]
      go_wp2_with (first | (at_builtin; go_must ((refine wpList_append_recs Try.elStr strE_one rfl (.tmp 15) (.tmp 18) rfl rfl HO1.out rfl hr2 hl2 ?_ (by decide) ?_ ?_; (focus (first | omega | (simp only [World.size_alloc]; done) | (simp only [World.size_alloc]; omega) | (simp; done) | (simp; omega))); (focus (first | omega | (simp only [World.size_alloc]; done) | (simp only [World.size_alloc]; omega) | (simp; done) | (simp; omega))); intro A3 c4 w3 ho3 hg3 hn3))))
      go_roundw
      case rel => exact ⟨k + 1, A3, q + n, c4, by omega, by go_num, by go_num, by rw [HM.out, Nat.succ_mul], by rw [HT.out]; subst hn; exact ho3, (hb.trans (hb2.mono hsz)).trans ((grown_base hg3 (by omega) (fun z hz => (HO.out.range z hz).1)))⟩
      case measure => simp [intOf]; omega
    · obtain rfl : k = m := by omega
      go_wp2
      go_ret
      exact ⟨_, _, _, rfl, HM.out, HO.out.base_le b0.size, below_go b0 hb⟩
set_option maxHeartbeats 2000000 in
set_option maxRecDepth 100000 in
theorem impl_touchRows {A : Option Addr} {n c st : Nat} {nm : ByteArray} {l : List ByteArray} {kb ks : ByteArray} {t : ByteArray} {w : World} (hn : l.length = n) (h : Strs w A l) (hk : goodK nm (st : Int) l kb ks = true) (hg : goodT t = true) :
    Calls Try.prog 87 #[.agg #[.string nm, .int .i64 st, .slice A n c], .agg #[.string kb, .string ks], .string t] w fun e w' => ∃ A' m' c', e = .returned (.tuple #[.slice A' m' c', .bool (decide (t.size * n ≤ 800))]) ∧ (t.size * n ≤ 800 → m' = t.size * n ∧ Owned strE 1 9 w' w.heap.size A' m' c' (tRows st l kb ks t t.size)) ∧ (¬ t.size * n ≤ 800 → A' = none ∧ m' = 0 ∧ c' = 0) ∧ Below w.heap.size w w' := by
  have b0 : Below w.heap.size w ((w.alloc (.cells ⟨[.string nm, .int .i64 st, .slice A n c]⟩ 42)).alloc (.cells ⟨[.string kb, .string ks]⟩ 44)) := by (repeat' (first | (with_reducible exact Below.refl _ _) | (with_reducible assumption) | (with_reducible refine below_drewN ?_ _) | (with_reducible refine Below.drew ?_) | (with_reducible refine below_alloc ?_ _) | (with_reducible refine Below.alloc ?_ ?_ _) | (with_reducible refine Below.setCell ?_ ?_ _) | (with_reducible refine below_go ?_ (by with_reducible assumption)) | (with_reducible refine below_then (by with_reducible assumption) ?_ ?_) | go_size))
  have K0 := (Blk.at_ w 42 [.string nm, .int .i64 st, .slice A n c] (b := w.heap.size) rfl).alloc (.cells ⟨[.string kb, .string ks]⟩ 44)
  have K1 := Blk.at_ (w.alloc (.cells ⟨[.string nm, .int .i64 st, .slice A n c]⟩ 42)) 44 [.string kb, .string ks] (b := w.heap.size + 1) (by simp)
  obtain ⟨h8, h40, _⟩ := goodK_all hk
  obtain ⟨ht1, ht60, _⟩ := goodT_t hg
  have hn40 : n ≤ 40 := by omega
  have hmul : t.size * n ≤ 2400 := Nat.le_trans (Nat.mul_le_mul ht60 hn40) (by decide)
  have hmI : ((t.size * n : Nat) : Int) = (t.size : Int) * (n : Int) := by push_cast; rfl
  have hwr : IntKind.i64.wrap ((t.size : Int) * (n : Int)) = (t.size : Int) * (n : Int) := wrap_id (by omega)
  go_in
  by_cases hle : t.size * n ≤ 800
  · have hI : ¬ (800 : Int) < (t.size : Int) * (n : Int) := by omega
    have ED := Lib.hid (decide_eq_true hle)
    clear hmI
    go_wp2_with fail
    obtain ⟨w0, hw0⟩ : ∃ u, u = ((w.alloc (.cells #[.string nm, .int .i64 st, .slice A n c] 42)).alloc (.cells #[.string kb, .string ks] 44)) := ⟨_, rfl⟩
    rw [← hw0] at b0 K0 K1 ⊢
    clear hw0
    have H0 := Lib.hid (h.up b0)
    have carry : Hid (∀ u : World, Below w0.heap.size w0 u → (u.cell? ⟨w.heap.size, 0, none⟩ = some (.string nm) ∧ u.cell? ⟨w.heap.size, 1, none⟩ = some (.int .i64 st) ∧ u.cell? ⟨w.heap.size, 2, none⟩ = some (.slice A n c)) ∧ u.cell? ⟨w.heap.size + 1, 0, none⟩ = some (.string kb) ∧ u.cell? ⟨w.heap.size + 1, 1, none⟩ = some (.string ks)) := Lib.hid (fun u hu => by
      have L0 := K0.up hu; have L1 := K1.up hu
      exact ⟨⟨by simpa using L0.cell 0, by simpa using L0.cell 1, by simpa using L0.cell 2⟩, by simpa using L1.cell 0, by simpa using L1.cell 1⟩)
    clear h K0 K1
    have hwk : IntKind.i64.wrap (t.size : Int) = (t.size : Int) := wrap_id (by omega)
    have hle3 : (0 : Int) ≤ (t.size : Int) := by omega
    go_region_held3 (fun u => (u.cell? ⟨w.heap.size, 0, none⟩ = some (.string nm) ∧ u.cell? ⟨w.heap.size, 1, none⟩ = some (.int .i64 st) ∧ u.cell? ⟨w.heap.size, 2, none⟩ = some (.slice A n c)) ∧ u.cell? ⟨w.heap.size + 1, 0, none⟩ = some (.string kb) ∧ u.cell? ⟨w.heap.size + 1, 1, none⟩ = some (.string ks)) (first | exact carry.out _ C2 | exact carry.out _ hb1 | exact carry.out _ (Below.refl _ _) | exact carry.out _ (Below.refl _ _).drew) (first | (go_at_call 134; ((refine (impl_leadsFrom hn (H0.out.up hb1) hk hR1 ht60).mono ?_); rintro e w2 ⟨A2, m2, c2, rfl, hm2, ho2, hb2⟩; have C2 := Below.step' hb1 (Nat.le_refl _) hb2)) | (go_at_call 135; ((refine (impl_heads hn H0.out.drew hk hg).mono ?_); rintro e w1 ⟨A1, c1, rfl, ho, hbd⟩; have hb1 := below_of_drew hbd; have hcp := ho.cap; have hcI : (t.size : Int) ≤ (c1 : Int) := (by omega); obtain ⟨g, rfl, _⟩ := ho.at_ (by omega); have hR1 : Strs w1 (some ⟨g, 0, none⟩) (hdsL st l kb ks t t.size) := (by have q := ho.recs.front t.size (by rw [hdsL_len]; omega); rw [hdsL_cut] at q; exact q))))
    subst hm2
    go_wp2
    go_ret2
    rw [ED.out]
    exact ⟨_, _, _, rfl, fun _ => ⟨rfl, ho2.base_le (below_go b0 hb1).size⟩, fun hc => absurd hle hc, below_go (below_go b0 hb1) hb2⟩
  · have hI : (800 : Int) < (t.size : Int) * (n : Int) := by omega
    have ED := Lib.hid (decide_eq_false hle)
    clear hmI
    go_wp2
    go_ret2
    rw [ED.out]
    exact ⟨none, 0, 0, rfl, fun hc => absurd hc hle, fun _ => ⟨rfl, rfl, rfl⟩, b0⟩
set_option maxHeartbeats 1000000 in
theorem impl_TouchRows {A : Option Addr} {n c : Nat} {nm : ByteArray} {st : Int} {l : List ByteArray} {kb ks : ByteArray} {t : ByteArray} {w : World} (hn : l.length = n) (h : Strs w A l) (hz : n ≤ 1048576) (hs : ∀ s ∈ l, s.size ≤ 16777216) (hnm : nm.size ≤ 16777216) (hst : I64 st) (hkb : kb.size ≤ 16777216) (hks : ks.size ≤ 16777216) (ht : t.size ≤ 16777216) :
    Calls Try.prog 89 #[.agg #[.string nm, .int .i64 st, .slice A n c], .agg #[.string kb, .string ks], .string t] w fun e w' => ∃ A' m' c', e = .returned (.tuple #[.slice A' m' c', .bool (rowsOk nm st l kb ks t)]) ∧ (rowsOk nm st l kb ks t = true → m' = t.size * n ∧ Owned strE 1 9 w' w.heap.size A' m' c' (tRows st.toNat l kb ks t t.size)) ∧ (rowsOk nm st l kb ks t = false → A' = none ∧ m' = 0 ∧ c' = 0) ∧ Below w.heap.size w w' := by
  have b0 : Below w.heap.size w ((w.alloc (.cells ⟨[.string nm, .int .i64 st, .slice A n c]⟩ 42)).alloc (.cells ⟨[.string kb, .string ks]⟩ 44)) := by (repeat' (first | (with_reducible exact Below.refl _ _) | (with_reducible assumption) | (with_reducible refine below_drewN ?_ _) | (with_reducible refine Below.drew ?_) | (with_reducible refine below_alloc ?_ _) | (with_reducible refine Below.alloc ?_ ?_ _) | (with_reducible refine Below.setCell ?_ ?_ _) | (with_reducible refine below_go ?_ (by with_reducible assumption)) | (with_reducible refine below_then (by with_reducible assumption) ?_ ?_) | go_size))
  have K0 := (Blk.at_ w 42 [.string nm, .int .i64 st, .slice A n c] (b := w.heap.size) rfl).alloc (.cells ⟨[.string kb, .string ks]⟩ 44)
  have K1 := Blk.at_ (w.alloc (.cells ⟨[.string nm, .int .i64 st, .slice A n c]⟩ 42)) 44 [.string kb, .string ks] (b := w.heap.size + 1) (by simp)
  have HQ : Hid (rowsOk nm st l kb ks t = (goodF nm st l kb ks t && decide (t.size * l.length ≤ 800))) := Lib.hid rfl
  go_in
  go_wp2_with fail
  obtain ⟨w0, hw0⟩ : ∃ u, u = ((w.alloc (.cells #[.string nm, .int .i64 st, .slice A n c] 42)).alloc (.cells #[.string kb, .string ks] 44)) := ⟨_, rfl⟩
  rw [← hw0] at b0 K0 K1 ⊢
  clear hw0
  refine (impl_goodFor hn (h.up b0) hz hs hnm hst hkb hks ht).mono ?_; rintro e w1 ⟨rfl, hb1⟩
  have hB1 := below_go b0 hb1
  rcases hf : goodF nm st l kb ks t
  · have e1 := Lib.hid (show rowsOk nm st l kb ks t = false by rw [HQ.out, hf]; rfl)
    go_wp2
    go_ret2
    rw [e1.out]
    exact ⟨none, 0, 0, rfl, fun h => (by cases h), fun _ => ⟨rfl, rfl, rfl⟩, hB1⟩
  · obtain ⟨hk, hg⟩ := goodF_t' hf
    obtain ⟨m, rfl⟩ : ∃ m : Nat, st = (m : Int) := ⟨st.toNat, by
      have := (goodM_t (goodK_t hk).1).2.1
      omega⟩
    have L0 := K0.up hb1; have L1 := K1.up hb1
    have k0 := L0.cell 0; have k1 := L0.cell 1; have k2 := L0.cell 2; have q0 := L1.cell 0; have q1 := L1.cell 1
    simp only [List.getElem?_cons_zero, List.getElem?_cons_succ] at k0 k1 k2 q0 q1
    have e1 := Lib.hid (show rowsOk nm m l kb ks t = decide (t.size * n ≤ 800) by rw [HQ.out, hf, hn]; rfl)
    go_wp2_with fail
    refine (impl_touchRows hn (h.up hB1) hk hg).mono ?_; rintro e w2 ⟨A2, m2, c2, rfl, hy2, hn2, hb2⟩
    have HY := Lib.hid hy2
    have HN := Lib.hid hn2
    clear hy2 hn2
    go_wp2
    go_ret2
    rw [e1.out]
    refine ⟨_, _, _, rfl, fun hc => ?_, fun hc => HN.out (of_decide_eq_false hc), below_go hB1 hb2⟩
    obtain ⟨y1, y2⟩ := HY.out (of_decide_eq_true hc)
    exact ⟨y1, y2.base_le hB1.size⟩
end Go.Proofs.Ytmdmnjjlpefigaa
