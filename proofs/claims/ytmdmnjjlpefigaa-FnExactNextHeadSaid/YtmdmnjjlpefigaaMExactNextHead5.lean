/- Texts 5 of 5 that the claim leans on: plain laws and the walks' contracts, in order. -/
import Derived.Test.YtmdmnjjlpefigaaMExactNextHead4
/- The rows of a touch, the program's side. -/
namespace Go.Proofs.Ytmdmnjjlpefigaa
set_option linter.unusedVariables false
set_option linter.unusedSimpArgs false
open Go.ChangeShapes Go.WideShapes Go.ChangeAt Go.RowKit Go.Deep
theorem rowsL_cut (a : ByteArray) (l : List ByteArray) (n : Nat) : (rowsL a l (n + 1)).take n = rowsL a l n := by
  rw [rowsL_succ, List.take_append_of_le_length (by rw [rowsL_len]; exact Nat.le_refl _), List.take_of_length_le (by rw [rowsL_len]; exact Nat.le_refl _)]
theorem hdsL_cut (st : Nat) (l : List ByteArray) (b s t : ByteArray) (n : Nat) : (hdsL st l b s t (n + 1)).take n = hdsL st l b s t n := by
  rw [hdsL_succ, List.take_append_of_le_length (by rw [hdsL_len]; exact Nat.le_refl _), List.take_of_length_le (by rw [hdsL_len]; exact Nat.le_refl _)]
theorem Recs.front {α : Type} {e : α → List Value} {s : Nat} {w : World} {g : Nat} {l : List α} (h : Recs e s w (some ⟨g, 0, none⟩) l) (n : Nat) (hn : n ≤ l.length) : Recs e s w (some ⟨g, 0, none⟩) (l.take n) := by
  have := h.part 0 n (Nat.zero_le _) hn
  simpa using this
set_option maxHeartbeats 1000000 in
set_option maxRecDepth 100000 in
theorem impl_leadRows {A : Option Addr} {n c : Nat} {nm a : ByteArray} {st : Int} {l : List ByteArray} {w : World} (ha : a.size ≤ 8) (hn : l.length = n) (h : Strs w A l) (hz : n ≤ 1048576) (hs : ∀ s ∈ l, s.size ≤ 16777216) (hg : ∀ s ∈ l, isDash s = true ∨ validD s = true) :
    Calls Try.prog 176 #[.agg #[.string nm, .int .i64 st, .slice A n c], .string a] w fun e w' => ∃ A' c', e = .returned (.slice A' n c') ∧ Strs w' A' (rowsL a l n) ∧ Below w.heap.size w w' := by
  have b0 : Below w.heap.size w (w.alloc (.cells ⟨[.string nm, .int .i64 st, .slice A n c]⟩ 42)) := by (repeat' (first | (with_reducible exact Below.refl _ _) | (with_reducible assumption) | (with_reducible refine below_drewN ?_ _) | (with_reducible refine Below.drew ?_) | (with_reducible refine below_alloc ?_ _) | (with_reducible refine Below.alloc ?_ ?_ _) | (with_reducible refine Below.setCell ?_ ?_ _) | (with_reducible refine below_go ?_ (by with_reducible assumption)) | (with_reducible refine below_then (by with_reducible assumption) ?_ ?_) | go_size))
  have K0 := Blk.at_ w 42 [.string nm, .int .i64 st, .slice A n c] (b := w.heap.size) rfl
  have HG := Lib.hid hg
  have HS := Lib.hid hs
  clear hg hs
  go_in
  go_wp2_with fail
  obtain ⟨w0, hw0⟩ : ∃ u, u = (w.alloc (.cells #[.string nm, .int .i64 st, .slice A n c] 42)) := ⟨_, rfl⟩
  rw [← hw0] at b0 K0 ⊢
  clear hw0
  have H0 := Lib.hid (h.up b0)
  have carry : Hid (∀ u : World, Below w0.heap.size w0 u → u.cell? ⟨w.heap.size, 2, none⟩ = some (.slice A n c)) := Lib.hid (fun u hu => by
    have L0 := K0.up hu
    simpa using L0.cell 2)
  clear h K0
  have hwk : IntKind.i64.wrap (n : Int) = (n : Int) := wrap_id (by omega)
  have hle3 : (0 : Int) ≤ (n : Int) := by omega
  go_region_held3 (fun u => u.cell? ⟨w.heap.size, 2, none⟩ = some (.slice A n c)) (first | exact carry.out _ hb1 | exact carry.out _ (Below.refl _ _) | exact carry.out _ (Below.refl _ _).drew) (first | (go_at_call 146; ((refine (impl_rowsUnder ha hn H0.out.drew (by omega) HS.out HG.out).mono ?_); rintro e w1 ⟨A1, c1, rfl, ho, hbd⟩; have hb1 := below_of_drew hbd; have hcp := ho.cap; have hcI : (n : Int) ≤ (c1 : Int) := (by omega); obtain ⟨g, rfl, _⟩ := ho.at_ (by omega))))
  go_wp2
  go_ret
  exact ⟨_, _, rfl, by have q := ho.recs.front n (by rw [rowsL_len]; omega); rw [rowsL_cut] at q; exact q, below_go b0 hb1⟩
set_option maxHeartbeats 1000000 in
set_option maxRecDepth 100000 in
theorem impl_leadsFrom {A : Option Addr} {n c st : Nat} {nm : ByteArray} {l : List ByteArray} {kb ks : ByteArray} {t : ByteArray} {B : Option Addr} {m d : Nat} {w : World} (hn : l.length = n) (h : Strs w A l) (hk : goodK nm (st : Int) l kb ks = true) (hB : Strs w B (hdsL st l kb ks t m)) (hm : m ≤ 60) :
    Calls Try.prog 134 #[.agg #[.string nm, .int .i64 st, .slice A n c], .slice B m d] w fun e w' => ∃ A' m' c', e = .returned (.slice A' m' c') ∧ m' = m * n ∧ Owned strE 1 9 w' w.heap.size A' m' c' (tRows st l kb ks t m) ∧ Below w.heap.size w w' := by
  have b0 : Below w.heap.size w (w.alloc (.cells ⟨[.string nm, .int .i64 st, .slice A n c]⟩ 42)) := by (repeat' (first | (with_reducible exact Below.refl _ _) | (with_reducible assumption) | (with_reducible refine below_drewN ?_ _) | (with_reducible refine Below.drew ?_) | (with_reducible refine below_alloc ?_ _) | (with_reducible refine Below.alloc ?_ ?_ _) | (with_reducible refine Below.setCell ?_ ?_ _) | (with_reducible refine below_go ?_ (by with_reducible assumption)) | (with_reducible refine below_then (by with_reducible assumption) ?_ ?_) | go_size))
  have K0 := Blk.at_ w 42 [.string nm, .int .i64 st, .slice A n c] (b := w.heap.size) rfl
  obtain ⟨h8, h40, hgl, _⟩ := goodK_all hk
  have hn40 : n ≤ 40 := by omega
  have HS := Lib.hid (fun (s' : ByteArray) (hs' : s' ∈ l) => show s'.size ≤ 16777216 from by have := goodChange_small (hgl s' hs'); omega)
  have HG := Lib.hid (fun (x : ByteArray) (hx : x ∈ l) => good_valid (hgl x hx))
  clear hgl
  have HD := Lib.hid (fun k => hdAt_good h8.1 h8.2 l kb ks t k)
  go_in
  go_wp2_with fail
  obtain ⟨w1, hw1⟩ : ∃ u, u = (w.alloc (.cells #[.string nm, .int .i64 st, .slice A n c] 42)) := ⟨_, rfl⟩
  have sz1 : w1.heap.size = w.heap.size + 1 := by rw [hw1]; simp
  rw [← hw1] at b0 K0 ⊢
  clear hw1
  have H0 := Lib.hid (h.up b0)
  have HB := Lib.hid (hB.up b0)
  have carry : Hid (∀ u : World, Below w1.heap.size w1 u → u.cell? ⟨w.heap.size, 0, none⟩ = some (.string nm) ∧ u.cell? ⟨w.heap.size, 1, none⟩ = some (.int .i64 st) ∧ u.cell? ⟨w.heap.size, 2, none⟩ = some (.slice A n c)) := Lib.hid (fun u hu => by
    have L0 := K0.up hu
    exact ⟨by simpa using L0.cell 0, by simpa using L0.cell 1, by simpa using L0.cell 2⟩)
  clear h hB K0
  have HE : Hid (Owned strE 1 9 (w1.alloc (.cells #[] 9)) w1.heap.size (some ⟨w.heap.size + 1, 0, none⟩) 0 0 (tRows st l kb ks t 0)) := Lib.hid (by rw [← sz1]; exact Owned.empty (E := 9) strE_len w1 (Nat.le_refl _))
  clear sz1
  go_wp2
  go_loopw [5, 11] (fun v i wr => ∃ (k : Nat) (A' : Option Addr) (q c' : Nat), k ≤ m ∧ i = .int .i64 k ∧ v = .slice A' q c' ∧ q = k * n ∧ Owned strE 1 9 wr w1.heap.size A' q c' (tRows st l kb ks t k) ∧ Below w1.heap.size w1 wr) (fun _ i _ => m - (intOf i).toNat)
  case atStart => exact ⟨0, _, 0, _, Nat.zero_le _, rfl, rfl, by omega, HE.out, by (repeat' (first | (with_reducible exact Below.refl _ _) | (with_reducible assumption) | (with_reducible refine below_drewN ?_ _) | (with_reducible refine Below.drew ?_) | (with_reducible refine below_alloc ?_ _) | (with_reducible refine Below.alloc ?_ ?_ _) | (with_reducible refine Below.setCell ?_ ?_ _) | (with_reducible refine below_go ?_ (by with_reducible assumption)) | (with_reducible refine below_then (by with_reducible assumption) ?_ ?_) | go_size))⟩
  case round =>
    obtain ⟨k, A', q, c', hk1, rfl, rfl, hq, ho, hb⟩ := hrel
    have HO := Lib.hid ho
    have HM := Lib.hid hq
    have hmb : q ≤ 2400 := by rw [hq]; exact Nat.le_trans (Nat.mul_le_mul (show k ≤ 60 by omega) hn40) (by decide)
    have hsz := hb.size
    clear ho hq
    by_cases hlt : k < m
    · obtain ⟨b3, o3, y, rfl, hbb, hy, hcy⟩ := (HB.out.below hb (Nat.le_refl _)).at_str (k := k) (by rw [hdsL_len]; exact hlt)
      rw [hdsL_at hlt] at hy
      injection hy with hy
      subst hy
      obtain ⟨c0, c1, c2⟩ := carry.out _ hb
      have p2 := HD.out k
      have z1 : (hdAt st l kb ks t k).size ≤ 8 := by rw [p2.2]; omega
      have HT := Lib.hid (tRows_succ st l kb ks t k)
      clear p2
      go_wp2_with fail
      refine (impl_leadRows z1 hn (H0.out.below hb (Nat.le_refl _)) (by omega) HS.out HG.out).mono ?_; rintro e w2 ⟨A2, c3, rfl, hr2, hb2⟩
      have HO1 := Lib.hid (HO.out.up hb2)
      have hsz1 := hb2.size
      have hl2 : (rowsL (hdAt st l kb ks t k) l n).length = n := by rw [rowsL_len]
      go_wp2_with (first | (at_builtin; go_must ((refine wpList_append_recs Try.elStr strE_one rfl (.tmp 15) (.tmp 18) rfl rfl HO1.out rfl hr2 hl2 ?_ (by decide) ?_ ?_; (focus (first | omega | (simp only [World.size_alloc]; done) | (simp only [World.size_alloc]; omega) | (simp; done) | (simp; omega))); (focus (first | omega | (simp only [World.size_alloc]; done) | (simp only [World.size_alloc]; omega) | (simp; done) | (simp; omega))); intro A3 c4 w3 ho3 hg3 hn3))))
      go_roundw
      case rel => exact ⟨k + 1, A3, q + n, c4, by omega, by go_num, by go_num, by rw [HM.out, Nat.succ_mul], by rw [HT.out]; subst hn; exact ho3, (hb.trans (hb2.mono hsz)).trans ((grown_base hg3 (by omega) (fun z hz => (HO.out.range z hz).1)))⟩
      case measure => simp [intOf]; omega
    · obtain rfl : k = m := by omega
      go_wp2
      go_ret
      exact ⟨_, _, _, rfl, HM.out, HO.out.base_le b0.size, below_go b0 hb⟩
set_option maxHeartbeats 2000000 in
set_option maxRecDepth 100000 in
theorem impl_touchRows {A : Option Addr} {n c st : Nat} {nm : ByteArray} {l : List ByteArray} {kb ks : ByteArray} {t : ByteArray} {w : World} (hn : l.length = n) (h : Strs w A l) (hk : goodK nm (st : Int) l kb ks = true) (hg : goodT t = true) :
    Calls Try.prog 87 #[.agg #[.string nm, .int .i64 st, .slice A n c], .agg #[.string kb, .string ks], .string t] w fun e w' => ∃ A' m' c', e = .returned (.tuple #[.slice A' m' c', .bool (decide (t.size * n ≤ 800))]) ∧ (t.size * n ≤ 800 → m' = t.size * n ∧ Owned strE 1 9 w' w.heap.size A' m' c' (tRows st l kb ks t t.size)) ∧ (¬ t.size * n ≤ 800 → A' = none ∧ m' = 0 ∧ c' = 0) ∧ Below w.heap.size w w' := by
  have b0 : Below w.heap.size w ((w.alloc (.cells ⟨[.string nm, .int .i64 st, .slice A n c]⟩ 42)).alloc (.cells ⟨[.string kb, .string ks]⟩ 44)) := by (repeat' (first | (with_reducible exact Below.refl _ _) | (with_reducible assumption) | (with_reducible refine below_drewN ?_ _) | (with_reducible refine Below.drew ?_) | (with_reducible refine below_alloc ?_ _) | (with_reducible refine Below.alloc ?_ ?_ _) | (with_reducible refine Below.setCell ?_ ?_ _) | (with_reducible refine below_go ?_ (by with_reducible assumption)) | (with_reducible refine below_then (by with_reducible assumption) ?_ ?_) | go_size))
  have K0 := (Blk.at_ w 42 [.string nm, .int .i64 st, .slice A n c] (b := w.heap.size) rfl).alloc (.cells ⟨[.string kb, .string ks]⟩ 44)
  have K1 := Blk.at_ (w.alloc (.cells ⟨[.string nm, .int .i64 st, .slice A n c]⟩ 42)) 44 [.string kb, .string ks] (b := w.heap.size + 1) (by simp)
  obtain ⟨h8, h40, _⟩ := goodK_all hk
  obtain ⟨ht1, ht60, _⟩ := goodT_t hg
  have hn40 : n ≤ 40 := by omega
  have hmul : t.size * n ≤ 2400 := Nat.le_trans (Nat.mul_le_mul ht60 hn40) (by decide)
  have hmI : ((t.size * n : Nat) : Int) = (t.size : Int) * (n : Int) := by push_cast; rfl
  have hwr : IntKind.i64.wrap ((t.size : Int) * (n : Int)) = (t.size : Int) * (n : Int) := wrap_id (by omega)
  go_in
  by_cases hle : t.size * n ≤ 800
  · have hI : ¬ (800 : Int) < (t.size : Int) * (n : Int) := by omega
    have ED := Lib.hid (decide_eq_true hle)
    clear hmI
    go_wp2_with fail
    obtain ⟨w0, hw0⟩ : ∃ u, u = ((w.alloc (.cells #[.string nm, .int .i64 st, .slice A n c] 42)).alloc (.cells #[.string kb, .string ks] 44)) := ⟨_, rfl⟩
    rw [← hw0] at b0 K0 K1 ⊢
    clear hw0
    have H0 := Lib.hid (h.up b0)
    have carry : Hid (∀ u : World, Below w0.heap.size w0 u → (u.cell? ⟨w.heap.size, 0, none⟩ = some (.string nm) ∧ u.cell? ⟨w.heap.size, 1, none⟩ = some (.int .i64 st) ∧ u.cell? ⟨w.heap.size, 2, none⟩ = some (.slice A n c)) ∧ u.cell? ⟨w.heap.size + 1, 0, none⟩ = some (.string kb) ∧ u.cell? ⟨w.heap.size + 1, 1, none⟩ = some (.string ks)) := Lib.hid (fun u hu => by
      have L0 := K0.up hu; have L1 := K1.up hu
      exact ⟨⟨by simpa using L0.cell 0, by simpa using L0.cell 1, by simpa using L0.cell 2⟩, by simpa using L1.cell 0, by simpa using L1.cell 1⟩)
    clear h K0 K1
    have hwk : IntKind.i64.wrap (t.size : Int) = (t.size : Int) := wrap_id (by omega)
    have hle3 : (0 : Int) ≤ (t.size : Int) := by omega
    go_region_held3 (fun u => (u.cell? ⟨w.heap.size, 0, none⟩ = some (.string nm) ∧ u.cell? ⟨w.heap.size, 1, none⟩ = some (.int .i64 st) ∧ u.cell? ⟨w.heap.size, 2, none⟩ = some (.slice A n c)) ∧ u.cell? ⟨w.heap.size + 1, 0, none⟩ = some (.string kb) ∧ u.cell? ⟨w.heap.size + 1, 1, none⟩ = some (.string ks)) (first | exact carry.out _ C2 | exact carry.out _ hb1 | exact carry.out _ (Below.refl _ _) | exact carry.out _ (Below.refl _ _).drew) (first | (go_at_call 134; ((refine (impl_leadsFrom hn (H0.out.up hb1) hk hR1 ht60).mono ?_); rintro e w2 ⟨A2, m2, c2, rfl, hm2, ho2, hb2⟩; have C2 := Below.step' hb1 (Nat.le_refl _) hb2)) | (go_at_call 135; ((refine (impl_heads hn H0.out.drew hk hg).mono ?_); rintro e w1 ⟨A1, c1, rfl, ho, hbd⟩; have hb1 := below_of_drew hbd; have hcp := ho.cap; have hcI : (t.size : Int) ≤ (c1 : Int) := (by omega); obtain ⟨g, rfl, _⟩ := ho.at_ (by omega); have hR1 : Strs w1 (some ⟨g, 0, none⟩) (hdsL st l kb ks t t.size) := (by have q := ho.recs.front t.size (by rw [hdsL_len]; omega); rw [hdsL_cut] at q; exact q))))
    subst hm2
    go_wp2
    go_ret2
    rw [ED.out]
    exact ⟨_, _, _, rfl, fun _ => ⟨rfl, ho2.base_le (below_go b0 hb1).size⟩, fun hc => absurd hle hc, below_go (below_go b0 hb1) hb2⟩
  · have hI : (800 : Int) < (t.size : Int) * (n : Int) := by omega
    have ED := Lib.hid (decide_eq_false hle)
    clear hmI
    go_wp2
    go_ret2
    rw [ED.out]
    exact ⟨none, 0, 0, rfl, fun hc => absurd hc hle, fun _ => ⟨rfl, rfl, rfl⟩, b0⟩
set_option maxHeartbeats 1000000 in
theorem impl_TouchRows {A : Option Addr} {n c : Nat} {nm : ByteArray} {st : Int} {l : List ByteArray} {kb ks : ByteArray} {t : ByteArray} {w : World} (hn : l.length = n) (h : Strs w A l) (hz : n ≤ 1048576) (hs : ∀ s ∈ l, s.size ≤ 16777216) (hnm : nm.size ≤ 16777216) (hst : I64 st) (hkb : kb.size ≤ 16777216) (hks : ks.size ≤ 16777216) (ht : t.size ≤ 16777216) :
    Calls Try.prog 89 #[.agg #[.string nm, .int .i64 st, .slice A n c], .agg #[.string kb, .string ks], .string t] w fun e w' => ∃ A' m' c', e = .returned (.tuple #[.slice A' m' c', .bool (rowsOk nm st l kb ks t)]) ∧ (rowsOk nm st l kb ks t = true → m' = t.size * n ∧ Owned strE 1 9 w' w.heap.size A' m' c' (tRows st.toNat l kb ks t t.size)) ∧ (rowsOk nm st l kb ks t = false → A' = none ∧ m' = 0 ∧ c' = 0) ∧ Below w.heap.size w w' := by
  have b0 : Below w.heap.size w ((w.alloc (.cells ⟨[.string nm, .int .i64 st, .slice A n c]⟩ 42)).alloc (.cells ⟨[.string kb, .string ks]⟩ 44)) := by (repeat' (first | (with_reducible exact Below.refl _ _) | (with_reducible assumption) | (with_reducible refine below_drewN ?_ _) | (with_reducible refine Below.drew ?_) | (with_reducible refine below_alloc ?_ _) | (with_reducible refine Below.alloc ?_ ?_ _) | (with_reducible refine Below.setCell ?_ ?_ _) | (with_reducible refine below_go ?_ (by with_reducible assumption)) | (with_reducible refine below_then (by with_reducible assumption) ?_ ?_) | go_size))
  have K0 := (Blk.at_ w 42 [.string nm, .int .i64 st, .slice A n c] (b := w.heap.size) rfl).alloc (.cells ⟨[.string kb, .string ks]⟩ 44)
  have K1 := Blk.at_ (w.alloc (.cells ⟨[.string nm, .int .i64 st, .slice A n c]⟩ 42)) 44 [.string kb, .string ks] (b := w.heap.size + 1) (by simp)
  have HQ : Hid (rowsOk nm st l kb ks t = (goodF nm st l kb ks t && decide (t.size * l.length ≤ 800))) := Lib.hid rfl
  go_in
  go_wp2_with fail
  obtain ⟨w0, hw0⟩ : ∃ u, u = ((w.alloc (.cells #[.string nm, .int .i64 st, .slice A n c] 42)).alloc (.cells #[.string kb, .string ks] 44)) := ⟨_, rfl⟩
  rw [← hw0] at b0 K0 K1 ⊢
  clear hw0
  refine (impl_goodFor hn (h.up b0) hz hs hnm hst hkb hks ht).mono ?_; rintro e w1 ⟨rfl, hb1⟩
  have hB1 := below_go b0 hb1
  rcases hf : goodF nm st l kb ks t
  · have e1 := Lib.hid (show rowsOk nm st l kb ks t = false by rw [HQ.out, hf]; rfl)
    go_wp2
    go_ret2
    rw [e1.out]
    exact ⟨none, 0, 0, rfl, fun h => (by cases h), fun _ => ⟨rfl, rfl, rfl⟩, hB1⟩
  · obtain ⟨hk, hg⟩ := goodF_t' hf
    obtain ⟨m, rfl⟩ : ∃ m : Nat, st = (m : Int) := ⟨st.toNat, by
      have := (goodM_t (goodK_t hk).1).2.1
      omega⟩
    have L0 := K0.up hb1; have L1 := K1.up hb1
    have k0 := L0.cell 0; have k1 := L0.cell 1; have k2 := L0.cell 2; have q0 := L1.cell 0; have q1 := L1.cell 1
    simp only [List.getElem?_cons_zero, List.getElem?_cons_succ] at k0 k1 k2 q0 q1
    have e1 := Lib.hid (show rowsOk nm m l kb ks t = decide (t.size * n ≤ 800) by rw [HQ.out, hf, hn]; rfl)
    go_wp2_with fail
    refine (impl_touchRows hn (h.up hB1) hk hg).mono ?_; rintro e w2 ⟨A2, m2, c2, rfl, hy2, hn2, hb2⟩
    have HY := Lib.hid hy2
    have HN := Lib.hid hn2
    clear hy2 hn2
    go_wp2
    go_ret2
    rw [e1.out]
    refine ⟨_, _, _, rfl, fun hc => ?_, fun hc => HN.out (of_decide_eq_false hc), below_go hB1 hb2⟩
    obtain ⟨y1, y2⟩ := HY.out (of_decide_eq_true hc)
    exact ⟨y1, y2.base_le hB1.size⟩
end Go.Proofs.Ytmdmnjjlpefigaa
/- Faults of a touch, both sides. -/
namespace Go.Proofs.Ytmdmnjjlpefigaa
set_option linter.unusedVariables false
set_option linter.unusedSimpArgs false
open Go.ChangeShapes Go.WideShapes Go.ChangeAt Go.RowKit Go.Deep
/-- Do two leads and two rows of a lead lie in a touch? -/
def inF (t n f0 f1 f2 f3 : Int) : Bool := inB f0 0 (t - 1) && (inB f2 0 (t - 1) && (inB f1 0 (n - 1) && inB f3 0 (n - 1)))
def cfV (nm : ByteArray) (st : Int) (l : List ByteArray) (kb ks t : ByteArray) (f0 f1 f2 f3 : Int) : Bool :=
  if rowsOk nm st l kb ks t = true ∧ inF t.size l.length f0 f1 f2 f3 = true then decide (f0 * l.length + f1 < f2 * l.length + f3) && decide ((tRows st.toNat l kb ks t t.size)[(f0 * l.length + f1).toNat]? = (tRows st.toNat l kb ks t t.size)[(f2 * l.length + f3).toNat]?) else false
theorem cfV_no {nm : ByteArray} {st : Int} {l : List ByteArray} {kb ks t : ByteArray} {f0 f1 f2 f3 : Int} (h : rowsOk nm st l kb ks t = false) : cfV nm st l kb ks t f0 f1 f2 f3 = false := by rw [cfV, if_neg (by rw [h]; simp)]
theorem cfV_out {nm : ByteArray} {st : Int} {l : List ByteArray} {kb ks t : ByteArray} {f0 f1 f2 f3 : Int} (h : inF t.size l.length f0 f1 f2 f3 = false) : cfV nm st l kb ks t f0 f1 f2 f3 = false := by rw [cfV, if_neg (by rw [h]; simp)]
theorem cfV_in {nm : ByteArray} {m : Nat} {l : List ByteArray} {kb ks t : ByteArray} {f0 f1 f2 f3 : Int} (h : rowsOk nm (m : Int) l kb ks t = true) (h2 : inF t.size l.length f0 f1 f2 f3 = true) {a b : Nat} (ha : f0 * l.length + f1 = a) (hb : f2 * l.length + f3 = b) {x y : ByteArray} (hx : (tRows m l kb ks t t.size)[a]? = some x) (hy : (tRows m l kb ks t t.size)[b]? = some y) :
    cfV nm m l kb ks t f0 f1 f2 f3 = (decide ((a : Int) < (b : Int)) && decide (x = y)) := by
  rw [cfV, if_pos ⟨h, h2⟩, ha, hb]
  simp only [Int.toNat_natCast, hx, hy, Option.some.injEq]
theorem inF_t {t n f0 f1 f2 f3 : Int} (h : inF t n f0 f1 f2 f3 = true) : (0 ≤ f0 ∧ f0 < t) ∧ (0 ≤ f1 ∧ f1 < n) ∧ (0 ≤ f2 ∧ f2 < t) ∧ 0 ≤ f3 ∧ f3 < n := by
  simp only [inF, Bool.and_eq_true] at h
  have h1 := inB_t h.1; have h2 := inB_t h.2.1; have h3 := inB_t h.2.2.1; have h4 := inB_t h.2.2.2
  omega
theorem dec_str (x y : ByteArray) : decide (x = y) = (x.toList == y.toList) := by
  rcases h : (x.toList == y.toList)
  · exact decide_eq_false (fun e => by subst e; simp at h)
  · have h1 : x.toList = y.toList := by simpa using h
    exact decide_eq_true (ba_ext (by rw [← ByteArray.toList_eq, ← ByteArray.toList_eq]; exact h1))
theorem spot_lt {a0 a1 t n : Nat} (h0 : a0 < t) (h1 : a1 < n) : a0 * n + a1 < t * n := by
  have := Nat.mul_le_mul (show a0 + 1 ≤ t by omega) (Nat.le_refl n)
  rw [Nat.succ_mul] at this
  omega
set_option maxHeartbeats 4000000 in
set_option maxRecDepth 100000 in
theorem impl_CheckFault {A : Option Addr} {n c : Nat} {nm : ByteArray} {st : Int} {l : List ByteArray} {kb ks : ByteArray} {t : ByteArray} {f0 f1 f2 f3 : Int} {w : World} (hn : l.length = n) (h : Strs w A l) (hz : n ≤ 1048576) (hs : ∀ s ∈ l, s.size ≤ 16777216) (hnm : nm.size ≤ 16777216) (hst : I64 st) (hkb : kb.size ≤ 16777216) (hks : ks.size ≤ 16777216) (ht : t.size ≤ 16777216) :
    Calls Try.prog 42 #[.agg #[.string nm, .int .i64 st, .slice A n c], .agg #[.string kb, .string ks], .string t, .agg #[.int .i64 f0, .int .i64 f1, .int .i64 f2, .int .i64 f3]] w fun e w' => e = .returned (.tuple #[.bool (cfV nm st l kb ks t f0 f1 f2 f3), .bool (rowsOk nm st l kb ks t)]) ∧ Below w.heap.size w w' := by
  have b0 : Below w.heap.size w (((w.alloc (.cells ⟨[.string nm, .int .i64 st, .slice A n c]⟩ 42)).alloc (.cells ⟨[.string kb, .string ks]⟩ 44)).alloc (.cells ⟨[.int .i64 f0, .int .i64 f1, .int .i64 f2, .int .i64 f3]⟩ 58)) := by (repeat' (first | (with_reducible exact Below.refl _ _) | (with_reducible assumption) | (with_reducible refine below_drewN ?_ _) | (with_reducible refine Below.drew ?_) | (with_reducible refine below_alloc ?_ _) | (with_reducible refine Below.alloc ?_ ?_ _) | (with_reducible refine Below.setCell ?_ ?_ _) | (with_reducible refine below_go ?_ (by with_reducible assumption)) | (with_reducible refine below_then (by with_reducible assumption) ?_ ?_) | go_size))
  have K0 := ((Blk.at_ w 42 [.string nm, .int .i64 st, .slice A n c] (b := w.heap.size) rfl).alloc (.cells ⟨[.string kb, .string ks]⟩ 44)).alloc (.cells ⟨[.int .i64 f0, .int .i64 f1, .int .i64 f2, .int .i64 f3]⟩ 58)
  have K1 := (Blk.at_ (w.alloc (.cells ⟨[.string nm, .int .i64 st, .slice A n c]⟩ 42)) 44 [.string kb, .string ks] (b := w.heap.size + 1) (by simp)).alloc (.cells ⟨[.int .i64 f0, .int .i64 f1, .int .i64 f2, .int .i64 f3]⟩ 58)
  have K2 := Blk.at_ ((w.alloc (.cells ⟨[.string nm, .int .i64 st, .slice A n c]⟩ 42)).alloc (.cells ⟨[.string kb, .string ks]⟩ 44)) 58 [.int .i64 f0, .int .i64 f1, .int .i64 f2, .int .i64 f3] (b := w.heap.size + 1 + 1) (by simp)
  have HQ : Hid (rowsOk nm st l kb ks t = (goodF nm st l kb ks t && decide (t.size * l.length ≤ 800))) := Lib.hid rfl
  go_in
  go_wp2_with fail
  obtain ⟨w0, hw0⟩ : ∃ u, u = (((w.alloc (.cells #[.string nm, .int .i64 st, .slice A n c] 42)).alloc (.cells #[.string kb, .string ks] 44)).alloc (.cells #[.int .i64 f0, .int .i64 f1, .int .i64 f2, .int .i64 f3] 58)) := ⟨_, rfl⟩
  rw [← hw0] at b0 K0 K1 K2 ⊢
  clear hw0
  refine (impl_goodFor hn (h.up b0) hz hs hnm hst hkb hks ht).mono ?_; rintro e w1 ⟨rfl, hb1⟩
  have hB1 := below_go b0 hb1
  rcases hf : goodF nm st l kb ks t
  · have e2 := Lib.hid (show rowsOk nm st l kb ks t = false by rw [HQ.out, hf]; rfl)
    have e1 := Lib.hid (cfV_no (f0 := f0) (f1 := f1) (f2 := f2) (f3 := f3) e2.out)
    go_wp2
    go_ret2
    rw [e1.out, e2.out]
    exact ⟨rfl, hB1⟩
  · obtain ⟨hk, hg⟩ := goodF_t' hf
    obtain ⟨m, rfl⟩ : ∃ m : Nat, st = (m : Int) := ⟨st.toNat, by
      have := (goodM_t (goodK_t hk).1).2.1
      omega⟩
    have L0 := K0.up hb1; have L1 := K1.up hb1; have L2 := K2.up hb1
    have k0 := L0.cell 0; have k1 := L0.cell 1; have k2 := L0.cell 2; have q0 := L1.cell 0; have q1 := L1.cell 1
    simp only [List.getElem?_cons_zero, List.getElem?_cons_succ] at k0 k1 k2 q0 q1
    have e2 := Lib.hid (show rowsOk nm m l kb ks t = decide (t.size * n ≤ 800) by rw [HQ.out, hf, hn]; rfl)
    go_wp2_with fail
    refine (impl_touchRows hn (h.up hB1) hk hg).mono ?_; rintro e w2 ⟨A2, m2, c2, rfl, hy2, hn2, hb2⟩
    have hB2 := below_go hB1 hb2
    clear k0 k1 k2 q0 q1
    by_cases hle : t.size * n ≤ 800
    · obtain ⟨rfl, ho⟩ := hy2 hle
      clear hn2 hy2
      have ED := Lib.hid (decide_eq_true hle)
      have M0 := L0.up hb2; have M2 := L2.up hb2
      have k2 := M0.cell 2; have r0 := M2.cell 0; have r1 := M2.cell 1; have r2 := M2.cell 2; have r3 := M2.cell 3
      simp only [List.getElem?_cons_zero, List.getElem?_cons_succ] at k2 r0 r1 r2 r3
      have ht60 := (goodT_t hg).2.1
      have hwt : IntKind.i64.wrap ((t.size : Int) - 1) = (t.size : Int) - 1 := wrap_id (by omega)
      have hn40 : n ≤ 40 := by have := (goodK_all hk).2.1; omega
      have hwn : IntKind.i64.wrap ((n : Int) - 1) = (n : Int) - 1 := wrap_id (by omega)
      rw [ED.out]
      have HB := hB2
      rcases i0 : inB f0 0 ((t.size : Int) - 1)
      · have e4 := Lib.hid (show inF t.size l.length f0 f1 f2 f3 = false by rw [inF, hn, i0]; simp)
        have e1 := Lib.hid (cfV_out (nm := nm) (st := m) (kb := kb) (ks := ks) e4.out)
        go_wp2_with fail
        refine (impl_within _ _ _ _).mono ?_; rw [i0]; rintro e w' ⟨rfl, rfl⟩
        go_wp2
        go_ret2
        rw [e1.out, e2.out, ED.out]
        exact ⟨rfl, HB⟩
      · go_wp2_with fail
        refine (impl_within _ _ _ _).mono ?_; rw [i0]; rintro e w' ⟨rfl, rfl⟩
        rcases i2 : inB f2 0 ((t.size : Int) - 1)
        · have e4 := Lib.hid (show inF t.size l.length f0 f1 f2 f3 = false by rw [inF, hn, i0, i2]; simp)
          have e1 := Lib.hid (cfV_out (nm := nm) (st := m) (kb := kb) (ks := ks) e4.out)
          go_wp2_with fail
          refine (impl_within _ _ _ _).mono ?_; rw [i2]; rintro e w' ⟨rfl, rfl⟩
          go_wp2
          go_ret2
          rw [e1.out, e2.out, ED.out]
          exact ⟨rfl, HB⟩
        · go_wp2_with fail
          refine (impl_within _ _ _ _).mono ?_; rw [i2]; rintro e w' ⟨rfl, rfl⟩
          rcases i1 : inB f1 0 ((n : Int) - 1)
          · have e4 := Lib.hid (show inF t.size l.length f0 f1 f2 f3 = false by rw [inF, hn, i0, i2, i1]; simp)
            have e1 := Lib.hid (cfV_out (nm := nm) (st := m) (kb := kb) (ks := ks) e4.out)
            go_wp2_with fail
            refine (impl_within _ _ _ _).mono ?_; rw [i1]; rintro e w' ⟨rfl, rfl⟩
            go_wp2
            go_ret2
            rw [e1.out, e2.out, ED.out]
            exact ⟨rfl, HB⟩
          · go_wp2_with fail
            refine (impl_within _ _ _ _).mono ?_; rw [i1]; rintro e w' ⟨rfl, rfl⟩
            rcases i3 : inB f3 0 ((n : Int) - 1)
            · have e4 := Lib.hid (show inF t.size l.length f0 f1 f2 f3 = false by rw [inF, hn, i0, i2, i1, i3]; simp)
              have e1 := Lib.hid (cfV_out (nm := nm) (st := m) (kb := kb) (ks := ks) e4.out)
              go_wp2_with fail
              refine (impl_within _ _ _ _).mono ?_; rw [i3]; rintro e w' ⟨rfl, rfl⟩
              go_wp2
              go_ret2
              rw [e1.out, e2.out, ED.out]
              exact ⟨rfl, HB⟩
            · go_wp2_with fail
              refine (impl_within _ _ _ _).mono ?_; rw [i3]; rintro e w' ⟨rfl, rfl⟩
              have e4 := Lib.hid (show inF t.size l.length f0 f1 f2 f3 = true by rw [inF, hn, i0, i2, i1, i3]; rfl)
              have bb := inF_t e4.out
              rw [hn] at bb
              obtain ⟨a0, rfl⟩ : ∃ k : Nat, f0 = (k : Int) := ⟨f0.toNat, by omega⟩
              obtain ⟨a1, rfl⟩ : ∃ k : Nat, f1 = (k : Int) := ⟨f1.toNat, by omega⟩
              obtain ⟨a2, rfl⟩ : ∃ k : Nat, f2 = (k : Int) := ⟨f2.toNat, by omega⟩
              obtain ⟨a3, rfl⟩ : ∃ k : Nat, f3 = (k : Int) := ⟨f3.toNat, by omega⟩
              clear i0 i1 i2 i3
              have la : a0 * n + a1 < t.size * n := spot_lt (by omega) (by omega)
              have lb : a2 * n + a3 < t.size * n := spot_lt (by omega) (by omega)
              obtain ⟨p, hp⟩ : ∃ p, p = a0 * n := ⟨_, rfl⟩
              obtain ⟨q, hq⟩ : ∃ q, q = a2 * n := ⟨_, rfl⟩
              rw [← hp] at la
              rw [← hq] at lb
              obtain ⟨a, ha⟩ : ∃ a, a = p + a1 := ⟨_, rfl⟩
              obtain ⟨b, hb⟩ : ∃ b, b = q + a3 := ⟨_, rfl⟩
              rw [← ha] at la
              rw [← hb] at lb
              have eP : (a0 : Int) * (n : Int) = (p : Int) := by rw [hp]; push_cast; rfl
              have eQ : (a2 : Int) * (n : Int) = (q : Int) := by rw [hq]; push_cast; rfl
              have eA : (p : Int) + (a1 : Int) = (a : Int) := by omega
              have eB : (q : Int) + (a3 : Int) = (b : Int) := by omega
              have wP : IntKind.i64.wrap ((a0 : Int) * (n : Int)) = (p : Int) := by rw [eP]; exact wrap_id (by omega)
              have wQ : IntKind.i64.wrap ((a2 : Int) * (n : Int)) = (q : Int) := by rw [eQ]; exact wrap_id (by omega)
              have wA : IntKind.i64.wrap ((p : Int) + (a1 : Int)) = (a : Int) := by rw [eA]; exact wrap_id (by omega)
              have wB : IntKind.i64.wrap ((q : Int) + (a3 : Int)) = (b : Int) := by rw [eB]; exact wrap_id (by omega)
              obtain ⟨x, hx⟩ := some_of_lt (l := tRows m l kb ks t t.size) (k := a) (by rw [tRows_len, hn]; exact la)
              obtain ⟨y, hy⟩ := some_of_lt (l := tRows m l kb ks t t.size) (k := b) (by rw [tRows_len, hn]; exact lb)
              have e3 := Lib.hid (show rowsOk nm m l kb ks t = true by rw [e2.out, ED.out])
              have EV := Lib.hid (cfV_in e3.out e4.out (a := a) (b := b) (by rw [hn, eP, eA]) (by rw [hn, eQ, eB]) hx hy)
              obtain ⟨g, rfl, _, _, gc, _⟩ := ho.at_ (by omega)
              have ca := gc a x 0 _ hx rfl
              have cb := gc b y 0 _ hy rfl
              simp only [Nat.mul_one, Nat.add_zero] at ca cb
              clear gc hx hy eP eQ eA eB bb hp hq ha hb e4 ho
              go_wp2_with fail
              go_region_held3 (fun u => u.cell? ⟨w.heap.size + 1 + 1, 0, none⟩ = some (.int .i64 a0) ∧ u.cell? ⟨w.heap.size + 1 + 1, 1, none⟩ = some (.int .i64 a1) ∧ u.cell? ⟨w.heap.size + 1 + 1, 2, none⟩ = some (.int .i64 a2) ∧ u.cell? ⟨w.heap.size + 1 + 1, 3, none⟩ = some (.int .i64 a3)) (first | exact ⟨r0, r1, r2, r3⟩) (first | fail)
              go_wp2_with fail
              by_cases hab : (a : Int) < (b : Int)
              · have EV2 := Lib.hid (show cfV nm m l kb ks t a0 a1 a2 a3 = (x.toList == y.toList) by rw [EV.out, decide_eq_true hab, Bool.true_and, dec_str])
                go_region
                all_goals
                  go_wp2
                  go_ret2
                  rw [EV2.out, e3.out]
                  exact ⟨rfl, by (repeat' (first | (with_reducible exact Below.refl _ _) | (with_reducible assumption) | (with_reducible refine below_drewN ?_ _) | (with_reducible refine Below.drew ?_) | (with_reducible refine below_alloc ?_ _) | (with_reducible refine Below.alloc ?_ ?_ _) | (with_reducible refine Below.setCell ?_ ?_ _) | (with_reducible refine below_go ?_ (by with_reducible assumption)) | (with_reducible refine below_then (by with_reducible assumption) ?_ ?_) | go_size))⟩
              · have EV2 := Lib.hid (show cfV nm m l kb ks t a0 a1 a2 a3 = false by rw [EV.out, decide_eq_false hab, Bool.false_and])
                go_region
                all_goals
                  go_wp2
                  go_ret2
                  rw [EV2.out, e3.out]
                  exact ⟨rfl, by (repeat' (first | (with_reducible exact Below.refl _ _) | (with_reducible assumption) | (with_reducible refine below_drewN ?_ _) | (with_reducible refine Below.drew ?_) | (with_reducible refine below_alloc ?_ _) | (with_reducible refine Below.alloc ?_ ?_ _) | (with_reducible refine Below.setCell ?_ ?_ _) | (with_reducible refine below_go ?_ (by with_reducible assumption)) | (with_reducible refine below_then (by with_reducible assumption) ?_ ?_) | go_size))⟩
    · obtain ⟨rfl, rfl, rfl⟩ := hn2 hle
      have ED := Lib.hid (decide_eq_false hle)
      have e3 := Lib.hid (show rowsOk nm m l kb ks t = false by rw [e2.out, ED.out])
      have e1 := Lib.hid (cfV_no (f0 := f0) (f1 := f1) (f2 := f2) (f3 := f3) e3.out)
      clear hy2 hn2
      rw [ED.out]
      go_wp2
      go_ret2
      rw [e1.out, e3.out]
      exact ⟨rfl, hB2⟩
set_option maxHeartbeats 4000000 in
set_option maxRecDepth 100000 in
theorem spec_CheckFault {A : Option Addr} {n c : Nat} {nm : ByteArray} {st : Int} {l : List ByteArray} {kb ks : ByteArray} {t : ByteArray} {f0 f1 f2 f3 : Int} {w : World} (hn : l.length = n) (h : Strs w A l) (hz : n ≤ 1048576) (hs : ∀ s ∈ l, s.size ≤ 16777216) (hnm : nm.size ≤ 16777216) (hst : I64 st) (hkb : kb.size ≤ 16777216) (hks : ks.size ≤ 16777216) (hcap : n ≤ c) (ht : t.size ≤ 16777216) :
    Calls Try.prog 40 #[.agg #[.string nm, .int .i64 st, .slice A n c], .agg #[.string kb, .string ks], .string t, .agg #[.int .i64 f0, .int .i64 f1, .int .i64 f2, .int .i64 f3]] w fun e w' => e = .returned (.tuple #[.bool (cfV nm st l kb ks t f0 f1 f2 f3), .bool (rowsOk nm st l kb ks t)]) ∧ Below w.heap.size w w' := by
  have b0 : Below w.heap.size w (((w.alloc (.cells ⟨[.string nm, .int .i64 st, .slice A n c]⟩ 42)).alloc (.cells ⟨[.string kb, .string ks]⟩ 44)).alloc (.cells ⟨[.int .i64 f0, .int .i64 f1, .int .i64 f2, .int .i64 f3]⟩ 58)) := by (repeat' (first | (with_reducible exact Below.refl _ _) | (with_reducible assumption) | (with_reducible refine below_drewN ?_ _) | (with_reducible refine Below.drew ?_) | (with_reducible refine below_alloc ?_ _) | (with_reducible refine Below.alloc ?_ ?_ _) | (with_reducible refine Below.setCell ?_ ?_ _) | (with_reducible refine below_go ?_ (by with_reducible assumption)) | (with_reducible refine below_then (by with_reducible assumption) ?_ ?_) | go_size))
  have K0 := ((Blk.at_ w 42 [.string nm, .int .i64 st, .slice A n c] (b := w.heap.size) rfl).alloc (.cells ⟨[.string kb, .string ks]⟩ 44)).alloc (.cells ⟨[.int .i64 f0, .int .i64 f1, .int .i64 f2, .int .i64 f3]⟩ 58)
  have K1 := (Blk.at_ (w.alloc (.cells ⟨[.string nm, .int .i64 st, .slice A n c]⟩ 42)) 44 [.string kb, .string ks] (b := w.heap.size + 1) (by simp)).alloc (.cells ⟨[.int .i64 f0, .int .i64 f1, .int .i64 f2, .int .i64 f3]⟩ 58)
  have K2 := Blk.at_ ((w.alloc (.cells ⟨[.string nm, .int .i64 st, .slice A n c]⟩ 42)).alloc (.cells ⟨[.string kb, .string ks]⟩ 44)) 58 [.int .i64 f0, .int .i64 f1, .int .i64 f2, .int .i64 f3] (b := w.heap.size + 1 + 1) (by simp)
  have HQ : Hid (rowsOk nm st l kb ks t = (goodF nm st l kb ks t && decide (t.size * l.length ≤ 800))) := Lib.hid rfl
  go_in
  go_wp2_with fail
  obtain ⟨w0, hw0⟩ : ∃ u, u = (((w.alloc (.cells #[.string nm, .int .i64 st, .slice A n c] 42)).alloc (.cells #[.string kb, .string ks] 44)).alloc (.cells #[.int .i64 f0, .int .i64 f1, .int .i64 f2, .int .i64 f3] 58)) := ⟨_, rfl⟩
  rw [← hw0] at b0 K0 K1 K2 ⊢
  clear hw0
  refine (spec_TouchRows hn (h.up b0) hz hs hnm hst hkb hks hcap ht).mono ?_; rintro e w2 ⟨A2, m2, c2, rfl, hy2, hn2, hb1⟩
  have hB2 := below_go b0 hb1
  rcases hf : rowsOk nm st l kb ks t
  · have e2 := Lib.hid hf
    have e1 := Lib.hid (cfV_no (f0 := f0) (f1 := f1) (f2 := f2) (f3 := f3) hf)
    clear hy2 hn2
    go_wp2
    go_ret2
    rw [e1.out, e2.out]
    exact ⟨rfl, hB2⟩
  · have hf2 : goodF nm st l kb ks t = true ∧ t.size * l.length ≤ 800 := by
      have := HQ.out
      rw [hf] at this
      have h2 := this.symm
      rw [Bool.and_eq_true] at h2
      exact ⟨h2.1, of_decide_eq_true h2.2⟩
    obtain ⟨hk, hg⟩ := goodF_t' hf2.1
    obtain ⟨m, rfl⟩ : ∃ m : Nat, st = (m : Int) := ⟨st.toNat, by
      have := (goodM_t (goodK_t hk).1).2.1
      omega⟩
    have hle : t.size * n ≤ 800 := by rw [← hn]; exact hf2.2
    have e2 := Lib.hid hf
    have L0 := K0; have L2 := K2; have hb2 := hb1
    obtain ⟨rfl, ho⟩ := hy2 hf
    have ho : Owned strE 1 9 w2 _ A2 (t.size * n) c2 (tRows m l kb ks t t.size) := ho
    clear hn2 hy2 hf2 hf
    have ED := Lib.hid (show True from trivial)
    · have M0 := L0.up hb2; have M2 := L2.up hb2
      have k2 := M0.cell 2; have r0 := M2.cell 0; have r1 := M2.cell 1; have r2 := M2.cell 2; have r3 := M2.cell 3
      simp only [List.getElem?_cons_zero, List.getElem?_cons_succ] at k2 r0 r1 r2 r3
      have ht60 := (goodT_t hg).2.1
      have hwt : IntKind.i64.wrap ((t.size : Int) - 1) = (t.size : Int) - 1 := wrap_id (by omega)
      have hn40 : n ≤ 40 := by have := (goodK_all hk).2.1; omega
      have hwn : IntKind.i64.wrap ((n : Int) - 1) = (n : Int) - 1 := wrap_id (by omega)
      have HB := hB2
      rcases i0 : inB f0 0 ((t.size : Int) - 1)
      · have e4 := Lib.hid (show inF t.size l.length f0 f1 f2 f3 = false by rw [inF, hn, i0]; simp)
        have e1 := Lib.hid (cfV_out (nm := nm) (st := m) (kb := kb) (ks := ks) e4.out)
        go_wp2_with fail
        refine (spec_l1In _ _ _ _).mono ?_; rw [i0]; rintro e w' ⟨rfl, rfl⟩
        go_wp2
        go_ret2
        rw [e1.out, e2.out]
        exact ⟨rfl, HB⟩
      · go_wp2_with fail
        refine (spec_l1In _ _ _ _).mono ?_; rw [i0]; rintro e w' ⟨rfl, rfl⟩
        rcases i2 : inB f2 0 ((t.size : Int) - 1)
        · have e4 := Lib.hid (show inF t.size l.length f0 f1 f2 f3 = false by rw [inF, hn, i0, i2]; simp)
          have e1 := Lib.hid (cfV_out (nm := nm) (st := m) (kb := kb) (ks := ks) e4.out)
          go_wp2_with fail
          refine (spec_l1In _ _ _ _).mono ?_; rw [i2]; rintro e w' ⟨rfl, rfl⟩
          go_wp2
          go_ret2
          rw [e1.out, e2.out]
          exact ⟨rfl, HB⟩
        · go_wp2_with fail
          refine (spec_l1In _ _ _ _).mono ?_; rw [i2]; rintro e w' ⟨rfl, rfl⟩
          rcases i1 : inB f1 0 ((n : Int) - 1)
          · have e4 := Lib.hid (show inF t.size l.length f0 f1 f2 f3 = false by rw [inF, hn, i0, i2, i1]; simp)
            have e1 := Lib.hid (cfV_out (nm := nm) (st := m) (kb := kb) (ks := ks) e4.out)
            go_wp2_with fail
            refine (spec_l1In _ _ _ _).mono ?_; rw [i1]; rintro e w' ⟨rfl, rfl⟩
            go_wp2
            go_ret2
            rw [e1.out, e2.out]
            exact ⟨rfl, HB⟩
          · go_wp2_with fail
            refine (spec_l1In _ _ _ _).mono ?_; rw [i1]; rintro e w' ⟨rfl, rfl⟩
            rcases i3 : inB f3 0 ((n : Int) - 1)
            · have e4 := Lib.hid (show inF t.size l.length f0 f1 f2 f3 = false by rw [inF, hn, i0, i2, i1, i3]; simp)
              have e1 := Lib.hid (cfV_out (nm := nm) (st := m) (kb := kb) (ks := ks) e4.out)
              go_wp2_with fail
              refine (spec_l1In _ _ _ _).mono ?_; rw [i3]; rintro e w' ⟨rfl, rfl⟩
              go_wp2
              go_ret2
              rw [e1.out, e2.out]
              exact ⟨rfl, HB⟩
            · go_wp2_with fail
              refine (spec_l1In _ _ _ _).mono ?_; rw [i3]; rintro e w' ⟨rfl, rfl⟩
              have e4 := Lib.hid (show inF t.size l.length f0 f1 f2 f3 = true by rw [inF, hn, i0, i2, i1, i3]; rfl)
              have bb := inF_t e4.out
              rw [hn] at bb
              obtain ⟨a0, rfl⟩ : ∃ k : Nat, f0 = (k : Int) := ⟨f0.toNat, by omega⟩
              obtain ⟨a1, rfl⟩ : ∃ k : Nat, f1 = (k : Int) := ⟨f1.toNat, by omega⟩
              obtain ⟨a2, rfl⟩ : ∃ k : Nat, f2 = (k : Int) := ⟨f2.toNat, by omega⟩
              obtain ⟨a3, rfl⟩ : ∃ k : Nat, f3 = (k : Int) := ⟨f3.toNat, by omega⟩
              clear i0 i1 i2 i3
              have la : a0 * n + a1 < t.size * n := spot_lt (by omega) (by omega)
              have lb : a2 * n + a3 < t.size * n := spot_lt (by omega) (by omega)
              obtain ⟨p, hp⟩ : ∃ p, p = a0 * n := ⟨_, rfl⟩
              obtain ⟨q, hq⟩ : ∃ q, q = a2 * n := ⟨_, rfl⟩
              rw [← hp] at la
              rw [← hq] at lb
              obtain ⟨a, ha⟩ : ∃ a, a = p + a1 := ⟨_, rfl⟩
              obtain ⟨b, hb⟩ : ∃ b, b = q + a3 := ⟨_, rfl⟩
              rw [← ha] at la
              rw [← hb] at lb
              have eP : (a0 : Int) * (n : Int) = (p : Int) := by rw [hp]; push_cast; rfl
              have eQ : (a2 : Int) * (n : Int) = (q : Int) := by rw [hq]; push_cast; rfl
              have eA : (p : Int) + (a1 : Int) = (a : Int) := by omega
              have eB : (q : Int) + (a3 : Int) = (b : Int) := by omega
              have wP : IntKind.i64.wrap ((a0 : Int) * (n : Int)) = (p : Int) := by rw [eP]; exact wrap_id (by omega)
              have wQ : IntKind.i64.wrap ((a2 : Int) * (n : Int)) = (q : Int) := by rw [eQ]; exact wrap_id (by omega)
              have wA : IntKind.i64.wrap ((p : Int) + (a1 : Int)) = (a : Int) := by rw [eA]; exact wrap_id (by omega)
              have wB : IntKind.i64.wrap ((q : Int) + (a3 : Int)) = (b : Int) := by rw [eB]; exact wrap_id (by omega)
              obtain ⟨x, hx⟩ := some_of_lt (l := tRows m l kb ks t t.size) (k := a) (by rw [tRows_len, hn]; exact la)
              obtain ⟨y, hy⟩ := some_of_lt (l := tRows m l kb ks t t.size) (k := b) (by rw [tRows_len, hn]; exact lb)
              have e3 := Lib.hid (show rowsOk nm m l kb ks t = true from e2.out)
              have EV := Lib.hid (cfV_in e3.out e4.out (a := a) (b := b) (by rw [hn, eP, eA]) (by rw [hn, eQ, eB]) hx hy)
              obtain ⟨g, rfl, _, _, gc, _⟩ := ho.at_ (by omega)
              have ca := gc a x 0 _ hx rfl
              have cb := gc b y 0 _ hy rfl
              simp only [Nat.mul_one, Nat.add_zero] at ca cb
              clear gc hx hy eP eQ eA eB bb hp hq ha hb e4 ho
              go_wp2_with fail
              go_region_held3 (fun u => u.cell? ⟨w.heap.size + 1 + 1, 0, none⟩ = some (.int .i64 a0) ∧ u.cell? ⟨w.heap.size + 1 + 1, 1, none⟩ = some (.int .i64 a1) ∧ u.cell? ⟨w.heap.size + 1 + 1, 2, none⟩ = some (.int .i64 a2) ∧ u.cell? ⟨w.heap.size + 1 + 1, 3, none⟩ = some (.int .i64 a3)) (first | exact ⟨r0, r1, r2, r3⟩) (first | fail)
              go_wp2_with fail
              by_cases hab : (a : Int) < (b : Int)
              · have EV2 := Lib.hid (show cfV nm m l kb ks t a0 a1 a2 a3 = (x.toList == y.toList) by rw [EV.out, decide_eq_true hab, Bool.true_and, dec_str])
                go_region
                all_goals
                  go_wp2
                  go_ret2
                  rw [EV2.out, e3.out]
                  exact ⟨rfl, by (repeat' (first | (with_reducible exact Below.refl _ _) | (with_reducible assumption) | (with_reducible refine below_drewN ?_ _) | (with_reducible refine Below.drew ?_) | (with_reducible refine below_alloc ?_ _) | (with_reducible refine Below.alloc ?_ ?_ _) | (with_reducible refine Below.setCell ?_ ?_ _) | (with_reducible refine below_go ?_ (by with_reducible assumption)) | (with_reducible refine below_then (by with_reducible assumption) ?_ ?_) | go_size))⟩
              · have EV2 := Lib.hid (show cfV nm m l kb ks t a0 a1 a2 a3 = false by rw [EV.out, decide_eq_false hab, Bool.false_and])
                go_region
                all_goals
                  go_wp2
                  go_ret2
                  rw [EV2.out, e3.out]
                  exact ⟨rfl, by (repeat' (first | (with_reducible exact Below.refl _ _) | (with_reducible assumption) | (with_reducible refine below_drewN ?_ _) | (with_reducible refine Below.drew ?_) | (with_reducible refine below_alloc ?_ _) | (with_reducible refine Below.alloc ?_ ?_ _) | (with_reducible refine Below.setCell ?_ ?_ _) | (with_reducible refine below_go ?_ (by with_reducible assumption)) | (with_reducible refine below_then (by with_reducible assumption) ?_ ?_) | go_size))⟩
end Go.Proofs.Ytmdmnjjlpefigaa
/- The sign of a touch, the reference's side. -/
namespace Go.Proofs.Ytmdmnjjlpefigaa
set_option linter.unusedVariables false
set_option linter.unusedSimpArgs false
open Go.ChangeShapes Go.WideShapes Go.ChangeAt Go.RowKit Go.Deep
/-- The sign of the last head. -/
def tsV (nm : ByteArray) (st : Int) (l : List ByteArray) (kb ks t : ByteArray) : Bool := if goodF nm st l kb ks t = true then evenRow (hdAt st.toNat l kb ks t t.size) else false
theorem tsV_f {nm : ByteArray} {st : Int} {l : List ByteArray} {kb ks t : ByteArray} (h : goodF nm st l kb ks t = false) : tsV nm st l kb ks t = false := by rw [tsV, if_neg (by rw [h]; simp)]
theorem tsV_t {nm : ByteArray} {st : Nat} {l : List ByteArray} {kb ks t : ByteArray} (h : goodF nm (st : Int) l kb ks t = true) : tsV nm st l kb ks t = evenRow (hdAt st l kb ks t t.size) := by rw [tsV, if_pos h]; rfl
theorem goodF_t {nm : ByteArray} {st : Int} {l : List ByteArray} {kb ks t : ByteArray} (h : goodF nm st l kb ks t = true) : goodK nm st l kb ks = true ∧ goodT t = true := by
  rw [goodF, Bool.and_eq_true] at h; exact h
theorem ev_step {nm : ByteArray} {st : Nat} {l : List ByteArray} {kb ks t : ByteArray} (h : goodK nm (st : Int) l kb ks = true) (k : Nat) :
    evenRow (hdAt st l kb ks t (k + 1)) = (evenRow (hdAt st l kb ks t k) == evenRow (callHd st l kb ks (letter t k))) := by
  obtain ⟨h8, h40, _⟩ := goodK_all h
  have g := hdAt_good h8.1 h8.2 l kb ks t k
  have e := sign_times_head g.1 (chOf l kb ks (letter t k)) (l := l) (by omega)
  rw [g.2] at e
  exact e
theorem ev_zero {st : Nat} (h : 3 ≤ st) (h8 : st ≤ 8) (l : List ByteArray) (kb ks t : ByteArray) : evenRow (hdAt st l kb ks t 0) = true := by
  rw [hdAt]
  have : ∀ n : Nat, n < 9 → 3 ≤ n → evenRow (roundsS n) = true := by decide +kernel
  exact this st (by omega) h
set_option maxHeartbeats 2000000 in
set_option maxRecDepth 100000 in
theorem spec_TouchSign {A : Option Addr} {n c : Nat} {nm : ByteArray} {st : Int} {l : List ByteArray} {kb ks : ByteArray} {t : ByteArray} {w : World} (hn : l.length = n) (h : Strs w A l) (hz : n ≤ 1048576) (hs : ∀ s ∈ l, s.size ≤ 16777216) (hnm : nm.size ≤ 16777216) (hst : I64 st) (hkb : kb.size ≤ 16777216) (hks : ks.size ≤ 16777216) (hcap : n ≤ c) (ht : t.size ≤ 16777216) :
    Calls Try.prog 29 #[.agg #[.string nm, .int .i64 st, .slice A n c], .agg #[.string kb, .string ks], .string t] w fun e w' => e = .returned (.tuple #[.bool (tsV nm st l kb ks t), .bool (goodF nm st l kb ks t)]) ∧ Below w.heap.size w w' := by
  have HQ : Hid (goodF nm st l kb ks t = (goodK nm st l kb ks && goodT t)) := Lib.hid rfl
  have b0 : Below w.heap.size w ((w.alloc (.cells ⟨[.string nm, .int .i64 st, .slice A n c]⟩ 42)).alloc (.cells ⟨[.string kb, .string ks]⟩ 44)) := by (repeat' (first | (with_reducible exact Below.refl _ _) | (with_reducible assumption) | (with_reducible refine below_drewN ?_ _) | (with_reducible refine Below.drew ?_) | (with_reducible refine below_alloc ?_ _) | (with_reducible refine Below.alloc ?_ ?_ _) | (with_reducible refine Below.setCell ?_ ?_ _) | (with_reducible refine below_go ?_ (by with_reducible assumption)) | (with_reducible refine below_then (by with_reducible assumption) ?_ ?_) | go_size))
  have gb := PlainAid.get_bt t
  go_in
  go_wp2_with fail
  refine (spec_l18Leads hn (h.up b0) hz hs hnm hst hkb hks hcap).mono ?_; rintro e w1 ⟨A1, c1, rfl, ho1, hl1, hb1⟩
  have hB1 := below_go b0 hb1
  rcases hk : goodK nm st l kb ks
  · have e2 := Lib.hid (show goodF nm st l kb ks t = false by rw [HQ.out, hk]; rfl)
    have e1 := Lib.hid (tsV_f e2.out)
    go_wp2
    go_ret2
    rw [e1.out, e2.out]
    exact ⟨rfl, hB1⟩
  · rcases hg : goodT t
    · have e2 := Lib.hid (show goodF nm st l kb ks t = false by rw [HQ.out, hk, hg]; rfl)
      have e1 := Lib.hid (tsV_f e2.out)
      go_wp2_with fail
      refine (spec_GoodTouch ht).mono ?_; rw [hg]; rintro e w' ⟨rfl, rfl⟩
      go_wp2
      go_ret2
      rw [e1.out, e2.out]
      exact ⟨rfl, hB1⟩
    · obtain ⟨m, rfl⟩ : ∃ m : Nat, st = (m : Int) := ⟨st.toNat, by
        have := (goodM_t (goodK_t hk).1).2.1
        omega⟩
      have e2 := Lib.hid (show goodF nm m l kb ks t = true by rw [HQ.out, hk, hg]; rfl)
      have e1 := Lib.hid (tsV_t e2.out)
      have eL := lsR_t hk
      rw [eL] at ho1
      have HL : Hid ((lsR nm m l kb ks).length = 3) := Lib.hid (by rw [eL]; rfl)
      rw [show ((hds3 m l kb ks).map evenRow).length = 3 from rfl] at ho1
      clear eL
      obtain ⟨g, rfl, g0, g1, gc, _⟩ := ho1.at_ (by omega)
      have d0 := gc 0 _ 0 _ (by rfl : ((hds3 m l kb ks).map evenRow)[0]? = some (evenRow (callHd m l kb ks ⟨#[112]⟩))) rfl
      have d1 := gc 1 _ 0 _ (by rfl : ((hds3 m l kb ks).map evenRow)[1]? = some (evenRow (callHd m l kb ks ⟨#[98]⟩))) rfl
      have d2 := gc 2 _ 0 _ (by rfl : ((hds3 m l kb ks).map evenRow)[2]? = some (evenRow (callHd m l kb ks ⟨#[115]⟩))) rfl
      simp only [Nat.mul_one, Nat.add_zero, Nat.zero_mul, Nat.one_mul] at d0 d1 d2
      clear gc
      have HS := Lib.hid (fun k => ev_step (t := t) hk k)
      have HZ := Lib.hid (ev_zero (goodK_all hk).1.1 (goodK_all hk).1.2 l kb ks t)
      have HG := Lib.hid (goodT_t hg).2.2
      have h60 := (goodT_t hg).2.1
      rw [HL.out]
      go_wp2_with fail
      refine (spec_GoodTouch ht).mono ?_; rw [hg]; rintro e w' ⟨rfl, rfl⟩
      go_wp2
      go_loopw [10, 11] (fun v i wr => ∃ k : Nat, k ≤ t.size ∧ i = .int .i64 k ∧ v = .bool (evenRow (hdAt m l kb ks t k)) ∧ w1 = wr) (fun _ i _ => t.size - (intOf i).toNat)
      case atStart => exact ⟨0, Nat.zero_le _, rfl, by rw [HZ.out], rfl⟩
      case round =>
        obtain ⟨k, hk1, rfl, rfl, rfl⟩ := hrel
        by_cases hlt : k < t.size
        · have hcb := HG.out k hlt
          have step := HS.out k
          by_cases f1 : PlainAid.bt t k = 98
          · rw [letter_b hlt f1] at step
            have ST := Lib.hid step
            clear step hcb
            rcases hv : evenRow (callHd m l kb ks ⟨#[98]⟩)
            · rcases hu : evenRow (hdAt m l kb ks t k) <;> skip
              all_goals
                have e3 := ST.out
                rw [hu, hv] at e3
                have E3 := Lib.hid e3
                clear e3
                rw [hv] at d1
                go_wp2
                go_roundw
                case rel => exact ⟨k + 1, by omega, by go_num, by rw [E3.out]; rfl, trivial⟩
                case measure => simp [intOf]; omega
            · have e3 := ST.out
              rw [hv] at e3
              have E3 := Lib.hid (show evenRow (hdAt m l kb ks t (k + 1)) = evenRow (hdAt m l kb ks t k) by rw [e3]; cases evenRow (hdAt m l kb ks t k) <;> rfl)
              clear e3
              rw [hv] at d1
              go_wp2
              go_roundw
              case rel => exact ⟨k + 1, by omega, by go_num, by rw [E3.out], trivial⟩
              case measure => simp [intOf]; omega
          · by_cases f2 : PlainAid.bt t k = 115
            · rw [letter_s hlt f2] at step
              have ST := Lib.hid step
              clear step hcb
              rcases hv : evenRow (callHd m l kb ks ⟨#[115]⟩)
              · rcases hu : evenRow (hdAt m l kb ks t k) <;> skip
                all_goals
                  have e3 := ST.out
                  rw [hu, hv] at e3
                  have E3 := Lib.hid e3
                  clear e3
                  rw [hv] at d2
                  go_wp2
                  go_roundw
                  case rel => exact ⟨k + 1, by omega, by go_num, by rw [E3.out]; rfl, trivial⟩
                  case measure => simp [intOf]; omega
              · have e3 := ST.out
                rw [hv] at e3
                have E3 := Lib.hid (show evenRow (hdAt m l kb ks t (k + 1)) = evenRow (hdAt m l kb ks t k) by rw [e3]; cases evenRow (hdAt m l kb ks t k) <;> rfl)
                clear e3
                rw [hv] at d2
                go_wp2
                go_roundw
                case rel => exact ⟨k + 1, by omega, by go_num, by rw [E3.out], trivial⟩
                case measure => simp [intOf]; omega
            · have f3 : PlainAid.bt t k = 112 := by
                rw [callB] at hcb
                simpa [f1, f2] using hcb
              rw [letter_p hlt f3] at step
              have ST := Lib.hid step
              clear step hcb
              rcases hv : evenRow (callHd m l kb ks ⟨#[112]⟩)
              · rcases hu : evenRow (hdAt m l kb ks t k) <;> skip
                all_goals
                  have e3 := ST.out
                  rw [hu, hv] at e3
                  have E3 := Lib.hid e3
                  clear e3
                  rw [hv] at d0
                  go_wp2
                  go_roundw
                  case rel => exact ⟨k + 1, by omega, by go_num, by rw [E3.out]; rfl, trivial⟩
                  case measure => simp [intOf]; omega
              · have e3 := ST.out
                rw [hv] at e3
                have E3 := Lib.hid (show evenRow (hdAt m l kb ks t (k + 1)) = evenRow (hdAt m l kb ks t k) by rw [e3]; cases evenRow (hdAt m l kb ks t k) <;> rfl)
                clear e3
                rw [hv] at d0
                go_wp2
                go_roundw
                case rel => exact ⟨k + 1, by omega, by go_num, by rw [E3.out], trivial⟩
                case measure => simp [intOf]; omega
        · obtain rfl : k = t.size := by omega
          go_wp2
          go_ret2
          rw [e1.out, e2.out]
          exact ⟨rfl, hB1⟩
end Go.Proofs.Ytmdmnjjlpefigaa
/- The sign of a touch, the program's side. -/
namespace Go.Proofs.Ytmdmnjjlpefigaa
set_option linter.unusedVariables false
set_option linter.unusedSimpArgs false
open Go.ChangeShapes Go.WideShapes Go.ChangeAt Go.RowKit Go.Deep
set_option maxRecDepth 100000 in
theorem impl_touchEnd {A : Option Addr} {n c st : Nat} {nm : ByteArray} {l : List ByteArray} {kb ks : ByteArray} {t : ByteArray} {w : World} (hn : l.length = n) (h : Strs w A l) (hk : goodK nm (st : Int) l kb ks = true) (hg : goodT t = true) :
    Calls Try.prog 129 #[.agg #[.string nm, .int .i64 st, .slice A n c], .agg #[.string kb, .string ks], .string t] w fun e w' => e = .returned (.string (hdAt st l kb ks t t.size)) ∧ Below w.heap.size w w' := by
  have b0 : Below w.heap.size w ((w.alloc (.cells ⟨[.string nm, .int .i64 st, .slice A n c]⟩ 42)).alloc (.cells ⟨[.string kb, .string ks]⟩ 44)) := by (repeat' (first | (with_reducible exact Below.refl _ _) | (with_reducible assumption) | (with_reducible refine below_drewN ?_ _) | (with_reducible refine Below.drew ?_) | (with_reducible refine below_alloc ?_ _) | (with_reducible refine Below.alloc ?_ ?_ _) | (with_reducible refine Below.setCell ?_ ?_ _) | (with_reducible refine below_go ?_ (by with_reducible assumption)) | (with_reducible refine below_then (by with_reducible assumption) ?_ ?_) | go_size))
  have h60 := (goodT_t hg).2.1
  go_in
  go_wp2_with fail
  refine (impl_heads hn (h.up b0) hk hg).mono ?_; rintro e w1 ⟨A1, c1, rfl, ho, hb1⟩
  obtain ⟨g, rfl, _, _, gc, _⟩ := ho.at_ (by omega)
  have cg := gc t.size _ 0 _ (hdsL_at (Nat.lt_succ_self _)) rfl
  simp only [Nat.mul_one, Nat.add_zero] at cg
  clear gc
  go_wp2
  go_ret
  exact ⟨rfl, below_go b0 hb1⟩
theorem impl_touchSign {A : Option Addr} {n c st : Nat} {nm : ByteArray} {l : List ByteArray} {kb ks : ByteArray} {t : ByteArray} {w : World} (hn : l.length = n) (h : Strs w A l) (hk : goodK nm (st : Int) l kb ks = true) (hg : goodT t = true) :
    Calls Try.prog 82 #[.agg #[.string nm, .int .i64 st, .slice A n c], .agg #[.string kb, .string ks], .string t] w fun e w' => e = .returned (.bool (evenRow (hdAt st l kb ks t t.size))) ∧ Below w.heap.size w w' := by
  have b0 : Below w.heap.size w ((w.alloc (.cells ⟨[.string nm, .int .i64 st, .slice A n c]⟩ 42)).alloc (.cells ⟨[.string kb, .string ks]⟩ 44)) := by (repeat' (first | (with_reducible exact Below.refl _ _) | (with_reducible assumption) | (with_reducible refine below_drewN ?_ _) | (with_reducible refine Below.drew ?_) | (with_reducible refine below_alloc ?_ _) | (with_reducible refine Below.alloc ?_ ?_ _) | (with_reducible refine Below.setCell ?_ ?_ _) | (with_reducible refine below_go ?_ (by with_reducible assumption)) | (with_reducible refine below_then (by with_reducible assumption) ?_ ?_) | go_size))
  have p := hdAt_good (goodK_all hk).1.1 (goodK_all hk).1.2 l kb ks t t.size
  have h8 := (goodK_all hk).1.2
  have hz : (hdAt st l kb ks t t.size).size ≤ 16777216 := by rw [p.2]; omega
  clear p
  go_in
  go_wp2_with fail
  refine (impl_touchEnd hn (h.up b0) hk hg).mono ?_; rintro e w1 ⟨rfl, hb1⟩
  go_wp2_with fail
  refine (impl_even hz).mono ?_; rintro e w2 ⟨rfl, hb2⟩
  go_wp2
  go_ret
  exact ⟨rfl, below_go (below_go b0 hb1) hb2⟩
set_option maxHeartbeats 1000000 in
theorem impl_TouchSign {A : Option Addr} {n c : Nat} {nm : ByteArray} {st : Int} {l : List ByteArray} {kb ks : ByteArray} {t : ByteArray} {w : World} (hn : l.length = n) (h : Strs w A l) (hz : n ≤ 1048576) (hs : ∀ s ∈ l, s.size ≤ 16777216) (hnm : nm.size ≤ 16777216) (hst : I64 st) (hkb : kb.size ≤ 16777216) (hks : ks.size ≤ 16777216) (ht : t.size ≤ 16777216) :
    Calls Try.prog 32 #[.agg #[.string nm, .int .i64 st, .slice A n c], .agg #[.string kb, .string ks], .string t] w fun e w' => e = .returned (.tuple #[.bool (tsV nm st l kb ks t), .bool (goodF nm st l kb ks t)]) ∧ Below w.heap.size w w' := by
  have b0 : Below w.heap.size w ((w.alloc (.cells ⟨[.string nm, .int .i64 st, .slice A n c]⟩ 42)).alloc (.cells ⟨[.string kb, .string ks]⟩ 44)) := by (repeat' (first | (with_reducible exact Below.refl _ _) | (with_reducible assumption) | (with_reducible refine below_drewN ?_ _) | (with_reducible refine Below.drew ?_) | (with_reducible refine below_alloc ?_ _) | (with_reducible refine Below.alloc ?_ ?_ _) | (with_reducible refine Below.setCell ?_ ?_ _) | (with_reducible refine below_go ?_ (by with_reducible assumption)) | (with_reducible refine below_then (by with_reducible assumption) ?_ ?_) | go_size))
  have K0 := (Blk.at_ w 42 [.string nm, .int .i64 st, .slice A n c] (b := w.heap.size) rfl).alloc (.cells ⟨[.string kb, .string ks]⟩ 44)
  have K1 := Blk.at_ (w.alloc (.cells ⟨[.string nm, .int .i64 st, .slice A n c]⟩ 42)) 44 [.string kb, .string ks] (b := w.heap.size + 1) (by simp)
  go_in
  go_wp2_with fail
  obtain ⟨w0, hw0⟩ : ∃ u, u = ((w.alloc (.cells #[.string nm, .int .i64 st, .slice A n c] 42)).alloc (.cells #[.string kb, .string ks] 44)) := ⟨_, rfl⟩
  rw [← hw0] at b0 K0 K1 ⊢
  clear hw0
  refine (impl_goodFor hn (h.up b0) hz hs hnm hst hkb hks ht).mono ?_; rintro e w1 ⟨rfl, hb1⟩
  have hB1 := below_go b0 hb1
  rcases hf : goodF nm st l kb ks t
  · have e2 := Lib.hid hf
    have e1 := Lib.hid (tsV_f hf)
    go_wp2
    go_ret2
    rw [e1.out, e2.out]
    exact ⟨rfl, hB1⟩
  · obtain ⟨hk, hg⟩ := goodF_t hf
    obtain ⟨m, rfl⟩ : ∃ m : Nat, st = (m : Int) := ⟨st.toNat, by
      have := (goodM_t (goodK_t hk).1).2.1
      omega⟩
    have e2 := Lib.hid hf
    have e1 := Lib.hid (tsV_t hf)
    have L0 := K0.up hb1; have L1 := K1.up hb1
    have k0 := L0.cell 0; have k1 := L0.cell 1; have k2 := L0.cell 2; have q0 := L1.cell 0; have q1 := L1.cell 1
    simp only [List.getElem?_cons_zero, List.getElem?_cons_succ] at k0 k1 k2 q0 q1
    go_wp2_with fail
    refine (impl_touchSign hn (h.up hB1) hk hg).mono ?_; rintro e w2 ⟨rfl, hb2⟩
    go_wp2
    go_ret2
    rw [e1.out, e2.out]
    exact ⟨rfl, below_go hB1 hb2⟩
end Go.Proofs.Ytmdmnjjlpefigaa
/- The heads of a proof, both sides. -/
namespace Go.Proofs.Ytmdmnjjlpefigaa
set_option linter.unusedVariables false
set_option linter.unusedSimpArgs false
open Go.ChangeShapes Go.WideShapes Go.ChangeAt Go.RowKit Go.Deep
set_option maxHeartbeats 1000000 in
theorem spec_CallHead {A : Option Addr} {n c st : Nat} {nm : ByteArray} {l : List ByteArray} {kb ks : ByteArray} {s : ByteArray} {w : World} (hn : l.length = n) (h : Strs w A l) (hk : goodK nm (st : Int) l kb ks = true) (hcap : n ≤ c) (hc : isCl s = true) :
    Calls Try.prog 178 #[.agg #[.string nm, .int .i64 st, .slice A n c], .agg #[.string kb, .string ks], .string s] w fun e w' => e = .returned (.tuple #[.string (callHd st l kb ks s), .bool true]) ∧ Below w.heap.size w w' := by
  have b0 : Below w.heap.size w ((w.alloc (.cells ⟨[.string nm, .int .i64 st, .slice A n c]⟩ 42)).alloc (.cells ⟨[.string kb, .string ks]⟩ 44)) := by (repeat' (first | (with_reducible exact Below.refl _ _) | (with_reducible assumption) | (with_reducible refine below_drewN ?_ _) | (with_reducible refine Below.drew ?_) | (with_reducible refine below_alloc ?_ _) | (with_reducible refine Below.alloc ?_ ?_ _) | (with_reducible refine Below.setCell ?_ ?_ _) | (with_reducible refine below_go ?_ (by with_reducible assumption)) | (with_reducible refine below_then (by with_reducible assumption) ?_ ?_) | go_size))
  have K0 := (Blk.at_ w 42 [.string nm, .int .i64 st, .slice A n c] (b := w.heap.size) rfl).alloc (.cells ⟨[.string kb, .string ks]⟩ 44)
  have K1 := Blk.at_ (w.alloc (.cells ⟨[.string nm, .int .i64 st, .slice A n c]⟩ 42)) 44 [.string kb, .string ks] (b := w.heap.size + 1) (by simp)
  obtain ⟨h8, h40, hgl, hgb, hgs⟩ := goodK_all hk
  have HS := Lib.hid (fun (s' : ByteArray) (hs' : s' ∈ l) => show s'.size ≤ 16777216 from by have := goodChange_small (hgl s' hs'); omega)
  have sk1 := goodChange_small hgb
  have sk2 := goodChange_small hgs
  have hI : I64 (st : Int) := by unfold I64; omega
  have hnm : nm.size ≤ 16777216 := by
    have h1 := (goodM_t (goodK_t hk).1).1
    rw [nameOk, Bool.and_eq_true] at h1
    have := inB_t h1.2
    omega
  clear hgl hgb hgs
  have e1 := Lib.hid (show (goodK nm st l kb ks && isCl s) = true by rw [hk, hc]; rfl)
  go_in
  go_wp2_with fail
  obtain ⟨w0, hw0⟩ : ∃ u, u = ((w.alloc (.cells #[.string nm, .int .i64 st, .slice A n c] 42)).alloc (.cells #[.string kb, .string ks] 44)) := ⟨_, rfl⟩
  rw [← hw0] at b0 K0 K1 ⊢
  clear hw0
  refine (spec_l8Asked (s := s) hn (h.up b0) (by omega) HS.out hnm hI (by omega) (by omega)).mono ?_; rw [e1.out]; rintro e w1 ⟨rfl, hb1⟩
  have hB1 := below_go b0 hb1
  have L0 := K0.up hb1; have L1 := K1.up hb1
  have k0 := L0.cell 0; have k1 := L0.cell 1; have k2 := L0.cell 2; have q0 := L1.cell 0; have q1 := L1.cell 1
  simp only [List.getElem?_cons_zero, List.getElem?_cons_succ] at k0 k1 k2 q0 q1
  go_wp2_with fail
  refine (spec_l8Head (s := s) hn (h.up hB1) hk hcap).mono ?_; rintro e w2 ⟨rfl, hb2⟩
  go_wp2
  go_ret2
  exact ⟨rfl, below_go hB1 hb2⟩
set_option maxHeartbeats 1000000 in
theorem spec_l20Asked {A : Option Addr} {n c : Nat} {nm : ByteArray} {st : Int} {l : List ByteArray} {kb ks : ByteArray} {t : ByteArray} {w : World} (hn : l.length = n) (h : Strs w A l) (hz : n ≤ 1048576) (hs : ∀ s ∈ l, s.size ≤ 16777216) (hnm : nm.size ≤ 16777216) (hst : I64 st) (hkb : kb.size ≤ 16777216) (hks : ks.size ≤ 16777216) (ht : t.size ≤ 16777216) :
    Calls Try.prog 92 #[.agg #[.string nm, .int .i64 st, .slice A n c], .agg #[.string kb, .string ks], .string t] w fun e w' => e = .returned (.bool (goodF nm st l kb ks t)) ∧ Below w.heap.size w w' := by
  have HQ : Hid (goodF nm st l kb ks t = (goodK nm st l kb ks && goodT t)) := Lib.hid rfl
  have HK : Hid (goodK nm st l kb ks = (goodM nm st l && (goodChange st kb && goodChange st ks))) := Lib.hid rfl
  have b0 : Below w.heap.size w ((w.alloc (.cells ⟨[.string nm, .int .i64 st, .slice A n c]⟩ 42)).alloc (.cells ⟨[.string kb, .string ks]⟩ 44)) := by (repeat' (first | (with_reducible exact Below.refl _ _) | (with_reducible assumption) | (with_reducible refine below_drewN ?_ _) | (with_reducible refine Below.drew ?_) | (with_reducible refine below_alloc ?_ _) | (with_reducible refine Below.alloc ?_ ?_ _) | (with_reducible refine Below.setCell ?_ ?_ _) | (with_reducible refine below_go ?_ (by with_reducible assumption)) | (with_reducible refine below_then (by with_reducible assumption) ?_ ?_) | go_size))
  have K0 := (Blk.at_ w 42 [.string nm, .int .i64 st, .slice A n c] (b := w.heap.size) rfl).alloc (.cells ⟨[.string kb, .string ks]⟩ 44)
  have K1 := Blk.at_ (w.alloc (.cells ⟨[.string nm, .int .i64 st, .slice A n c]⟩ 42)) 44 [.string kb, .string ks] (b := w.heap.size + 1) (by simp)
  go_in
  go_wp2_with fail
  obtain ⟨w0, hw0⟩ : ∃ u, u = ((w.alloc (.cells #[.string nm, .int .i64 st, .slice A n c] 42)).alloc (.cells #[.string kb, .string ks] 44)) := ⟨_, rfl⟩
  rw [← hw0] at b0 K0 K1 ⊢
  clear hw0
  refine (spec_l4Good hn (h.up b0) hz hs hnm hst).mono ?_; rintro e w1 ⟨rfl, hb1⟩
  have hB1 := below_go b0 hb1
  rcases h0 : goodM nm st l
  · have e1 := Lib.hid (show goodF nm st l kb ks t = false by rw [HQ.out, HK.out, h0]; rfl)
    go_wp2
    go_ret
    rw [e1.out]
    exact ⟨rfl, hB1⟩
  have L0 := K0.up hb1; have L1 := K1.up hb1
  have k0 := L0.cell 0; have k1 := L0.cell 1; have k2 := L0.cell 2; have q0 := L1.cell 0; have q1 := L1.cell 1
  simp only [List.getElem?_cons_zero, List.getElem?_cons_succ] at k0 k1 k2 q0 q1
  go_wp2_with fail
  refine (spec_GoodCalls hn (h.up hB1) hz hs hnm hst hkb hks).mono ?_; rintro e w2 ⟨rfl, hb2⟩
  have hB2 := below_go hB1 hb2
  clear k0 k1 k2 q0 q1
  rcases h1 : goodK nm st l kb ks
  · have e1 := Lib.hid (show goodF nm st l kb ks t = false by rw [HQ.out, h1]; rfl)
    go_wp2
    go_ret
    rw [e1.out]
    exact ⟨rfl, hB2⟩
  · have e1 := Lib.hid (show goodF nm st l kb ks t = goodT t by rw [HQ.out, h1]; rfl)
    go_wp2_with fail
    refine (spec_GoodTouch ht).mono ?_; rintro e w' ⟨rfl, rfl⟩
    go_wp2
    go_ret
    rw [e1.out]
    exact ⟨rfl, hB2⟩
set_option maxHeartbeats 2000000 in
set_option maxRecDepth 100000 in
theorem spec_l20Heads {A : Option Addr} {n c st : Nat} {nm : ByteArray} {l : List ByteArray} {kb ks : ByteArray} {t : ByteArray} {w : World} (hn : l.length = n) (h : Strs w A l) (hk : goodK nm (st : Int) l kb ks = true) (hg : goodT t = true) (hcap : n ≤ c) :
    Calls Try.prog 140 #[.agg #[.string nm, .int .i64 st, .slice A n c], .agg #[.string kb, .string ks], .string t] w fun e w' => ∃ A' c', e = .returned (.slice A' (t.size + 1) c') ∧ Owned strE 1 9 w' w.heap.size A' (t.size + 1) c' (hdsL st l kb ks t (t.size + 1)) ∧ Below w.heap.size w w' := by
  have b0 : Below w.heap.size w ((w.alloc (.cells ⟨[.string nm, .int .i64 st, .slice A n c]⟩ 42)).alloc (.cells ⟨[.string kb, .string ks]⟩ 44)) := by (repeat' (first | (with_reducible exact Below.refl _ _) | (with_reducible assumption) | (with_reducible refine below_drewN ?_ _) | (with_reducible refine Below.drew ?_) | (with_reducible refine below_alloc ?_ _) | (with_reducible refine Below.alloc ?_ ?_ _) | (with_reducible refine Below.setCell ?_ ?_ _) | (with_reducible refine below_go ?_ (by with_reducible assumption)) | (with_reducible refine below_then (by with_reducible assumption) ?_ ?_) | go_size))
  have K0 := (Blk.at_ w 42 [.string nm, .int .i64 st, .slice A n c] (b := w.heap.size) rfl).alloc (.cells ⟨[.string kb, .string ks]⟩ 44)
  have K1 := Blk.at_ (w.alloc (.cells ⟨[.string nm, .int .i64 st, .slice A n c]⟩ 42)) 44 [.string kb, .string ks] (b := w.heap.size + 1) (by simp)
  obtain ⟨h8, h40, _⟩ := goodK_all hk
  obtain ⟨ht1, ht60, htl⟩ := goodT_t hg
  have HL := Lib.hid htl
  have gb := PlainAid.get_bt t
  clear htl
  go_in
  go_wp2_with fail
  obtain ⟨w1, hw1⟩ : ∃ u, u = ((w.alloc (.cells #[.string nm, .int .i64 st, .slice A n c] 42)).alloc (.cells #[.string kb, .string ks] 44)) := ⟨_, rfl⟩
  rw [← hw1] at b0 K0 K1 ⊢
  clear hw1
  have H0 := Lib.hid (h.up b0)
  have carry : Hid (∀ u : World, Below w1.heap.size w1 u → (u.cell? ⟨w.heap.size, 0, none⟩ = some (.string nm) ∧ u.cell? ⟨w.heap.size, 1, none⟩ = some (.int .i64 st) ∧ u.cell? ⟨w.heap.size, 2, none⟩ = some (.slice A n c)) ∧ u.cell? ⟨w.heap.size + 1, 0, none⟩ = some (.string kb) ∧ u.cell? ⟨w.heap.size + 1, 1, none⟩ = some (.string ks)) := Lib.hid (fun u hu => by
    have L0 := K0.up hu; have L1 := K1.up hu
    exact ⟨⟨by simpa using L0.cell 0, by simpa using L0.cell 1, by simpa using L0.cell 2⟩, by simpa using L1.cell 0, by simpa using L1.cell 1⟩)
  clear h K0 K1
  have PG := Lib.hid (callHd_good hk)
  have HD := Lib.hid (fun k => hdAt_good h8.1 h8.2 l kb ks t k)
  have H1 : Hid (Owned strE 1 9 (w1.alloc (.cells #[.string (roundsS st)] 9)) w1.heap.size (some ⟨w1.heap.size, 0, none⟩) 1 1 (hdsL st l kb ks t 1)) := Lib.hid ⟨strE_len, by simp [hdsL], by simpa [hdsL, hdAt, strE] using World.ownsRow_lit (e := 9) (base := w1.heap.size) (size := 1) w1 #[.string (roundsS st)] 1 (Nat.le_refl _) (by decide) (by simp)⟩
  refine (spec_l1Rounds h8.2).mono ?_; rintro e w' ⟨rfl, rfl⟩
  go_wp2
  go_loopw [7, 8, 9] (fun r v i wr => ∃ (k : Nat) (A' : Option Addr) (m c' : Nat), k ≤ t.size ∧ i = .int .i64 k ∧ r = .string (hdAt st l kb ks t k) ∧ v = .slice A' m c' ∧ m = k + 1 ∧ Owned strE 1 9 wr w1.heap.size A' m c' (hdsL st l kb ks t (k + 1)) ∧ Below w1.heap.size w1 wr) (fun _ _ i _ => t.size - (intOf i).toNat)
  case atStart => exact ⟨0, _, _, _, Nat.zero_le _, rfl, rfl, rfl, rfl, H1.out, by (repeat' (first | (with_reducible exact Below.refl _ _) | (with_reducible assumption) | (with_reducible refine below_drewN ?_ _) | (with_reducible refine Below.drew ?_) | (with_reducible refine below_alloc ?_ _) | (with_reducible refine Below.alloc ?_ ?_ _) | (with_reducible refine Below.setCell ?_ ?_ _) | (with_reducible refine below_go ?_ (by with_reducible assumption)) | (with_reducible refine below_then (by with_reducible assumption) ?_ ?_) | go_size))⟩
  case round =>
    obtain ⟨k, A', m, c', hk1, rfl, rfl, rfl, rfl, ho, hb⟩ := hrel
    have HO := Lib.hid ho
    have hsz := hb.size
    clear ho
    by_cases hlt : k < t.size
    · have p1 := PG.out (letter t k)
      have p2 := HD.out k
      have z1 : (hdAt st l kb ks t k).size ≤ 16777216 := by rw [p2.2]; omega
      have z2 : (callHd st l kb ks (letter t k)).size ≤ 16777216 := by rw [p1.2]; omega
      have hf : fits (hdAt st l kb ks t k) (callHd st l kb ks (letter t k)) := fits_good p1.1 (by rw [p1.2, p2.2])
      have hc := Lib.hid (show isCl (letter t k) = true by rw [isCl_letter hlt]; exact HL.out k hlt)
      have E := Lib.hid (show timesS (hdAt st l kb ks t k) (callHd st l kb ks (letter t k)) = hdAt st l kb ks t (k + 1) from rfl)
      have HT := Lib.hid (hdsL_succ st l kb ks t (k + 1))
      clear p1 p2
      have hwk : IntKind.i64.wrap ((k : Int) + 1) = (k : Int) + 1 := wrap_id (by omega)
      have hle1 : (k : Int) + 1 ≤ (t.size : Int) := by omega
      have hle2 : (k : Int) ≤ (k : Int) + 1 := by omega
      have hle3 : (0 : Int) ≤ (k : Int) := by omega
      have HB := Lib.hid hb
      go_wp2_with fail
      go_region_held3 (fun u => (u.cell? ⟨w.heap.size, 0, none⟩ = some (.string nm) ∧ u.cell? ⟨w.heap.size, 1, none⟩ = some (.int .i64 st) ∧ u.cell? ⟨w.heap.size, 2, none⟩ = some (.slice A n c)) ∧ u.cell? ⟨w.heap.size + 1, 0, none⟩ = some (.string kb) ∧ u.cell? ⟨w.heap.size + 1, 1, none⟩ = some (.string ks)) (first | exact carry.out _ C2 | exact carry.out _ HB.out | exact carry.out _ HB.out.drew) (first | (go_at_call 178; refine (spec_CallHead (s := letter t k) hn ((H0.out.below HB.out (Nat.le_refl _)).drew) hk hcap hc.out).mono ?_; rintro e w2 ⟨rfl, hbd2⟩; have hb2 := below_of_drew hbd2; have C2 := HB.out.trans (hb2.mono HB.out.size); have HO1 := Lib.hid (HO.out.up hb2); have hsz1 := hb2.size))
      go_wp2_with (first | (go_at_call 120; refine (spec_l1Times z1 z2 hf).mono ?_; rw [E.out]; rintro e w' ⟨rfl, rfl⟩) | (at_builtin; go_must ((refine wpList_append_rec Try.elStr rfl (.tmp 37) (.tmp 39) rfl rfl (HO1.out.alloc _) (hdAt st l kb ks t (k + 1)) rfl (Box.at_ _ [.string (hdAt st l kb ks t (k + 1))] _ ?_) (strE_one _) ?_ (by decide) ?_ ?_; (focus (first | omega | (simp only [World.size_alloc]; done) | (simp only [World.size_alloc]; omega) | (simp; done) | (simp; omega))); (focus (first | omega | (simp only [World.size_alloc]; done) | (simp only [World.size_alloc]; omega) | (simp; done) | (simp; omega))); (focus (first | omega | (simp only [World.size_alloc]; done) | (simp only [World.size_alloc]; omega) | (simp; done) | (simp; omega))); intro A2 c2 w3 ho3 hg3 hb3))))
      go_roundw
      case rel => exact ⟨k + 1, A2, k + 1 + 1, c2, by omega, by go_num, rfl, by go_num, rfl, by rw [HT.out]; exact ho3, ((HB.out.trans (hb2.mono hsz)).alloc (by omega) _).trans hb3⟩
      case measure => simp [intOf]; omega
    · obtain rfl : k = t.size := by omega
      go_wp2
      go_ret
      exact ⟨_, _, rfl, HO.out.base_le b0.size, below_go b0 hb⟩
end Go.Proofs.Ytmdmnjjlpefigaa
/- The walk through a row's place, the reference's side; the row of marks by places. -/
namespace Go.Proofs.Ytmdmnjjlpefigaa
set_option linter.unusedVariables false
set_option linter.unusedSimpArgs false
open Go.ChangeShapes Go.WideShapes Go.ChangeAt Go.RowKit Go.Deep
theorem nums_drop {s : ByteArray} {k : Nat} (h : k < s.size) : (nums s).drop k = PlainAid.bt s k :: (nums s).drop (k + 1) := drop_someZ (nums_at h)
set_option maxRecDepth 100000 in
theorem spec_l1Place {s : ByteArray} {w : World} (hz : s.size ≤ 8) :
    Calls Try.prog 113 #[.string s] w fun e w' => e = .returned (.int .i64 (place s)) ∧ Below w.heap.size w w' := by
  have gb := PlainAid.get_bt s
  have hpl := place_lt s
  have h40 := fact_le s.size (by omega)
  have hP : place s ≤ 40320 := by omega
  have H0 := Lib.hid (show lh 0 ((nums s).drop 0) = place s from (place_lh s).symm)
  have HL := Lib.hid (fun k (r : List Int) => lh_le r k)
  have HC := Lib.hid (fun x (r : List Int) => cnt_le x r)
  clear hpl h40
  go_in
  go_wp2
  go_loopw [3, 4] (fun v i wr => ∃ i' k : Nat, i' ≤ s.size ∧ i = .int .i64 i' ∧ v = .int .i64 k ∧ k ≤ place s ∧ Hid (lh k ((nums s).drop i') = place s) ∧ Below w.heap.size w wr) (fun _ i _ => s.size - (intOf i).toNat)
  case atStart => exact ⟨0, 0, Nat.zero_le _, rfl, rfl, Nat.zero_le _, H0, Below.refl _ _⟩
  case round =>
    obtain ⟨i, k, hi, rfl, rfl, hk, HK, hbl⟩ := hrel
    by_cases hlt : i < s.size
    · have HD := Lib.hid (nums_drop hlt)
      go_wp2
      go_loopw [5, 6] (fun v x wr => ∃ j q : Nat, i + 1 ≤ j ∧ j ≤ s.size ∧ x = .int .i64 j ∧ v = .int .i64 q ∧ q ≤ j ∧ Hid (q + cnt (PlainAid.bt s i) ((nums s).drop j) = cnt (PlainAid.bt s i) ((nums s).drop (i + 1))) ∧ Below w.heap.size w wr) (fun _ x _ => s.size - (intOf x).toNat)
      case atStart => exact ⟨i + 1, 0, Nat.le_refl _, hlt, by go_num, rfl, Nat.zero_le _, Lib.hid (Nat.zero_add _), hbl⟩
      case round =>
        obtain ⟨j, q, hij, hj, rfl, rfl, hq, HQ, hb2⟩ := hrel
        by_cases hjl : j < s.size
        · have HJ := Lib.hid (nums_drop hjl)
          by_cases hc : PlainAid.bt s j < PlainAid.bt s i
          · have E := Lib.hid (show q + 1 + cnt (PlainAid.bt s i) ((nums s).drop (j + 1)) = cnt (PlainAid.bt s i) ((nums s).drop (i + 1)) by rw [← HQ.out, HJ.out, cnt_cons, if_pos hc]; omega)
            go_wp2
            go_quiet (fail)
            go_wp2
            go_roundw
            case rel => exact ⟨j + 1, q + 1, by omega, by omega, by go_num, by go_num, by omega, E, by (repeat' (first | (with_reducible exact Below.refl _ _) | (with_reducible assumption) | (with_reducible refine below_drewN ?_ _) | (with_reducible refine Below.drew ?_) | (with_reducible refine below_alloc ?_ _) | (with_reducible refine Below.alloc ?_ ?_ _) | (with_reducible refine Below.setCell ?_ ?_ _) | (with_reducible refine below_go ?_ (by with_reducible assumption)) | (with_reducible refine below_then (by with_reducible assumption) ?_ ?_) | go_size))⟩
            case measure => simp [intOf]; omega
          · have E := Lib.hid (show q + cnt (PlainAid.bt s i) ((nums s).drop (j + 1)) = cnt (PlainAid.bt s i) ((nums s).drop (i + 1)) by rw [← HQ.out, HJ.out, cnt_cons, if_neg hc]; omega)
            go_wp2
            go_quiet (fail)
            go_wp2
            go_roundw
            case rel => exact ⟨j + 1, q, by omega, by omega, by go_num, rfl, by omega, E, by (repeat' (first | (with_reducible exact Below.refl _ _) | (with_reducible assumption) | (with_reducible refine below_drewN ?_ _) | (with_reducible refine Below.drew ?_) | (with_reducible refine below_alloc ?_ _) | (with_reducible refine Below.alloc ?_ ?_ _) | (with_reducible refine Below.setCell ?_ ?_ _) | (with_reducible refine below_go ?_ (by with_reducible assumption)) | (with_reducible refine below_then (by with_reducible assumption) ?_ ?_) | go_size))⟩
            case measure => simp [intOf]; omega
        · obtain rfl : j = s.size := by omega
          have E := Lib.hid (show q = cnt (PlainAid.bt s i) ((nums s).drop (i + 1)) by
            rw [← HQ.out, List.drop_eq_nil_of_le (by rw [nums_len]; exact Nat.le_refl _)]; rfl)
          have E2 := Lib.hid (show lh (k * (s.size - i) + q) ((nums s).drop (i + 1)) = place s by
            rw [← HK.out, HD.out, lh, E.out, List.length_drop, nums_len, show s.size - (i + 1) + 1 = s.size - i by omega])
          have h1 : k * (s.size - i) + q ≤ place s := by
            have := HL.out (k * (s.size - i) + q) ((nums s).drop (i + 1))
            rw [E2.out] at this; exact this
          obtain ⟨p, hp⟩ : ∃ p, p = k * (s.size - i) := ⟨_, rfl⟩
          have e0 : (s.size : Int) - (i : Int) = ((s.size - i : Nat) : Int) := by omega
          have e3 : (k : Int) * ((s.size : Int) - (i : Int)) = (p : Int) := by rw [e0, hp]; push_cast; rfl
          rw [← hp] at E2 h1
          have e4 : IntKind.i64.wrap ((s.size : Int) - (i : Int)) = (s.size : Int) - (i : Int) := wrap_id (by omega)
          have e5 : IntKind.i64.wrap ((k : Int) * ((s.size : Int) - (i : Int))) = (p : Int) := by rw [e3]; exact wrap_id (by omega)
          have e6 : IntKind.i64.wrap ((p : Int) + (q : Int)) = ((p + q : Nat) : Int) := by rw [wrap_id (by omega)]; push_cast; rfl
          clear hp e0 e3
          go_wp2
          go_roundw
          case rel => exact ⟨i + 1, p + q, by omega, by go_num, by go_num, h1, E2, hb2⟩
          case measure => simp [intOf]; omega
    · obtain rfl : i = s.size := by omega
      have E := Lib.hid (show k = place s by
        rw [← HK.out, List.drop_eq_nil_of_le (by rw [nums_len]; exact Nat.le_refl _)]; rfl)
      go_wp2
      go_ret
      rw [E.out]
      exact ⟨rfl, hbl⟩
/-- Which rows of a stage a list has, by their places. -/
def MarkR (n : Nat) (L : List ByteArray) (m : List Bool) : Prop := m.length = fact n ∧ ∀ s, RowN n s → m[place s]? = some (inL L s)
theorem MarkR.none (n : Nat) : MarkR n [] (List.replicate (fact n) false) :=
  ⟨by simp, fun s hs => by rw [List.getElem?_replicate, if_pos (rowN_place hs)]; rfl⟩
theorem MarkR.add {n : Nat} {L : List ByteArray} {m : List Bool} {x : ByteArray} (h : MarkR n L m) (hx : RowN n x) : MarkR n (L ++ [x]) (m.set (place x) true) := by
  refine ⟨by rw [List.length_set]; exact h.1, fun s hs => ?_⟩
  rw [List.getElem?_set]
  by_cases e : place x = place s
  · rw [if_pos e, if_pos (by rw [h.1]; exact rowN_place hx)]
    rw [rowN_inj hx hs e, inL_iff.2 (by simp)]
  · rw [if_neg e, h.2 s hs]
    have hne : ¬ x = s := fun q => e (by rw [q])
    congr 1
    rw [inL, inL, List.any_append]
    simp [hne]
theorem MarkR.at_ {n : Nat} {L : List ByteArray} {m : List Bool} {x : ByteArray} (h : MarkR n L m) (hx : RowN n x) : m[place x]? = some (inL L x) := h.2 x hx
theorem spec_l6Seen {n : Nat} {w : World} (h8 : n ≤ 8) :
    Calls Try.prog 114 #[.int .i64 n] w fun e w' => ∃ g, e = .returned (.slice (some ⟨g, 0, none⟩) (fact n) (fact n)) ∧ Owned boolE 1 4 w' w.heap.size (some ⟨g, 0, none⟩) (fact n) (fact n) (List.replicate (fact n) false) ∧ Below w.heap.size w w' := by
  have h40 := fact_le n (by omega)
  have hmk := run_make_rec (P := Try.prog) (e := boolE) Try.elBool false rfl (fact n) (by omega) (by decide)
  have O0 := Owned.made (e := boolE) boolE_len w 4 false (fact n) (by omega) (Nat.le_refl w.heap.size)
  go_in
  go_wp2_with (first | (go_at_call 57; refine (spec_l1Fact h8).mono ?_; rintro e w' ⟨rfl, rfl⟩))
  go_ret
  exact ⟨_, rfl, by simpa using O0, by (repeat' (first | (with_reducible exact Below.refl _ _) | (with_reducible assumption) | (with_reducible refine below_drewN ?_ _) | (with_reducible refine Below.drew ?_) | (with_reducible refine below_alloc ?_ _) | (with_reducible refine Below.alloc ?_ ?_ _) | (with_reducible refine Below.setCell ?_ ?_ _) | (with_reducible refine below_go ?_ (by with_reducible assumption)) | (with_reducible refine below_then (by with_reducible assumption) ?_ ?_) | go_size))⟩
end Go.Proofs.Ytmdmnjjlpefigaa
/- The walk through closures, the reference's side. -/
namespace Go.Proofs.Ytmdmnjjlpefigaa
set_option linter.unusedVariables false
set_option linter.unusedSimpArgs false
open Go.ChangeShapes Go.WideShapes Go.ChangeAt Go.RowKit Go.Deep
set_option maxHeartbeats 1000000 in
set_option maxRecDepth 100000 in
theorem spec_l6Close {A : Option Addr} {N c n : Nat} {gs : List ByteArray} {w : World} (hN : gs.length = N) (h : Strs w A gs) (h0 : 0 < N) (hz : N ≤ 16777216) (h3 : 3 ≤ n) (h8 : n ≤ 8) (hg : ∀ g ∈ gs, RowN n g) :
    Calls Try.prog 76 #[.slice A N c] w fun e w' => ∃ A' m' c', e = .returned (.tuple #[.slice A' m' c', .bool (decide ((clF n gs).length ≤ 800))]) ∧ ((clF n gs).length ≤ 800 → m' = (clF n gs).length ∧ ∃ L, Owned strE 1 9 w' w.heap.size A' m' c' L ∧ L.Perm (clF n gs) ∧ Srt L) ∧ (¬ (clF n gs).length ≤ 800 → A' = none ∧ m' = 0 ∧ c' = 0) ∧ Below w.heap.size w w' := by
  subst hN
  have HG := Lib.hid hg
  have hr := rowN_rounds h3 h8
  have h40 : fact n ≤ 40320 := fact_le8 h8
  have HOK := Lib.hid (fun k => clAt_ok hr hg k)
  have HEND := Lib.hid (fun k (hk : (clAt gs (roundsS n) k).length = k) => clF_end h3 h8 hg hk)
  have HPRE := Lib.hid (fun k => pre_len (clF_pre h3 h8 hg k))
  have HLE := Lib.hid (fun k => (clAt_ok hr hg k).le)
  obtain ⟨b1, o1, g0, rfl, hbb, hg0, hcg0⟩ := h.at_str (k := 0) h0
  have hg0s := (hg g0 (List.mem_of_getElem? hg0)).2
  have hpl := rowN_place hr
  have hrs := hr.2
  obtain ⟨r0, hr0⟩ : ∃ r, r = roundsS n := ⟨_, rfl⟩
  obtain ⟨p0, hp0⟩ : ∃ p, p = place r0 := ⟨_, rfl⟩
  rw [← hr0] at hr HOK hpl hrs
  rw [← hp0] at hpl
  have HR0 := Lib.hid hr0
  have HP0 := Lib.hid hp0
  have HEND : Hid (∀ k, (clAt gs r0 k).length = k → clF n gs = clAt gs r0 k) := Lib.hid (by rw [hr0]; exact HEND.out)
  have HPRE : Hid (∀ k, (clAt gs r0 k).length ≤ (clF n gs).length) := Lib.hid (by rw [hr0]; exact HPRE.out)
  have HLE : Hid (∀ k, (clAt gs r0 k).length ≤ fact n) := Lib.hid (by rw [hr0]; exact HLE.out)
  have HF := Lib.hid (clAt_first (gs := gs) (r := r0))
  clear hg hg0 hr0 hp0
  simp only [Nat.add_zero] at hcg0
  go_in
  go_wp2_with fail
  refine (spec_l1Rounds h8).mono ?_; rw [← HR0.out]; rintro e w' ⟨rfl, rfl⟩
  go_wp2_with fail
  refine (spec_l6Seen h8).mono ?_; rintro e w1 ⟨gm, rfl, hom, hb1⟩
  have hmk0 := Lib.hid (MarkR.none n)
  obtain ⟨hgl, hgh⟩ := hom.at_own
  have HOM := Lib.hid hom
  clear hom hcg0
  go_wp2_with fail
  refine (spec_l1Place (by rw [hrs]; exact h8)).mono ?_; rw [← HP0.out]; rintro e w2 ⟨rfl, hb2⟩
  have HOM2 := Lib.hid (HOM.out.up hb2)
  have hold := hmk0.out.2 r0 hr
  rw [← HP0.out] at hold
  obtain ⟨HM3, hg3⟩ := HOM2.out.put (k := p0) (j := 0) (x := true) (u := .bool true) hold (by decide) rfl
  obtain ⟨g', e, _, _, gc, gf⟩ := HOM2.out.at_ (fact_pos n)
  injection e with e
  injection e with e
  subst e
  have c1 := gc p0 _ 0 _ hold rfl
  have f1 := gf p0
  simp only [Nat.mul_one, Nat.add_zero] at HM3 hg3 c1
  have hb3 : Below w.heap.size w (w2.setCell ⟨gm, p0, none⟩ (.bool true)) := (below_go hb1 hb2).grown hg3 (below_go hb1 hb2).size (fun k hk => by injection hk with hk; omega)
  have HM3 := Lib.hid HM3
  have HK3 := Lib.hid (show MarkR n (clAt gs r0 0) ((List.replicate (fact n) false).set p0 true) from by rw [HP0.out]; exact hmk0.out.add hr)
  have HB3 := Lib.hid hb3
  have hs2 := hb2.size
  clear hold gc gf hg3 hb3 HOM HOM2
  clear hg0s
  go_wp2_with fail
  have HO3 := Lib.hid (own_lit1_at' strE_len (w2.setCell ⟨gm, p0, none⟩ (.bool true)) 9 r0 (b := w2.heap.size) (base := w1.heap.size) (by simp) (by simpa using hs2))
  have HRS := Lib.hid hrs
  clear hrs
  go_loopw [6, 7] (fun v i wr => ∃ (k : Nat) (A' : Option Addr) (c' : Nat) (m : List Bool), k ≤ (clAt gs r0 k).length ∧ (clAt gs r0 k).length ≤ 800 ∧ i = .int .i64 k ∧ v = .slice A' (clAt gs r0 k).length c' ∧ Hid (MarkR n (clAt gs r0 k) m) ∧ Hid (Owned boolE 1 4 wr w.heap.size (some ⟨gm, 0, none⟩) (fact n) (fact n) m) ∧ Hid (Owned strE 1 9 wr w1.heap.size A' (clAt gs r0 k).length c' (clAt gs r0 k)) ∧ Below w.heap.size w wr) (fun _ i _ => fact n - (intOf i).toNat)
  case atStart => exact ⟨0, some ⟨w2.heap.size, 0, none⟩, 1, _, Nat.zero_le _, (by show 1 ≤ 800; decide), rfl, rfl, HK3, Lib.hid (HM3.out.alloc _), HO3, by have := HB3.out; (repeat' (first | (with_reducible exact Below.refl _ _) | (with_reducible assumption) | (with_reducible refine below_drewN ?_ _) | (with_reducible refine Below.drew ?_) | (with_reducible refine below_alloc ?_ _) | (with_reducible refine Below.alloc ?_ ?_ _) | (with_reducible refine Below.setCell ?_ ?_ _) | (with_reducible refine below_go ?_ (by with_reducible assumption)) | (with_reducible refine below_then (by with_reducible assumption) ?_ ?_) | go_size))⟩
  case round =>
    clear HK3 HM3 HO3 HB3
    obtain ⟨k, A1, c1, m, hk, hk8, rfl, rfl, HMK, HM, HO, hb⟩ := hrel
    rename World => w4
    have hle := HLE.out k
    have hle1 := HLE.out (k + 1)
    by_cases hlt : k < (clAt gs r0 k).length
    · obtain ⟨x, hx⟩ := some_of_lt hlt
      have HX := Lib.hid hx
      have hxN := (HOK.out k).2 x (List.mem_of_getElem? hx)
      have HNX := Lib.hid (clAt_more (gs := gs) (r := r0) hx)
      have HPO := Lib.hid (fun j => (HOK.out k).part hxN HG.out j)
      clear hx
      go_wp2
      go_loopw [6, 33] (fun v i wr => ∃ (j : Nat) (A' : Option Addr) (c' : Nat) (m : List Bool), j ≤ gs.length ∧ i = .int .i64 j ∧ v = .slice A' (clPart gs x j (clAt gs r0 k)).length c' ∧ Hid (MarkR n (clPart gs x j (clAt gs r0 k)) m) ∧ Hid (Owned boolE 1 4 wr w.heap.size (some ⟨gm, 0, none⟩) (fact n) (fact n) m) ∧ Hid (Owned strE 1 9 wr w1.heap.size A' (clPart gs x j (clAt gs r0 k)).length c' (clPart gs x j (clAt gs r0 k))) ∧ Below w.heap.size w wr) (fun _ i _ => gs.length - (intOf i).toNat)
      case atStart => exact ⟨0, A1, c1, m, Nat.zero_le _, rfl, rfl, HMK, HM, HO, hb⟩
      case round =>
        clear HMK HM HO hb
        obtain ⟨j, A1, c1, m, hj, rfl, rfl, HMK, HM, HO, hb⟩ := hrel
        rename World => w5
        have hlen := (HPO.out j).le
        have hpl := pre_len (clPart_pre gs x j (clAt gs r0 k))
        by_cases hjl : j < gs.length
        · obtain ⟨b3, o3, g, e, _, hgj, hcg0⟩ := h.at_str hjl
          injection e with e
          injection e with e1 e2
          subst e1 e2
          have hcg := (hb.cell (p := ⟨b1, o1 + j, none⟩) hbb).trans hcg0
          obtain ⟨b2, rfl, hb2lo, hb2hi, gc, _⟩ := HO.out.at_ (by omega)
          have hcx := gc k x 0 _ (pre_at (clPart_pre gs x j (clAt gs r0 k)) HX.out) rfl
          simp only [Nat.mul_one, Nat.add_zero] at hcx
          have hgN := HG.out g (List.mem_of_getElem? hgj)
          have hft := rowN_fits hxN hgN
          have hxs : x.size ≤ 16777216 := by rw [hxN.2]; omega
          have hgz : g.size ≤ 16777216 := by rw [hgN.2]; omega
          have hrN := hxN.times hgN
          have HS := Lib.hid (clPart_succ (x := x) (clAt gs r0 k) hgj)
          obtain ⟨r, hr'⟩ : ∃ r, r = timesS x g := ⟨_, rfl⟩
          have HRD := Lib.hid hr'
          rw [← hr'] at hrN
          have hrz : r.size ≤ 8 := by rw [hrN.2]; exact h8
          obtain ⟨p, hp⟩ : ∃ p, p = place r := ⟨_, rfl⟩
          have HP := Lib.hid hp
          have hpF : p < fact n := by rw [hp]; exact rowN_place hrN
          have HRN := Lib.hid hrN
          have hcm := HMK.out.at_ hrN
          rw [← hp] at hcm
          have HCM := Lib.hid hcm
          clear gc hgj hcg0 hr' hp hcm hrN
          go_wp2_with fail
          refine (spec_l1Times hxs hgz hft).mono ?_; rw [← HRD.out]; rintro e w' ⟨rfl, rfl⟩
          clear hcx hcg hft
          go_wp2_with fail
          refine (spec_l1Place hrz).mono ?_; rw [← HP.out]; rintro e w6 ⟨rfl, hb6⟩
          have hB6 := below_go hb hb6
          have HM6 := Lib.hid (HM.out.up hb6)
          have HO6 := Lib.hid (HO.out.up hb6)
          obtain ⟨g', e, _, _, gc, gf⟩ := HM6.out.at_ (fact_pos n)
          injection e with e
          injection e with e
          subst e
          have cm := gc p _ 0 _ HCM.out rfl
          simp only [Nat.mul_one, Nat.add_zero] at cm
          have hs6 := hb6.size
          clear gc gf
          rcases hin : inL (clPart gs x j (clAt gs r0 k)) r
          · rw [hin] at cm
            have e1 := Lib.hid (show clPart gs x (j + 1) (clAt gs r0 k) = (clPart gs x j (clAt gs r0 k)) ++ [r] by rw [HS.out, clAdd_new (by rw [← HRD.out]; intro q; rw [inL_iff.2 q] at hin; cases hin), ← HRD.out])
            have el : ((clPart gs x j (clAt gs r0 k)) ++ [r]).length = (clPart gs x j (clAt gs r0 k)).length + 1 := by simp
            have EL := Lib.hid el
            clear hin el
            go_wp2_with fail
            refine (spec_l1Place hrz).mono ?_; rw [← HP.out]; rintro e w7 ⟨rfl, hb7⟩
            clear cm
            have hB7 := below_go hB6 hb7
            have HM7 := Lib.hid (HM6.out.up hb7)
            have HO7 := Lib.hid (HO6.out.up hb7)
            have hs7 := hb7.size
            obtain ⟨HM8, hg8⟩ := HM7.out.put (k := p) (j := 0) (x := true) (u := .bool true) HCM.out (by decide) rfl
            obtain ⟨g', e, _, _, gc, gf⟩ := HM7.out.at_ (fact_pos n)
            injection e with e
            injection e with e
            subst e
            have c2 := gc p _ 0 _ HCM.out rfl
            have f2 := gf p
            simp only [Nat.mul_one, Nat.add_zero] at HM8 hg8 c2
            have hB8 : Below w.heap.size w (w7.setCell ⟨gm, p, none⟩ (.bool true)) := hB7.grown hg8 hB7.size (fun k hk => by injection hk with hk; omega)
            have HB8 := Lib.hid hB8
            have HO8 := Lib.hid (HO7.out.past hg8 hgh)
            have HM8 := Lib.hid HM8
            have hno : b2 ≠ gm := by omega
            clear gc gf hg8 hB8
            go_wp2_with (first | (at_builtin; go_must ((refine wpList_append_recs Try.elStr strE_one rfl (.tmp 53) (.tmp 55) rfl rfl (HO8.out.alloc _) rfl (own_lit1_at' strE_len (w7.setCell ⟨gm, p, none⟩ (.bool true)) 9 r (by simp) (Nat.le_refl _)).recs rfl ?_ (by decide) ?_ ?_; (focus (first | omega | (simp only [World.size_alloc]; done) | (simp only [World.size_alloc]; omega) | (simp; done) | (simp; omega))); (focus (first | omega | (simp only [World.size_alloc]; done) | (simp only [World.size_alloc]; omega) | (simp; done) | (simp; omega))); intro A3 c3 w9 ho9 hg9 hl9))))
            have hm9 := (HM8.out.alloc (.cells #[.string r] 9)).kept hg9 (fun k hk e => by injection hk with hk; injection e with e; dsimp only at hk e; omega)
            have hb9 : Below w.heap.size w w9 := ((HB8.out.alloc (by have := HB8.out.size; exact this) _)).trans (grown_base hg9 (by have := HB8.out.size; simp at this ⊢; omega) (fun k hk => by injection hk with hk; dsimp only at hk; have := hb1.size; omega))
            have hmk9 := HMK.out.add HRN.out
            rw [← HP.out] at hmk9
            go_roundw
            case rel => exact ⟨j + 1, A3, c3, m.set p true, by omega, by go_num, by rw [e1.out, EL.out], Lib.hid (by rw [e1.out]; exact hmk9), Lib.hid hm9, Lib.hid (by rw [e1.out, EL.out]; exact ho9), hb9⟩
            case measure => simp [intOf]; omega
          · rw [hin] at cm
            have e1 := Lib.hid (show clPart gs x (j + 1) (clAt gs r0 k) = (clPart gs x j (clAt gs r0 k)) by rw [HS.out, clAdd_in (by rw [← HRD.out]; exact inL_iff.1 hin)])
            clear hin
            go_wp2
            go_roundw
            case rel => exact ⟨j + 1, _, _, m, by omega, by go_num, by rw [e1.out], Lib.hid (by rw [e1.out]; exact HMK.out), HM6, Lib.hid (by rw [e1.out]; exact HO6.out), hB6⟩
            case measure => simp [intOf]; omega
        · obtain rfl : j = gs.length := by omega
          by_cases h8 : (clPart gs x gs.length (clAt gs r0 k)).length ≤ 800
          · have hq : ¬ (800 : Int) < ((clPart gs x gs.length (clAt gs r0 k)).length : Int) := by omega
            go_wp2
            go_roundw
            case rel => exact ⟨k + 1, A1, c1, m, by rw [HNX.out]; omega, by rw [HNX.out]; exact h8, by go_num, by rw [HNX.out], Lib.hid (by rw [HNX.out]; exact HMK.out), HM, Lib.hid (by rw [HNX.out]; exact HO.out), hb⟩
            case measure => simp [intOf]; omega
          · have hq : (800 : Int) < ((clPart gs x gs.length (clAt gs r0 k)).length : Int) := by omega
            have hno := Lib.hid (show ¬ (clF n gs).length ≤ 800 by
              have := HPRE.out (k + 1)
              rw [HNX.out] at this; omega)
            have hdec := Lib.hid (decide_eq_false hno.out)
            go_wp2
            go_ret2
            rw [hdec.out]
            exact ⟨none, 0, 0, rfl, fun q => absurd q hno.out, fun _ => ⟨rfl, rfl, rfl⟩, hb⟩
    · have hke : (clAt gs r0 k).length = k := by omega
      have e1 := Lib.hid (HEND.out k hke)
      clear hke
      have hz8 : (clAt gs r0 k).length ≤ 16777216 := by omega
      go_wp2_with fail
      refine (spec_l6Sort _ _ _ _ _ rfl HO.out.recs (by omega) (fun s hs => by rw [((HOK.out k).2 s hs).2]; omega)).mono ?_; rintro e w5 ⟨A5, c5, L, rfl, hoL, hpL, hsL, hb5⟩
      go_wp2
      go_ret2
      rw [e1.out, decide_eq_true hk8]
      exact ⟨_, _, _, rfl, fun _ => ⟨rfl, L, hoL.base_le hb.size, hpL, hsL⟩, fun q => absurd hk8 q, below_go hb hb5⟩
end Go.Proofs.Ytmdmnjjlpefigaa
/- The walks of chapter 17: what a method and its calls give (the reference). -/
namespace Go.Proofs.Ytmdmnjjlpefigaa
set_option linter.unusedVariables false
set_option linter.unusedSimpArgs false
open Go.ChangeShapes Go.WideShapes Go.ChangeAt Go.RowKit Go.Deep
abbrev noE : List Value := [.string { data := #[] }, .string { data := #[] }, .string { data := #[] }, .slice none 0 0]
set_option maxHeartbeats 1000000 in
theorem spec_CallHead_no {A : Option Addr} {n c : Nat} {nm : ByteArray} {st : Int} {l : List ByteArray} {kb ks : ByteArray} {s : ByteArray} {w : World} (hn : l.length = n) (h : Strs w A l) (hz : n ≤ 1048576) (hs : ∀ s ∈ l, s.size ≤ 16777216) (hnm : nm.size ≤ 16777216) (hst : I64 st) (hkb : kb.size ≤ 16777216) (hks : ks.size ≤ 16777216) (hk : goodK nm st l kb ks = false) :
    Calls Try.prog 178 #[.agg #[.string nm, .int .i64 st, .slice A n c], .agg #[.string kb, .string ks], .string s] w fun e w' => e = .returned (.tuple #[.string { data := #[] }, .bool false]) ∧ Below w.heap.size w w' := by
  have b0 : Below w.heap.size w ((w.alloc (.cells ⟨[.string nm, .int .i64 st, .slice A n c]⟩ 42)).alloc (.cells ⟨[.string kb, .string ks]⟩ 44)) := by (repeat' (first | (with_reducible exact Below.refl _ _) | (with_reducible assumption) | (with_reducible refine below_drewN ?_ _) | (with_reducible refine Below.drew ?_) | (with_reducible refine below_alloc ?_ _) | (with_reducible refine Below.alloc ?_ ?_ _) | (with_reducible refine Below.setCell ?_ ?_ _) | (with_reducible refine below_go ?_ (by with_reducible assumption)) | (with_reducible refine below_then (by with_reducible assumption) ?_ ?_) | go_size))
  have e1 := Lib.hid (show (goodK nm st l kb ks && isCl s) = false by rw [hk]; rfl)
  go_in
  go_wp2_with fail
  obtain ⟨w0, hw0⟩ : ∃ u, u = ((w.alloc (.cells #[.string nm, .int .i64 st, .slice A n c] 42)).alloc (.cells #[.string kb, .string ks] 44)) := ⟨_, rfl⟩
  rw [← hw0] at b0 ⊢
  clear hw0
  refine (spec_l8Asked (s := s) hn (h.up b0) hz hs hnm hst hkb hks).mono ?_; rw [e1.out]; rintro e w1 ⟨rfl, hb1⟩
  have hB1 := below_go b0 hb1
  go_wp2
  go_ret2
  exact ⟨rfl, hB1⟩
set_option maxHeartbeats 2000000 in
set_option maxRecDepth 100000 in
theorem spec_l17Of_no {A : Option Addr} {n c : Nat} {nm : ByteArray} {st : Int} {l : List ByteArray} {kb ks : ByteArray} {w : World} (hn : l.length = n) (h : Strs w A l) (hz : n ≤ 1048576) (hs : ∀ s ∈ l, s.size ≤ 16777216) (hnm : nm.size ≤ 16777216) (hst : I64 st) (hkb : kb.size ≤ 16777216) (hks : ks.size ≤ 16777216) (hk : goodK nm st l kb ks = false) :
    Calls Try.prog 148 #[.agg #[.string nm, .int .i64 st, .slice A n c], .agg #[.string kb, .string ks]] w fun e w' => e = .returned (.tuple #[.agg #[.string { data := #[] }, .string { data := #[] }, .string { data := #[] }, .slice none 0 0], .bool false]) ∧ Below w.heap.size w w' := by
  have b0 : Below w.heap.size w ((((w.alloc (.cells ⟨[.string nm, .int .i64 st, .slice A n c]⟩ 42)).alloc (.cells ⟨[.string kb, .string ks]⟩ 44)).alloc (.cells ⟨noE⟩ 113)).alloc (.cells ⟨noE⟩ 113)) := by (repeat' (first | (with_reducible exact Below.refl _ _) | (with_reducible assumption) | (with_reducible refine below_drewN ?_ _) | (with_reducible refine Below.drew ?_) | (with_reducible refine below_alloc ?_ _) | (with_reducible refine Below.alloc ?_ ?_ _) | (with_reducible refine Below.setCell ?_ ?_ _) | (with_reducible refine below_go ?_ (by with_reducible assumption)) | (with_reducible refine below_then (by with_reducible assumption) ?_ ?_) | go_size))
  have K0 := (((Blk.at_ w 42 [.string nm, .int .i64 st, .slice A n c] (b := w.heap.size) rfl).alloc (.cells ⟨[.string kb, .string ks]⟩ 44)).alloc (.cells ⟨noE⟩ 113)).alloc (.cells ⟨noE⟩ 113)
  have K1 := ((Blk.at_ (w.alloc (.cells ⟨[.string nm, .int .i64 st, .slice A n c]⟩ 42)) 44 [.string kb, .string ks] (b := w.heap.size + 1) (by simp)).alloc (.cells ⟨noE⟩ 113)).alloc (.cells ⟨noE⟩ 113)
  have K2 := (Blk.at_ ((w.alloc (.cells ⟨[.string nm, .int .i64 st, .slice A n c]⟩ 42)).alloc (.cells ⟨[.string kb, .string ks]⟩ 44)) 113 noE (b := w.heap.size + 1 + 1) (by simp)).alloc (.cells ⟨noE⟩ 113)
  have K3 := Blk.at_ (((w.alloc (.cells ⟨[.string nm, .int .i64 st, .slice A n c]⟩ 42)).alloc (.cells ⟨[.string kb, .string ks]⟩ 44)).alloc (.cells ⟨noE⟩ 113)) 113 noE (b := w.heap.size + 1 + 1 + 1) (by simp)
  go_in
  go_wp2_with fail
  obtain ⟨w0, hw0⟩ : ∃ u, u = ((((w.alloc (.cells #[.string nm, .int .i64 st, .slice A n c] 42)).alloc (.cells #[.string kb, .string ks] 44)).alloc (.cells #[.string { data := #[] }, .string { data := #[] }, .string { data := #[] }, .slice none 0 0] 113)).alloc (.cells #[.string { data := #[] }, .string { data := #[] }, .string { data := #[] }, .slice none 0 0] 113)) := ⟨_, rfl⟩
  rw [← hw0] at b0 K0 K1 K2 K3 ⊢
  clear hw0
  have HH := Lib.hid (h.up b0)
  refine (spec_CallHead_no hn HH.out hz hs hnm hst hkb hks hk).mono ?_; rintro e w1 ⟨rfl, hb1⟩
  have L0 := K0.up hb1; have L1 := K1.up hb1
  have k0 := L0.cell 0; have k1 := L0.cell 1; have k2 := L0.cell 2; have q0 := L1.cell 0; have q1 := L1.cell 1
  simp only [List.getElem?_cons_zero, List.getElem?_cons_succ] at k0 k1 k2 q0 q1
  clear K0 K1 L0 L1
  go_wp2_with fail
  refine (spec_CallHead_no hn (HH.out.up hb1) hz hs hnm hst hkb hks hk).mono ?_; rintro e w2 ⟨rfl, hb2⟩
  have C2 := below_go hb1 hb2
  have hB2 := below_go b0 C2
  clear k0 k1 k2 q0 q1
  have M2 := K2.up C2; have M3 := K3.up C2
  have k0 := M3.cell 0; have k1 := M3.cell 1; have k2 := M3.cell 2; have k3 := M3.cell 3
  have d0 := M2.cell 0; have d1 := M2.cell 1; have d2 := M2.cell 2; have d3 := M2.cell 3
  simp only [List.getElem?_cons_zero, List.getElem?_cons_succ] at k0 k1 k2 k3 d0 d1 d2 d3
  have f0 := M2.frozen 0; have f1 := M2.frozen 1; have f2 := M2.frozen 2; have f3 := M2.frozen 3
  go_wp2
  have Z := (((M2.set_ 0 (.string { data := #[] })).set_ 1 (.string { data := #[] })).set_ 2 (.string { data := #[] })).set_ 3 (.slice none 0 0)
  have z0 := Z.cell 0; have z1 := Z.cell 1; have z2 := Z.cell 2; have z3 := Z.cell 3
  simp only [List.set_cons_zero, List.set_cons_succ, List.getElem?_cons_zero, List.getElem?_cons_succ] at z0 z1 z2 z3
  refine bodyPost_ret (v := .tuple #[.agg #[.string { data := #[] }, .string { data := #[] }, .string { data := #[] }, .slice none 0 0], .bool false]) (by simp [results, Try.results148, go_sem, z0, z1, z2, z3]) rfl ?_
  exact ⟨rfl, by (repeat' (first | (with_reducible exact Below.refl _ _) | (with_reducible assumption) | (with_reducible refine below_drewN ?_ _) | (with_reducible refine Below.drew ?_) | (with_reducible refine below_alloc ?_ _) | (with_reducible refine Below.alloc ?_ ?_ _) | (with_reducible refine Below.setCell ?_ ?_ _) | (with_reducible refine below_go ?_ (by with_reducible assumption)) | (with_reducible refine below_then (by with_reducible assumption) ?_ ?_) | go_size))⟩
end Go.Proofs.Ytmdmnjjlpefigaa
/- The walks of chapter 17: what good calls give (the reference). -/
namespace Go.Proofs.Ytmdmnjjlpefigaa
set_option linter.unusedVariables false
set_option linter.unusedSimpArgs false
open Go.ChangeShapes Go.WideShapes Go.ChangeAt Go.RowKit Go.Deep
set_option maxHeartbeats 2000000 in
set_option maxRecDepth 100000 in
theorem spec_l17Of {A : Option Addr} {n c st : Nat} {nm : ByteArray} {l : List ByteArray} {kb ks : ByteArray} {w : World} (hn : l.length = n) (h : Strs w A l) (hk : goodK nm (st : Int) l kb ks = true) (hcap : n ≤ c) :
    Calls Try.prog 148 #[.agg #[.string nm, .int .i64 st, .slice A n c], .agg #[.string kb, .string ks]] w fun e w' => ∃ G gn gc, e = .returned (.tuple #[.agg #[.string (cP st l kb ks), .string (cB st l kb ks), .string (cQ st l kb ks), .slice G gn gc], .bool (decide ((gF st l kb ks).length ≤ 130))]) ∧ ((gF st l kb ks).length ≤ 130 → gn = (gF st l kb ks).length ∧ ∃ L, Owned strE 1 9 w' w.heap.size G gn gc L ∧ L.Perm (gF st l kb ks) ∧ Srt L) ∧ Below w.heap.size w w' ∧ RowN st (cQ st l kb ks) := by
  have h8 := (goodK_all hk).1
  have hP := cP_row hk
  have hB := cB_row hk
  have hbg := hB.1
  have hps : (cP st l kb ks).size ≤ 16777216 := by rw [hP.2]; omega
  have HGR := Lib.hid (gF_rows hk)
  have HGF := Lib.hid (show gF st l kb ks = clF st [cP st l kb ks, cB st l kb ks] from rfl)
  have HQD := Lib.hid (show cQ st l kb ks = timesS (cP st l kb ks) (turnS (cB st l kb ks)) from rfl)
  have HPE := Lib.hid (show callHd st l kb ks ⟨#[112]⟩ = cP st l kb ks from rfl)
  have HBE := Lib.hid (show callHd st l kb ks ⟨#[98]⟩ = cB st l kb ks from rfl)
  have b0 : Below w.heap.size w ((((w.alloc (.cells ⟨[.string nm, .int .i64 st, .slice A n c]⟩ 42)).alloc (.cells ⟨[.string kb, .string ks]⟩ 44)).alloc (.cells ⟨noE⟩ 113)).alloc (.cells ⟨noE⟩ 113)) := by (repeat' (first | (with_reducible exact Below.refl _ _) | (with_reducible assumption) | (with_reducible refine below_drewN ?_ _) | (with_reducible refine Below.drew ?_) | (with_reducible refine below_alloc ?_ _) | (with_reducible refine Below.alloc ?_ ?_ _) | (with_reducible refine Below.setCell ?_ ?_ _) | (with_reducible refine below_go ?_ (by with_reducible assumption)) | (with_reducible refine below_then (by with_reducible assumption) ?_ ?_) | go_size))
  have K0 := (((Blk.at_ w 42 [.string nm, .int .i64 st, .slice A n c] (b := w.heap.size) rfl).alloc (.cells ⟨[.string kb, .string ks]⟩ 44)).alloc (.cells ⟨noE⟩ 113)).alloc (.cells ⟨noE⟩ 113)
  have K1 := ((Blk.at_ (w.alloc (.cells ⟨[.string nm, .int .i64 st, .slice A n c]⟩ 42)) 44 [.string kb, .string ks] (b := w.heap.size + 1) (by simp)).alloc (.cells ⟨noE⟩ 113)).alloc (.cells ⟨noE⟩ 113)
  have K2 := (Blk.at_ ((w.alloc (.cells ⟨[.string nm, .int .i64 st, .slice A n c]⟩ 42)).alloc (.cells ⟨[.string kb, .string ks]⟩ 44)) 113 noE (b := w.heap.size + 1 + 1) (by simp)).alloc (.cells ⟨noE⟩ 113)
  have K3 := Blk.at_ (((w.alloc (.cells ⟨[.string nm, .int .i64 st, .slice A n c]⟩ 42)).alloc (.cells ⟨[.string kb, .string ks]⟩ 44)).alloc (.cells ⟨noE⟩ 113)) 113 noE (b := w.heap.size + 1 + 1 + 1) (by simp)
  go_in
  go_wp2_with fail
  obtain ⟨w0, hw0⟩ : ∃ u, u = ((((w.alloc (.cells #[.string nm, .int .i64 st, .slice A n c] 42)).alloc (.cells #[.string kb, .string ks] 44)).alloc (.cells #[.string { data := #[] }, .string { data := #[] }, .string { data := #[] }, .slice none 0 0] 113)).alloc (.cells #[.string { data := #[] }, .string { data := #[] }, .string { data := #[] }, .slice none 0 0] 113)) := ⟨_, rfl⟩
  rw [← hw0] at b0 K0 K1 K2 K3 ⊢
  clear hw0
  have HH := Lib.hid (h.up b0)
  refine (spec_CallHead hn HH.out hk hcap (by simp [isCl, isP, isB, isS, Lib.toList_data])).mono ?_; rw [HPE.out]; rintro e w1 ⟨rfl, hb1⟩
  have L0 := K0.up hb1; have L1 := K1.up hb1
  have k0 := L0.cell 0; have k1 := L0.cell 1; have k2 := L0.cell 2; have q0 := L1.cell 0; have q1 := L1.cell 1
  simp only [List.getElem?_cons_zero, List.getElem?_cons_succ] at k0 k1 k2 q0 q1
  clear K0 K1 L0 L1
  go_wp2_with fail
  refine (spec_CallHead hn (HH.out.up hb1) hk hcap (by simp [isCl, isP, isB, isS, Lib.toList_data])).mono ?_; rw [HBE.out]; rintro e w2 ⟨rfl, hb2⟩
  have C2 := below_go hb1 hb2
  have hB2 := below_go b0 C2
  clear k0 k1 k2 q0 q1 HH h
  have M2 := K2.up C2; have M3 := K3.up C2
  clear K2 K3
  have k0 := M3.cell 0; have k1 := M3.cell 1; have k2 := M3.cell 2; have k3 := M3.cell 3
  simp only [List.getElem?_cons_zero, List.getElem?_cons_succ] at k0 k1 k2 k3
  have f0 := M3.frozen 0; have f1 := M3.frozen 1; have f2 := M3.frozen 2; have f3 := M3.frozen 3
  go_wp2_with fail
  have hne : w.heap.size + 1 + 1 ≠ w.heap.size + 1 + 1 + 1 := by omega
  have N3 : Blk ((w2.setCell ⟨w.heap.size + 1 + 1 + 1, 0, none⟩ (.string (cP st l kb ks))).setCell ⟨w.heap.size + 1 + 1 + 1, 1, none⟩ (.string (cB st l kb ks))) (w.heap.size + 1 + 1 + 1) 113 [.string (cP st l kb ks), .string (cB st l kb ks), .string { data := #[] }, .slice none 0 0] := (M3.set_ 0 _).set_ 1 _
  have N2 : Blk ((w2.setCell ⟨w.heap.size + 1 + 1 + 1, 0, none⟩ (.string (cP st l kb ks))).setCell ⟨w.heap.size + 1 + 1 + 1, 1, none⟩ (.string (cB st l kb ks))) (w.heap.size + 1 + 1) 113 noE := (M2.far hne _).far hne _
  have hB3 : Below w.heap.size w ((w2.setCell ⟨w.heap.size + 1 + 1 + 1, 0, none⟩ (.string (cP st l kb ks))).setCell ⟨w.heap.size + 1 + 1 + 1, 1, none⟩ (.string (cB st l kb ks))) := by (repeat' (first | (with_reducible exact Below.refl _ _) | (with_reducible assumption) | (with_reducible refine below_drewN ?_ _) | (with_reducible refine Below.drew ?_) | (with_reducible refine below_alloc ?_ _) | (with_reducible refine Below.alloc ?_ ?_ _) | (with_reducible refine Below.setCell ?_ ?_ _) | (with_reducible refine below_go ?_ (by with_reducible assumption)) | (with_reducible refine below_then (by with_reducible assumption) ?_ ?_) | go_size))
  obtain ⟨w3, hw3⟩ : ∃ u, u = ((w2.setCell ⟨w.heap.size + 1 + 1 + 1, 0, none⟩ (.string (cP st l kb ks))).setCell ⟨w.heap.size + 1 + 1 + 1, 1, none⟩ (.string (cB st l kb ks))) := ⟨_, rfl⟩
  rw [← hw3] at N3 N2 hB3 ⊢
  clear hw3 M2 M3 k0 k1 k2 k3 f0 f1 f2 f3
  refine (spec_l1Turn hbg).mono ?_; rintro e w4 ⟨rfl, hb4, ht⟩
  rw [hB.2] at ht
  have hft := rowN_fits hP ht
  have hts : (turnS (cB st l kb ks)).size ≤ 16777216 := by rw [ht.2]; omega
  have HQR := Lib.hid (show RowN st (cQ st l kb ks) by rw [HQD.out]; exact hP.times ht)
  have hB4 := below_go hB3 hb4
  have M3 := N3.up hb4; have M2 := N2.up hb4
  clear N3 N2
  go_wp2_with fail
  refine (spec_l1Times hps hts hft).mono ?_; rw [← HQD.out]; rintro e w5 ⟨rfl, rfl⟩
  clear hft ht
  have k0 := M3.cell 0; have k1 := M3.cell 1; have k2 := M3.cell 2; have k3 := M3.cell 3
  simp only [List.getElem?_cons_zero, List.getElem?_cons_succ] at k0 k1 k2 k3
  have f0 := M3.frozen 0; have f1 := M3.frozen 1; have f2 := M3.frozen 2; have f3 := M3.frozen 3
  go_wp2_with fail
  have N3 : Blk (w4.setCell ⟨w.heap.size + 1 + 1 + 1, 2, none⟩ (.string (cQ st l kb ks))) (w.heap.size + 1 + 1 + 1) 113 [.string (cP st l kb ks), .string (cB st l kb ks), .string (cQ st l kb ks), .slice none 0 0] := M3.set_ 2 _
  have N2 := M2.far hne (.string (cQ st l kb ks)) (p := ⟨w.heap.size + 1 + 1 + 1, 2, none⟩)
  have hB5 : Below w.heap.size w (w4.setCell ⟨w.heap.size + 1 + 1 + 1, 2, none⟩ (.string (cQ st l kb ks))) := by (repeat' (first | (with_reducible exact Below.refl _ _) | (with_reducible assumption) | (with_reducible refine below_drewN ?_ _) | (with_reducible refine Below.drew ?_) | (with_reducible refine below_alloc ?_ _) | (with_reducible refine Below.alloc ?_ ?_ _) | (with_reducible refine Below.setCell ?_ ?_ _) | (with_reducible refine below_go ?_ (by with_reducible assumption)) | (with_reducible refine below_then (by with_reducible assumption) ?_ ?_) | go_size))
  have P3 := N3.alloc (.cells #[.string (cP st l kb ks), .string (cB st l kb ks)] 9)
  have P2 := N2.alloc (.cells #[.string (cP st l kb ks), .string (cB st l kb ks)] 9)
  have hB6 := hB5.alloc hB5.size (.cells #[.string (cP st l kb ks), .string (cB st l kb ks)] 9)
  refine (spec_l6Close (n := st) (gs := [cP st l kb ks, cB st l kb ks]) rfl (own_lit2_at (E := 9) (base := 0) (by simp [World.setCell]) (Nat.zero_le _)).recs (by simp) (by simp) h8.1 h8.2 HGR.out).mono ?_
  rw [← HGF.out]
  rintro e w6 ⟨G, gn, gc, rfl, hyes, hno, hb6⟩
  have hB7 := below_go hB6 hb6
  have Q3 := P3.up hb6; have Q2 := P2.up hb6
  have HY := Lib.hid (fun hle => (hyes hle))
  have HNO := Lib.hid hno
  have hbase : w.heap.size ≤ ((w4.setCell ⟨w.heap.size + 1 + 1 + 1, 2, none⟩ (.string (cQ st l kb ks))).alloc (.cells #[.string (cP st l kb ks), .string (cB st l kb ks)] 9)).heap.size := hB6.size
  have HBS := Lib.hid hbase
  clear hyes hno hbase N3 N2 P3 P2 M3 M2 k0 k1 k2 k3 f0 f1 f2 f3
  have k0 := Q3.cell 0; have k1 := Q3.cell 1; have k2 := Q3.cell 2; have k3 := Q3.cell 3
  simp only [List.getElem?_cons_zero, List.getElem?_cons_succ] at k0 k1 k2 k3
  have f0 := Q3.frozen 0; have f1 := Q3.frozen 1; have f2 := Q3.frozen 2; have f3 := Q3.frozen 3
  go_upto_region 11 with fail
  have N3 : Blk (w6.setCell ⟨w.heap.size + 1 + 1 + 1, 3, none⟩ (.slice G gn gc)) (w.heap.size + 1 + 1 + 1) 113 [.string (cP st l kb ks), .string (cB st l kb ks), .string (cQ st l kb ks), .slice G gn gc] := Q3.set_ 3 _
  have N2 := Q2.far hne (.slice G gn gc) (p := ⟨w.heap.size + 1 + 1 + 1, 3, none⟩)
  have hB8 : Below w.heap.size w (w6.setCell ⟨w.heap.size + 1 + 1 + 1, 3, none⟩ (.slice G gn gc)) := by (repeat' (first | (with_reducible exact Below.refl _ _) | (with_reducible assumption) | (with_reducible refine below_drewN ?_ _) | (with_reducible refine Below.drew ?_) | (with_reducible refine below_alloc ?_ _) | (with_reducible refine Below.alloc ?_ ?_ _) | (with_reducible refine Below.setCell ?_ ?_ _) | (with_reducible refine below_go ?_ (by with_reducible assumption)) | (with_reducible refine below_then (by with_reducible assumption) ?_ ?_) | go_size))
  have HY8 := Lib.hid (fun (hle : (gF st l kb ks).length ≤ 800) => (show gn = (gF st l kb ks).length ∧ ∃ L, Owned strE 1 9 (w6.setCell ⟨w.heap.size + 1 + 1 + 1, 3, none⟩ (.slice G gn gc)) w.heap.size G gn gc L ∧ L.Perm (gF st l kb ks) ∧ Srt L by
    obtain ⟨e1, L, ho, hp, hs⟩ := HY.out hle
    have hnb := ho.ne_blk Q3 (by decide)
    exact ⟨e1, L, (ho.kept (only_set w6 (p := ⟨w.heap.size + 1 + 1 + 1, 3, none⟩) _) (fun k hk e => hnb k hk (by injection e with e; exact e.symm))).base_le HBS.out, hp, hs⟩))
  obtain ⟨w8, hw8⟩ : ∃ u, u = (w6.setCell ⟨w.heap.size + 1 + 1 + 1, 3, none⟩ (.slice G gn gc)) := ⟨_, rfl⟩
  rw [← hw8] at N3 N2 hB8 HY8 ⊢
  clear hw8 k0 k1 k2 k3 f0 f1 f2 f3 Q2 Q3 hb6 hb4
  have k0 := N3.cell 0; have k1 := N3.cell 1; have k2 := N3.cell 2; have k3 := N3.cell 3
  have d0 := N2.cell 0; have d1 := N2.cell 1; have d2 := N2.cell 2; have d3 := N2.cell 3
  simp only [List.getElem?_cons_zero, List.getElem?_cons_succ] at k0 k1 k2 k3 d0 d1 d2 d3
  have f0 := N2.frozen 0; have f1 := N2.frozen 1; have f2 := N2.frozen 2; have f3 := N2.frozen 3
  have FIN : Hid (∀ r : Bool, r = decide ((gF st l kb ks).length ≤ 130) → ∃ G' gn' gc', Ending.returned (.tuple #[.agg #[.string (cP st l kb ks), .string (cB st l kb ks), .string (cQ st l kb ks), .slice G gn gc], .bool r]) = Ending.returned (.tuple #[.agg #[.string (cP st l kb ks), .string (cB st l kb ks), .string (cQ st l kb ks), .slice G' gn' gc'], .bool (decide ((gF st l kb ks).length ≤ 130))]) ∧ ((gF st l kb ks).length ≤ 130 → gn' = (gF st l kb ks).length ∧ ∃ L, Owned strE 1 9 ((((w8.setCell ⟨w.heap.size + 1 + 1, 0, none⟩ (.string (cP st l kb ks))).setCell ⟨w.heap.size + 1 + 1, 1, none⟩ (.string (cB st l kb ks))).setCell ⟨w.heap.size + 1 + 1, 2, none⟩ (.string (cQ st l kb ks))).setCell ⟨w.heap.size + 1 + 1, 3, none⟩ (.slice G gn gc)) w.heap.size G' gn' gc' L ∧ L.Perm (gF st l kb ks) ∧ Srt L) ∧ Below w.heap.size w ((((w8.setCell ⟨w.heap.size + 1 + 1, 0, none⟩ (.string (cP st l kb ks))).setCell ⟨w.heap.size + 1 + 1, 1, none⟩ (.string (cB st l kb ks))).setCell ⟨w.heap.size + 1 + 1, 2, none⟩ (.string (cQ st l kb ks))).setCell ⟨w.heap.size + 1 + 1, 3, none⟩ (.slice G gn gc)) ∧ RowN st (cQ st l kb ks)) := Lib.hid (fun r hr => by
    subst hr
    refine ⟨G, gn, gc, rfl, fun hle => ?_, by (repeat' (first | (with_reducible exact Below.refl _ _) | (with_reducible assumption) | (with_reducible refine below_drewN ?_ _) | (with_reducible refine Below.drew ?_) | (with_reducible refine below_alloc ?_ _) | (with_reducible refine Below.alloc ?_ ?_ _) | (with_reducible refine Below.setCell ?_ ?_ _) | (with_reducible refine below_go ?_ (by with_reducible assumption)) | (with_reducible refine below_then (by with_reducible assumption) ?_ ?_) | go_size)), HQR.out⟩
    obtain ⟨e1, L, ho, hp, hs⟩ := HY8.out (by omega)
    exact ⟨e1, L, set4_fin N2 ho (by decide) _ _ _ _, hp, hs⟩)
  by_cases h800 : (gF st l kb ks).length ≤ 800
  · have hgn := Lib.hid (HY8.out h800).1
    have hd8 : decide ((gF st l kb ks).length ≤ 800) = true := decide_eq_true h800
    rw [hd8]
    by_cases h130 : gn ≤ 130
    · have hdec := Lib.hid (show decide ((gF st l kb ks).length ≤ 130) = true from decide_eq_true (by have := hgn.out; omega))
      have hI : (gn : Int) ≤ 130 := by omega
      clear hd8 h800
      go_wp2
      have Z := (((N2.set_ 0 (.string (cP st l kb ks))).set_ 1 (.string (cB st l kb ks))).set_ 2 (.string (cQ st l kb ks))).set_ 3 (.slice G gn gc)
      have z0 := Z.cell 0; have z1 := Z.cell 1; have z2 := Z.cell 2; have z3 := Z.cell 3
      simp only [List.set_cons_zero, List.set_cons_succ, List.getElem?_cons_zero, List.getElem?_cons_succ] at z0 z1 z2 z3
      refine bodyPost_ret (v := .tuple #[.agg #[.string (cP st l kb ks), .string (cB st l kb ks), .string (cQ st l kb ks), .slice G gn gc], .bool true]) (by simp [results, Try.results148, go_sem, z0, z1, z2, z3]) rfl ?_
      exact FIN.out true hdec.out.symm
    · have hdec := Lib.hid (show decide ((gF st l kb ks).length ≤ 130) = false from decide_eq_false (by have := hgn.out; omega))
      have hI : ¬ (gn : Int) ≤ 130 := by omega
      clear hd8 h800
      go_wp2
      have Z := (((N2.set_ 0 (.string (cP st l kb ks))).set_ 1 (.string (cB st l kb ks))).set_ 2 (.string (cQ st l kb ks))).set_ 3 (.slice G gn gc)
      have z0 := Z.cell 0; have z1 := Z.cell 1; have z2 := Z.cell 2; have z3 := Z.cell 3
      simp only [List.set_cons_zero, List.set_cons_succ, List.getElem?_cons_zero, List.getElem?_cons_succ] at z0 z1 z2 z3
      refine bodyPost_ret (v := .tuple #[.agg #[.string (cP st l kb ks), .string (cB st l kb ks), .string (cQ st l kb ks), .slice G gn gc], .bool false]) (by simp [results, Try.results148, go_sem, z0, z1, z2, z3]) rfl ?_
      exact FIN.out false hdec.out.symm
  · have hdec := Lib.hid (show decide ((gF st l kb ks).length ≤ 130) = false from decide_eq_false (by omega))
    have hd8 : decide ((gF st l kb ks).length ≤ 800) = false := decide_eq_false h800
    rw [hd8]
    clear hd8 h800
    go_wp2
    have Z := (((N2.set_ 0 (.string (cP st l kb ks))).set_ 1 (.string (cB st l kb ks))).set_ 2 (.string (cQ st l kb ks))).set_ 3 (.slice G gn gc)
    have z0 := Z.cell 0; have z1 := Z.cell 1; have z2 := Z.cell 2; have z3 := Z.cell 3
    simp only [List.set_cons_zero, List.set_cons_succ, List.getElem?_cons_zero, List.getElem?_cons_succ] at z0 z1 z2 z3
    refine bodyPost_ret (v := .tuple #[.agg #[.string (cP st l kb ks), .string (cB st l kb ks), .string (cQ st l kb ks), .slice G gn gc], .bool false]) (by simp [results, Try.results148, go_sem, z0, z1, z2, z3]) rfl ?_
    exact FIN.out false hdec.out.symm
end Go.Proofs.Ytmdmnjjlpefigaa
/- The walks of chapter 17: the next head of a row (the reference). Printed by gen17k.py. -/
namespace Go.Proofs.Ytmdmnjjlpefigaa
set_option linter.unusedVariables false
set_option linter.unusedSimpArgs false
open Go.ChangeShapes Go.WideShapes Go.ChangeAt Go.RowKit Go.Deep
set_option maxHeartbeats 2000000 in
set_option maxRecDepth 100000 in
theorem spec_l17Bobs {A : Option Addr} {n c st : Nat} {nm : ByteArray} {l : List ByteArray} {kb ks : ByteArray} {T : List ByteArray} {AT : Option Addr} {NT cT : Nat} {w : World} (hn : l.length = n) (h : Strs w A l) (hk : goodK nm (st : Int) l kb ks = true) (hcap : n ≤ c) (hNT : T.length = NT) (hT : Strs w AT T) (hzT : NT ≤ 16777216) :
    Calls Try.prog 100 #[.agg #[.string nm, .int .i64 st, .slice A n c], .agg #[.string kb, .string ks], .slice AT NT cT] w fun e w' => ∃ G gn gc, e = .returned (.tuple #[.agg #[.string (cP st l kb ks), .string (cB st l kb ks), .string (cQ st l kb ks), .slice G gn gc], .bool (ok17 st l kb ks T)]) ∧ ((gF st l kb ks).length ≤ 130 → gn = (gF st l kb ks).length ∧ ∃ L, Owned strE 1 9 w' w.heap.size G gn gc L ∧ L.Perm (gF st l kb ks) ∧ Srt L) ∧ Below w.heap.size w w' := by
  have HO17 := Lib.hid (show ok17 st l kb ks T = (decide ((gF st l kb ks).length ≤ 130) && (rowsInB (gF st l kb ks) T && closedB (cQ st l kb ks) T)) from rfl)
  have HGR := Lib.hid (gF_row hk)
  have b0 : Below w.heap.size w (((w.alloc (.cells ⟨[.string nm, .int .i64 st, .slice A n c]⟩ 42)).alloc (.cells ⟨[.string kb, .string ks]⟩ 44)).alloc (.cells ⟨noE⟩ 113)) := by (repeat' (first | (with_reducible exact Below.refl _ _) | (with_reducible assumption) | (with_reducible refine below_drewN ?_ _) | (with_reducible refine Below.drew ?_) | (with_reducible refine below_alloc ?_ _) | (with_reducible refine Below.alloc ?_ ?_ _) | (with_reducible refine Below.setCell ?_ ?_ _) | (with_reducible refine below_go ?_ (by with_reducible assumption)) | (with_reducible refine below_then (by with_reducible assumption) ?_ ?_) | go_size))
  have K2 := Blk.at_ ((w.alloc (.cells ⟨[.string nm, .int .i64 st, .slice A n c]⟩ 42)).alloc (.cells ⟨[.string kb, .string ks]⟩ 44)) 113 noE (b := w.heap.size + 1 + 1) (by simp)
  go_in
  go_wp2_with fail
  obtain ⟨w0, hw0⟩ : ∃ u, u = (((w.alloc (.cells #[.string nm, .int .i64 st, .slice A n c] 42)).alloc (.cells #[.string kb, .string ks] 44)).alloc (.cells #[.string { data := #[] }, .string { data := #[] }, .string { data := #[] }, .slice none 0 0] 113)) := ⟨_, rfl⟩
  rw [← hw0] at b0 K2 ⊢
  clear hw0
  refine (spec_l17Of hn (h.up b0) hk hcap).mono ?_; rintro e w1 ⟨G, gn, gc, rfl, hyes, hb1, hq⟩
  have HQ := Lib.hid hq
  have HY := Lib.hid hyes
  clear hyes hq h
  have hB1 := below_go b0 hb1
  have hb2 : Below w1.heap.size w1 (w1.alloc (.cells ⟨[.string (cP st l kb ks), .string (cB st l kb ks), .string (cQ st l kb ks), .slice G gn gc]⟩ 113)) := by (repeat' (first | (with_reducible exact Below.refl _ _) | (with_reducible assumption) | (with_reducible refine below_drewN ?_ _) | (with_reducible refine Below.drew ?_) | (with_reducible refine below_alloc ?_ _) | (with_reducible refine Below.alloc ?_ ?_ _) | (with_reducible refine Below.setCell ?_ ?_ _) | (with_reducible refine below_go ?_ (by with_reducible assumption)) | (with_reducible refine below_then (by with_reducible assumption) ?_ ?_) | go_size))
  have KX := Blk.at_ w1 113 [.string (cP st l kb ks), .string (cB st l kb ks), .string (cQ st l kb ks), .slice G gn gc] (b := w1.heap.size) rfl
  have M2 := K2.up hb1
  clear K2
  go_wp2_with fail
  obtain ⟨w2, hw2⟩ : ∃ u, u = (w1.alloc (.cells #[.string (cP st l kb ks), .string (cB st l kb ks), .string (cQ st l kb ks), .slice G gn gc] 113)) := ⟨_, rfl⟩
  have N2 := M2.up hb2
  have sz2 : w1.heap.size < w2.heap.size := by rw [hw2]; simp
  have HY2 := Lib.hid (fun (hle : (gF st l kb ks).length ≤ 130) => (show ∃ L, Owned strE 1 9 w2 w0.heap.size G gn gc L ∧ L.Perm (gF st l kb ks) ∧ Srt L by
    obtain ⟨_, L, ho, hp, hs⟩ := HY.out hle
    exact ⟨L, by rw [hw2]; exact ho.alloc _, hp, hs⟩))
  rw [← hw2] at hb2 KX N2 ⊢
  clear hw2
  have hp2 : w.heap.size + 1 + 1 < w1.heap.size := by have := M2.lt; exact this
  have hB2 := below_go hB1 hb2
  have carry : Hid (∀ u : World, Below w2.heap.size w2 u → u.cell? ⟨w1.heap.size, 0, none⟩ = some (.string (cP st l kb ks)) ∧ u.cell? ⟨w1.heap.size, 1, none⟩ = some (.string (cB st l kb ks)) ∧ u.cell? ⟨w1.heap.size, 2, none⟩ = some (.string (cQ st l kb ks)) ∧ u.cell? ⟨w1.heap.size, 3, none⟩ = some (.slice G gn gc)) := Lib.hid (fun u hu => by
    have L0 := KX.up hu
    exact ⟨by simpa using L0.cell 0, by simpa using L0.cell 1, by simpa using L0.cell 2, by simpa using L0.cell 3⟩)
  have carryS : Hid (∀ (u : World) (x0 x1 x2 x3 : Value), Below w2.heap.size w2 u → ((((u.setCell ⟨w.heap.size + 1 + 1, 0, none⟩ x0).setCell ⟨w.heap.size + 1 + 1, 1, none⟩ x1).setCell ⟨w.heap.size + 1 + 1, 2, none⟩ x2).setCell ⟨w.heap.size + 1 + 1, 3, none⟩ x3).cell? ⟨w1.heap.size, 0, none⟩ = some (.string (cP st l kb ks)) ∧ ((((u.setCell ⟨w.heap.size + 1 + 1, 0, none⟩ x0).setCell ⟨w.heap.size + 1 + 1, 1, none⟩ x1).setCell ⟨w.heap.size + 1 + 1, 2, none⟩ x2).setCell ⟨w.heap.size + 1 + 1, 3, none⟩ x3).cell? ⟨w1.heap.size, 1, none⟩ = some (.string (cB st l kb ks)) ∧ ((((u.setCell ⟨w.heap.size + 1 + 1, 0, none⟩ x0).setCell ⟨w.heap.size + 1 + 1, 1, none⟩ x1).setCell ⟨w.heap.size + 1 + 1, 2, none⟩ x2).setCell ⟨w.heap.size + 1 + 1, 3, none⟩ x3).cell? ⟨w1.heap.size, 2, none⟩ = some (.string (cQ st l kb ks)) ∧ ((((u.setCell ⟨w.heap.size + 1 + 1, 0, none⟩ x0).setCell ⟨w.heap.size + 1 + 1, 1, none⟩ x1).setCell ⟨w.heap.size + 1 + 1, 2, none⟩ x2).setCell ⟨w.heap.size + 1 + 1, 3, none⟩ x3).cell? ⟨w1.heap.size, 3, none⟩ = some (.slice G gn gc)) := Lib.hid (fun u x0 x1 x2 x3 hu => by
    have L0 := carry.out u hu
    have oth : ∀ (v : World) (i j : Nat) (x : Value), (v.setCell ⟨w.heap.size + 1 + 1, i, none⟩ x).cell? ⟨w1.heap.size, j, none⟩ = v.cell? ⟨w1.heap.size, j, none⟩ := fun v i j x => World.cell?_setCell_other _ _ _ _ (by intro e; injection e with e; omega)
    simp only [oth]
    exact L0)
  have HT2 := Lib.hid (hT.up hB2)
  have HN := Lib.hid N2
  have HK := Lib.hid KX
  have fin : Hid (∀ (u : World) (r : Bool), Below w2.heap.size w2 u → r = ok17 st l kb ks T → Blk u (w.heap.size + 1 + 1) 113 noE → ∃ G' gn' gc', Ending.returned (.tuple #[.agg #[.string (cP st l kb ks), .string (cB st l kb ks), .string (cQ st l kb ks), .slice G gn gc], .bool r]) = Ending.returned (.tuple #[.agg #[.string (cP st l kb ks), .string (cB st l kb ks), .string (cQ st l kb ks), .slice G' gn' gc'], .bool (ok17 st l kb ks T)]) ∧ ((gF st l kb ks).length ≤ 130 → gn' = (gF st l kb ks).length ∧ ∃ L, Owned strE 1 9 ((((u.setCell ⟨w.heap.size + 1 + 1, 0, none⟩ (.string (cP st l kb ks))).setCell ⟨w.heap.size + 1 + 1, 1, none⟩ (.string (cB st l kb ks))).setCell ⟨w.heap.size + 1 + 1, 2, none⟩ (.string (cQ st l kb ks))).setCell ⟨w.heap.size + 1 + 1, 3, none⟩ (.slice G gn gc)) w.heap.size G' gn' gc' L ∧ L.Perm (gF st l kb ks) ∧ Srt L) ∧ Below w.heap.size w ((((u.setCell ⟨w.heap.size + 1 + 1, 0, none⟩ (.string (cP st l kb ks))).setCell ⟨w.heap.size + 1 + 1, 1, none⟩ (.string (cB st l kb ks))).setCell ⟨w.heap.size + 1 + 1, 2, none⟩ (.string (cQ st l kb ks))).setCell ⟨w.heap.size + 1 + 1, 3, none⟩ (.slice G gn gc))) := Lib.hid (fun u r hu hr hbk => by
    subst hr
    refine ⟨G, gn, gc, rfl, fun hle => ?_, ?_⟩
    · obtain ⟨L, ho, hp, hs⟩ := HY2.out hle
      exact ⟨(HY.out hle).1, L, set4_fin hbk ((ho.up hu).base_le b0.size) (by decide) _ _ _ _, hp, hs⟩
    · have hBu := below_go hB2 hu
      exact (((hBu.setCell (p := ⟨_, 0, none⟩) (by simp; omega) _).setCell (p := ⟨_, 1, none⟩) (by simp; omega) _).setCell (p := ⟨_, 2, none⟩) (by simp; omega) _).setCell (p := ⟨_, 3, none⟩) (by simp; omega) _)
  by_cases hle : (gF st l kb ks).length ≤ 130
  · obtain ⟨L, hoL, hpL, hsL⟩ := HY2.out hle
    have HL := Lib.hid hoL
    have HPL := Lib.hid hpL
    have HSL := Lib.hid hsL
    have hgz : gn ≤ 16777216 := by have := (HY.out hle).1; omega
    have hdec : decide ((gF st l kb ks).length ≤ 130) = true := decide_eq_true hle
    have cI := Lib.hid (fun (u : World) (hb : Below w2.heap.size w2 u) => spec_rows17 (p := cP st l kb ks) (b := cB st l kb ks) (q := cQ st l kb ks) (gc := gc) (c := cT) HL.out.len ((HL.out.up hb).recs) hgz hNT (HT2.out.up hb) hzT)
    clear hoL hpL hsL
    have HRP := Lib.hid (rowsIn_perm (B := T) HPL.out)
    rcases hr : rowsInB L T
    · have e0 := Lib.hid (show false = ok17 st l kb ks T by rw [HO17.out, ← HRP.out, hr, Bool.false_and, Bool.and_false])
      have HR := Lib.hid hr
      clear hr
      rw [hdec]
      have CD : Below w2.heap.size w2 w2.drew := (Below.refl _ _).drew
      refine wp_region_held_drew (S := fun u => u.cell? ⟨w1.heap.size, 0, none⟩ = some (.string (cP st l kb ks)) ∧ u.cell? ⟨w1.heap.size, 1, none⟩ = some (.string (cB st l kb ks)) ∧ u.cell? ⟨w1.heap.size, 2, none⟩ = some (.string (cQ st l kb ks)) ∧ u.cell? ⟨w1.heap.size, 3, none⟩ = some (.slice G gn gc)) (by kernel_rfl) (carry.out _ (Below.refl _ _).drew) (fun hHeld => ?_)
      refine wpAnyH_take (i := 0) (oi := { dst := some 16, op := _, type := _, pos := _, after := _, guard := _ }) (v := ?_) rfl (by kernel_rfl) (by kernel_rfl) (by kernel_rfl) (fun _ _ _ h => h) (Or.inl ⟨by rfl, ?_⟩) (by assumption) ?_
      rotate_left
      · (intro w hSw; (try dsimp only at hSw); go_simp) <;> with_reducible rfl
      try simp only [Act.put, List.setIfInBounds_toArray, List.set_cons_zero, List.set_cons_succ]
      refine wpAnyH_take (i := 1) (oi := { dst := some 17, op := _, type := _, pos := _, after := _, guard := _ }) (v := ?_) rfl (by kernel_rfl) (by kernel_rfl) (by kernel_rfl) (fun _ _ _ h => h) (Or.inl ⟨by rfl, ?_⟩) (by assumption) ?_
      rotate_left
      · (intro w hSw; (try dsimp only at hSw); go_simp) <;> with_reducible rfl
      try simp only [Act.put, List.setIfInBounds_toArray, List.set_cons_zero, List.set_cons_succ]
      refine wpAnyH_take (i := 2) (oi := { dst := some 18, op := _, type := _, pos := _, after := _, guard := _ }) (v := ?_) rfl (by kernel_rfl) (by kernel_rfl) (by kernel_rfl) (fun _ _ _ h => h) (Or.inl ⟨by rfl, ?_⟩) (by assumption) ?_
      rotate_left
      · (intro w hSw; (try dsimp only at hSw); go_simp) <;> with_reducible rfl
      try simp only [Act.put, List.setIfInBounds_toArray, List.set_cons_zero, List.set_cons_succ]
      refine wpAnyH_take (i := 3) (oi := { dst := some 19, op := _, type := _, pos := _, after := _, guard := _ }) (v := ?_) rfl (by kernel_rfl) (by kernel_rfl) (by kernel_rfl) (fun _ _ _ h => h) (Or.inl ⟨by rfl, ?_⟩) (by assumption) ?_
      rotate_left
      · (intro w hSw; (try dsimp only at hSw); go_simp) <;> with_reducible rfl
      try simp only [Act.put, List.setIfInBounds_toArray, List.set_cons_zero, List.set_cons_succ]
      refine wpAnyH_take (i := 4) (oi := { dst := some 20, op := _, type := _, pos := _, after := _, guard := _ }) (v := ?_) rfl (by kernel_rfl) (by kernel_rfl) (by kernel_rfl) (fun _ _ _ h => h) (Or.inl ⟨by rfl, ?_⟩) (by assumption) ?_
      rotate_left
      · (intro w hSw; (try dsimp only at hSw); go_simp) <;> with_reducible rfl
      try simp only [Act.put, List.setIfInBounds_toArray, List.set_cons_zero, List.set_cons_succ]
      refine wpAnyH_ready (rs := [5]) (by kernel_rfl) (by simp) ?_
      refine AllReadyH.cons (o := _) rfl (fun K hK => ?_) AllReadyH.nil
      go_simp
      refine (cI.out _ CD).mono ?_; rw [HR.out]; rintro e w3 ⟨rfl, hbd3⟩
      have C1 := CD.trans (hbd3.mono CD.size)
      try go_wp2_with fail
      refine hK.out _ _ (carry.out _ C1) (fun hHeld => ?_)
      clear hK K
      try simp only [Act.put, List.setIfInBounds_toArray, List.set_cons_zero, List.set_cons_succ]
      refine wpAnyH_take (i := 6) (oi := { dst := some 22, op := _, type := _, pos := _, after := _, guard := _ }) (v := ?_) rfl (by kernel_rfl) (by kernel_rfl) (by kernel_rfl) (fun _ _ _ h => h) (Or.inl ⟨by rfl, ?_⟩) (by assumption) ?_
      rotate_left
      · (intro w hSw; (try dsimp only at hSw); go_simp) <;> with_reducible rfl
      try simp only [Act.put, List.setIfInBounds_toArray, List.set_cons_zero, List.set_cons_succ]
      refine wpAnyH_take (i := 7) (oi := { dst := some 23, op := _, type := _, pos := _, after := _, guard := _ }) (v := ?_) rfl (by kernel_rfl) (by kernel_rfl) (by kernel_rfl) (fun _ _ _ h => h) (Or.inl ⟨by rfl, ?_⟩) (by assumption) ?_
      rotate_left
      · (intro w hSw; (try dsimp only at hSw); go_simp) <;> with_reducible rfl
      try simp only [Act.put, List.setIfInBounds_toArray, List.set_cons_zero, List.set_cons_succ]
      refine wpAnyH_take (i := 8) (oi := { dst := some 24, op := _, type := _, pos := _, after := _, guard := _ }) (v := undef) rfl (by kernel_rfl) (by kernel_rfl) (by kernel_rfl) (fun _ _ _ h => h) (Or.inr ⟨by rfl, rfl⟩) (by assumption) ?_
      try simp only [Act.put, List.setIfInBounds_toArray, List.set_cons_zero, List.set_cons_succ]
      refine wpAnyH_take (i := 9) (oi := { dst := some 25, op := _, type := _, pos := _, after := _, guard := _ }) (v := undef) rfl (by kernel_rfl) (by kernel_rfl) (by kernel_rfl) (fun _ _ _ h => h) (Or.inr ⟨by rfl, rfl⟩) (by assumption) ?_
      try simp only [Act.put, List.setIfInBounds_toArray, List.set_cons_zero, List.set_cons_succ]
      refine wpAnyH_ready (rs := [10]) (by kernel_rfl) (by simp) ?_
      refine AllReadyH.cons (o := _) rfl (fun K hK => ?_) AllReadyH.nil
      go_simp
      refine hK.out _ _ (carry.out _ C1) (fun hHeld => ?_)
      clear hK K
      try simp only [Act.put, List.setIfInBounds_toArray, List.set_cons_zero, List.set_cons_succ]
      refine wpAnyH_take (i := 11) (oi := { dst := some 27, op := _, type := _, pos := _, after := _, guard := _ }) (v := ?_) rfl (by kernel_rfl) (by kernel_rfl) (by kernel_rfl) (fun _ _ _ h => h) (Or.inl ⟨by rfl, ?_⟩) (by assumption) ?_
      rotate_left
      · (intro w hSw; (try dsimp only at hSw); go_simp) <;> with_reducible rfl
      try simp only [Act.put, List.setIfInBounds_toArray, List.set_cons_zero, List.set_cons_succ]
      have KZ := HN.out.up C1
      have z0 := KZ.cell 0; have z1 := KZ.cell 1; have z2 := KZ.cell 2; have z3 := KZ.cell 3
      simp only [List.getElem?_cons_zero, List.getElem?_cons_succ] at z0 z1 z2 z3
      have f0 := KZ.frozen 0; have f1 := KZ.frozen 1; have f2 := KZ.frozen 2; have f3 := KZ.frozen 3
      refine wpAnyH_ready (rs := [12]) (by kernel_rfl) (by simp) ?_
      refine AllReadyH.cons (o := _) rfl (fun K hK => ?_) AllReadyH.nil
      go_simp
      refine hK.out _ _ (carryS.out _ _ _ _ _ C1) (fun hHeld => ?_)
      clear hK K
      try simp only [Act.put, List.setIfInBounds_toArray, List.set_cons_zero, List.set_cons_succ]
      refine wpAnyH_take (i := 13) (oi := { dst := some 7, op := _, type := _, pos := _, after := _, guard := _ }) (v := ?_) rfl (by kernel_rfl) (by kernel_rfl) (by kernel_rfl) (fun _ _ _ h => h) (Or.inl ⟨by rfl, ?_⟩) (by assumption) ?_
      rotate_left
      · (intro w hSw; (try dsimp only at hSw); go_simp) <;> with_reducible rfl
      try simp only [Act.put, List.setIfInBounds_toArray, List.set_cons_zero, List.set_cons_succ]
      refine wpAnyH_done (by kernel_rfl) ?_ _
      try simp only [Act.put, List.setIfInBounds_toArray, List.set_cons_zero, List.set_cons_succ]
      go_wp2
      have Z := (((KZ.set_ 0 (.string (cP st l kb ks))).set_ 1 (.string (cB st l kb ks))).set_ 2 (.string (cQ st l kb ks))).set_ 3 (.slice G gn gc)
      have y0 := Z.cell 0; have y1 := Z.cell 1; have y2 := Z.cell 2; have y3 := Z.cell 3
      simp only [List.set_cons_zero, List.set_cons_succ, List.getElem?_cons_zero, List.getElem?_cons_succ] at y0 y1 y2 y3
      refine bodyPost_ret (v := .tuple #[.agg #[.string (cP st l kb ks), .string (cB st l kb ks), .string (cQ st l kb ks), .slice G gn gc], .bool (false)]) (by simp [results, Try.results100, go_sem, y0, y1, y2, y3]) rfl ?_
      exact fin.out _ _ C1 e0.out KZ
    · have HIT := Lib.hid (rowsIn_t hr)
      have HTR := Lib.hid (fun s hs => HGR.out s (HPL.out.mem_iff.1 (HIT.out.1 s hs)))
      have cA := Lib.hid (fun (u : World) (hb : Below w2.heap.size w2 u) => spec_good17 (p := cP st l kb ks) (b := cB st l kb ks) (G := G) (gn := gn) (gc := gc) (c := cT) HQ.out hNT (HT2.out.up hb) hzT HTR.out)
      have e0 := Lib.hid (show closedB (cQ st l kb ks) T = ok17 st l kb ks T by rw [HO17.out, ← HRP.out, hr, hdec, Bool.true_and, Bool.true_and])
      have HR := Lib.hid hr
      clear hr
      rw [hdec]
      have CD : Below w2.heap.size w2 w2.drew := (Below.refl _ _).drew
      refine wp_region_held_drew (S := fun u => u.cell? ⟨w1.heap.size, 0, none⟩ = some (.string (cP st l kb ks)) ∧ u.cell? ⟨w1.heap.size, 1, none⟩ = some (.string (cB st l kb ks)) ∧ u.cell? ⟨w1.heap.size, 2, none⟩ = some (.string (cQ st l kb ks)) ∧ u.cell? ⟨w1.heap.size, 3, none⟩ = some (.slice G gn gc)) (by kernel_rfl) (carry.out _ (Below.refl _ _).drew) (fun hHeld => ?_)
      refine wpAnyH_take (i := 0) (oi := { dst := some 16, op := _, type := _, pos := _, after := _, guard := _ }) (v := ?_) rfl (by kernel_rfl) (by kernel_rfl) (by kernel_rfl) (fun _ _ _ h => h) (Or.inl ⟨by rfl, ?_⟩) (by assumption) ?_
      rotate_left
      · (intro w hSw; (try dsimp only at hSw); go_simp) <;> with_reducible rfl
      try simp only [Act.put, List.setIfInBounds_toArray, List.set_cons_zero, List.set_cons_succ]
      refine wpAnyH_take (i := 1) (oi := { dst := some 17, op := _, type := _, pos := _, after := _, guard := _ }) (v := ?_) rfl (by kernel_rfl) (by kernel_rfl) (by kernel_rfl) (fun _ _ _ h => h) (Or.inl ⟨by rfl, ?_⟩) (by assumption) ?_
      rotate_left
      · (intro w hSw; (try dsimp only at hSw); go_simp) <;> with_reducible rfl
      try simp only [Act.put, List.setIfInBounds_toArray, List.set_cons_zero, List.set_cons_succ]
      refine wpAnyH_take (i := 2) (oi := { dst := some 18, op := _, type := _, pos := _, after := _, guard := _ }) (v := ?_) rfl (by kernel_rfl) (by kernel_rfl) (by kernel_rfl) (fun _ _ _ h => h) (Or.inl ⟨by rfl, ?_⟩) (by assumption) ?_
      rotate_left
      · (intro w hSw; (try dsimp only at hSw); go_simp) <;> with_reducible rfl
      try simp only [Act.put, List.setIfInBounds_toArray, List.set_cons_zero, List.set_cons_succ]
      refine wpAnyH_take (i := 3) (oi := { dst := some 19, op := _, type := _, pos := _, after := _, guard := _ }) (v := ?_) rfl (by kernel_rfl) (by kernel_rfl) (by kernel_rfl) (fun _ _ _ h => h) (Or.inl ⟨by rfl, ?_⟩) (by assumption) ?_
      rotate_left
      · (intro w hSw; (try dsimp only at hSw); go_simp) <;> with_reducible rfl
      try simp only [Act.put, List.setIfInBounds_toArray, List.set_cons_zero, List.set_cons_succ]
      refine wpAnyH_take (i := 4) (oi := { dst := some 20, op := _, type := _, pos := _, after := _, guard := _ }) (v := ?_) rfl (by kernel_rfl) (by kernel_rfl) (by kernel_rfl) (fun _ _ _ h => h) (Or.inl ⟨by rfl, ?_⟩) (by assumption) ?_
      rotate_left
      · (intro w hSw; (try dsimp only at hSw); go_simp) <;> with_reducible rfl
      try simp only [Act.put, List.setIfInBounds_toArray, List.set_cons_zero, List.set_cons_succ]
      refine wpAnyH_ready (rs := [5]) (by kernel_rfl) (by simp) ?_
      refine AllReadyH.cons (o := _) rfl (fun K hK => ?_) AllReadyH.nil
      go_simp
      refine (cI.out _ CD).mono ?_; rw [HR.out]; rintro e w3 ⟨rfl, hbd3⟩
      have C1 := CD.trans (hbd3.mono CD.size)
      try go_wp2_with fail
      refine hK.out _ _ (carry.out _ C1) (fun hHeld => ?_)
      clear hK K
      try simp only [Act.put, List.setIfInBounds_toArray, List.set_cons_zero, List.set_cons_succ]
      refine wpAnyH_take (i := 6) (oi := { dst := some 22, op := _, type := _, pos := _, after := _, guard := _ }) (v := ?_) rfl (by kernel_rfl) (by kernel_rfl) (by kernel_rfl) (fun _ _ _ h => h) (Or.inl ⟨by rfl, ?_⟩) (by assumption) ?_
      rotate_left
      · (intro w hSw; (try dsimp only at hSw); go_simp) <;> with_reducible rfl
      try simp only [Act.put, List.setIfInBounds_toArray, List.set_cons_zero, List.set_cons_succ]
      refine wpAnyH_take (i := 7) (oi := { dst := some 23, op := _, type := _, pos := _, after := _, guard := _ }) (v := ?_) rfl (by kernel_rfl) (by kernel_rfl) (by kernel_rfl) (fun _ _ _ h => h) (Or.inl ⟨by rfl, ?_⟩) (by assumption) ?_
      rotate_left
      · (intro w hSw; (try dsimp only at hSw); go_simp) <;> with_reducible rfl
      try simp only [Act.put, List.setIfInBounds_toArray, List.set_cons_zero, List.set_cons_succ]
      refine wpAnyH_take (i := 8) (oi := { dst := some 24, op := _, type := _, pos := _, after := _, guard := _ }) (v := ?_) rfl (by kernel_rfl) (by kernel_rfl) (by kernel_rfl) (fun _ _ _ h => h) (Or.inl ⟨by rfl, ?_⟩) (by assumption) ?_
      rotate_left
      · (intro w hSw; (try dsimp only at hSw); go_simp) <;> with_reducible rfl
      try simp only [Act.put, List.setIfInBounds_toArray, List.set_cons_zero, List.set_cons_succ]
      refine wpAnyH_take (i := 9) (oi := { dst := some 25, op := _, type := _, pos := _, after := _, guard := _ }) (v := ?_) rfl (by kernel_rfl) (by kernel_rfl) (by kernel_rfl) (fun _ _ _ h => h) (Or.inl ⟨by rfl, ?_⟩) (by assumption) ?_
      rotate_left
      · (intro w hSw; (try dsimp only at hSw); go_simp) <;> with_reducible rfl
      try simp only [Act.put, List.setIfInBounds_toArray, List.set_cons_zero, List.set_cons_succ]
      refine wpAnyH_ready (rs := [10]) (by kernel_rfl) (by simp) ?_
      refine AllReadyH.cons (o := _) rfl (fun K hK => ?_) AllReadyH.nil
      go_simp
      refine (cA.out _ C1).mono ?_; rintro e w4 ⟨rfl, hb4⟩
      have C2 := C1.trans (hb4.mono C1.size)
      try go_wp2_with fail
      refine hK.out _ _ (carry.out _ C2) (fun hHeld => ?_)
      clear hK K
      try simp only [Act.put, List.setIfInBounds_toArray, List.set_cons_zero, List.set_cons_succ]
      refine wpAnyH_take (i := 11) (oi := { dst := some 27, op := _, type := _, pos := _, after := _, guard := _ }) (v := ?_) rfl (by kernel_rfl) (by kernel_rfl) (by kernel_rfl) (fun _ _ _ h => h) (Or.inl ⟨by rfl, ?_⟩) (by assumption) ?_
      rotate_left
      · (intro w hSw; (try dsimp only at hSw); go_simp) <;> with_reducible rfl
      try simp only [Act.put, List.setIfInBounds_toArray, List.set_cons_zero, List.set_cons_succ]
      have KZ := HN.out.up C2
      have z0 := KZ.cell 0; have z1 := KZ.cell 1; have z2 := KZ.cell 2; have z3 := KZ.cell 3
      simp only [List.getElem?_cons_zero, List.getElem?_cons_succ] at z0 z1 z2 z3
      have f0 := KZ.frozen 0; have f1 := KZ.frozen 1; have f2 := KZ.frozen 2; have f3 := KZ.frozen 3
      refine wpAnyH_ready (rs := [12]) (by kernel_rfl) (by simp) ?_
      refine AllReadyH.cons (o := _) rfl (fun K hK => ?_) AllReadyH.nil
      go_simp
      refine hK.out _ _ (carryS.out _ _ _ _ _ C2) (fun hHeld => ?_)
      clear hK K
      try simp only [Act.put, List.setIfInBounds_toArray, List.set_cons_zero, List.set_cons_succ]
      refine wpAnyH_take (i := 13) (oi := { dst := some 7, op := _, type := _, pos := _, after := _, guard := _ }) (v := ?_) rfl (by kernel_rfl) (by kernel_rfl) (by kernel_rfl) (fun _ _ _ h => h) (Or.inl ⟨by rfl, ?_⟩) (by assumption) ?_
      rotate_left
      · (intro w hSw; (try dsimp only at hSw); go_simp) <;> with_reducible rfl
      try simp only [Act.put, List.setIfInBounds_toArray, List.set_cons_zero, List.set_cons_succ]
      refine wpAnyH_done (by kernel_rfl) ?_ _
      try simp only [Act.put, List.setIfInBounds_toArray, List.set_cons_zero, List.set_cons_succ]
      go_wp2
      have Z := (((KZ.set_ 0 (.string (cP st l kb ks))).set_ 1 (.string (cB st l kb ks))).set_ 2 (.string (cQ st l kb ks))).set_ 3 (.slice G gn gc)
      have y0 := Z.cell 0; have y1 := Z.cell 1; have y2 := Z.cell 2; have y3 := Z.cell 3
      simp only [List.set_cons_zero, List.set_cons_succ, List.getElem?_cons_zero, List.getElem?_cons_succ] at y0 y1 y2 y3
      refine bodyPost_ret (v := .tuple #[.agg #[.string (cP st l kb ks), .string (cB st l kb ks), .string (cQ st l kb ks), .slice G gn gc], .bool (closedB (cQ st l kb ks) T)]) (by simp [results, Try.results100, go_sem, y0, y1, y2, y3]) rfl ?_
      exact fin.out _ _ C2 e0.out KZ
  · have hdec : decide ((gF st l kb ks).length ≤ 130) = false := decide_eq_false hle
    have e0 := Lib.hid (show false = ok17 st l kb ks T by rw [HO17.out, hdec, Bool.false_and])
    rw [hdec]
    have CD : Below w2.heap.size w2 w2.drew := (Below.refl _ _).drew
    refine wp_region_held_drew (S := fun u => u.cell? ⟨w1.heap.size, 0, none⟩ = some (.string (cP st l kb ks)) ∧ u.cell? ⟨w1.heap.size, 1, none⟩ = some (.string (cB st l kb ks)) ∧ u.cell? ⟨w1.heap.size, 2, none⟩ = some (.string (cQ st l kb ks)) ∧ u.cell? ⟨w1.heap.size, 3, none⟩ = some (.slice G gn gc)) (by kernel_rfl) (carry.out _ (Below.refl _ _).drew) (fun hHeld => ?_)
    refine wpAnyH_take (i := 0) (oi := { dst := some 16, op := _, type := _, pos := _, after := _, guard := _ }) (v := ?_) rfl (by kernel_rfl) (by kernel_rfl) (by kernel_rfl) (fun _ _ _ h => h) (Or.inl ⟨by rfl, ?_⟩) (by assumption) ?_
    rotate_left
    · (intro w hSw; (try dsimp only at hSw); go_simp) <;> with_reducible rfl
    try simp only [Act.put, List.setIfInBounds_toArray, List.set_cons_zero, List.set_cons_succ]
    refine wpAnyH_take (i := 1) (oi := { dst := some 17, op := _, type := _, pos := _, after := _, guard := _ }) (v := ?_) rfl (by kernel_rfl) (by kernel_rfl) (by kernel_rfl) (fun _ _ _ h => h) (Or.inl ⟨by rfl, ?_⟩) (by assumption) ?_
    rotate_left
    · (intro w hSw; (try dsimp only at hSw); go_simp) <;> with_reducible rfl
    try simp only [Act.put, List.setIfInBounds_toArray, List.set_cons_zero, List.set_cons_succ]
    refine wpAnyH_take (i := 2) (oi := { dst := some 18, op := _, type := _, pos := _, after := _, guard := _ }) (v := ?_) rfl (by kernel_rfl) (by kernel_rfl) (by kernel_rfl) (fun _ _ _ h => h) (Or.inl ⟨by rfl, ?_⟩) (by assumption) ?_
    rotate_left
    · (intro w hSw; (try dsimp only at hSw); go_simp) <;> with_reducible rfl
    try simp only [Act.put, List.setIfInBounds_toArray, List.set_cons_zero, List.set_cons_succ]
    generalize w2.drew = wd at CD hHeld ⊢
    refine wpAnyH_take (i := 3) (oi := { dst := some 19, op := _, type := _, pos := _, after := _, guard := _ }) (v := undef) rfl (by kernel_rfl) (by kernel_rfl) (by kernel_rfl) (fun _ _ _ h => h) (Or.inr ⟨by rfl, rfl⟩) (by assumption) ?_
    try simp only [Act.put, List.setIfInBounds_toArray, List.set_cons_zero, List.set_cons_succ]
    refine wpAnyH_take (i := 4) (oi := { dst := some 20, op := _, type := _, pos := _, after := _, guard := _ }) (v := undef) rfl (by kernel_rfl) (by kernel_rfl) (by kernel_rfl) (fun _ _ _ h => h) (Or.inr ⟨by rfl, rfl⟩) (by assumption) ?_
    try simp only [Act.put, List.setIfInBounds_toArray, List.set_cons_zero, List.set_cons_succ]
    refine wpAnyH_ready (rs := [5]) (by kernel_rfl) (by simp) ?_
    refine AllReadyH.cons (o := _) rfl (fun K hK => ?_) AllReadyH.nil
    go_simp
    refine hK.out _ _ (carry.out _ CD) (fun hHeld => ?_)
    clear hK K
    try simp only [Act.put, List.setIfInBounds_toArray, List.set_cons_zero, List.set_cons_succ]
    refine wpAnyH_take (i := 6) (oi := { dst := some 22, op := _, type := _, pos := _, after := _, guard := _ }) (v := ?_) rfl (by kernel_rfl) (by kernel_rfl) (by kernel_rfl) (fun _ _ _ h => h) (Or.inl ⟨by rfl, ?_⟩) (by assumption) ?_
    rotate_left
    · (intro w hSw; (try dsimp only at hSw); go_simp) <;> with_reducible rfl
    try simp only [Act.put, List.setIfInBounds_toArray, List.set_cons_zero, List.set_cons_succ]
    refine wpAnyH_take (i := 7) (oi := { dst := some 23, op := _, type := _, pos := _, after := _, guard := _ }) (v := ?_) rfl (by kernel_rfl) (by kernel_rfl) (by kernel_rfl) (fun _ _ _ h => h) (Or.inl ⟨by rfl, ?_⟩) (by assumption) ?_
    rotate_left
    · (intro w hSw; (try dsimp only at hSw); go_simp) <;> with_reducible rfl
    try simp only [Act.put, List.setIfInBounds_toArray, List.set_cons_zero, List.set_cons_succ]
    refine wpAnyH_take (i := 8) (oi := { dst := some 24, op := _, type := _, pos := _, after := _, guard := _ }) (v := undef) rfl (by kernel_rfl) (by kernel_rfl) (by kernel_rfl) (fun _ _ _ h => h) (Or.inr ⟨by rfl, rfl⟩) (by assumption) ?_
    try simp only [Act.put, List.setIfInBounds_toArray, List.set_cons_zero, List.set_cons_succ]
    refine wpAnyH_take (i := 9) (oi := { dst := some 25, op := _, type := _, pos := _, after := _, guard := _ }) (v := undef) rfl (by kernel_rfl) (by kernel_rfl) (by kernel_rfl) (fun _ _ _ h => h) (Or.inr ⟨by rfl, rfl⟩) (by assumption) ?_
    try simp only [Act.put, List.setIfInBounds_toArray, List.set_cons_zero, List.set_cons_succ]
    refine wpAnyH_ready (rs := [10]) (by kernel_rfl) (by simp) ?_
    refine AllReadyH.cons (o := _) rfl (fun K hK => ?_) AllReadyH.nil
    go_simp
    refine hK.out _ _ (carry.out _ CD) (fun hHeld => ?_)
    clear hK K
    try simp only [Act.put, List.setIfInBounds_toArray, List.set_cons_zero, List.set_cons_succ]
    refine wpAnyH_take (i := 11) (oi := { dst := some 27, op := _, type := _, pos := _, after := _, guard := _ }) (v := ?_) rfl (by kernel_rfl) (by kernel_rfl) (by kernel_rfl) (fun _ _ _ h => h) (Or.inl ⟨by rfl, ?_⟩) (by assumption) ?_
    rotate_left
    · (intro w hSw; (try dsimp only at hSw); go_simp) <;> with_reducible rfl
    try simp only [Act.put, List.setIfInBounds_toArray, List.set_cons_zero, List.set_cons_succ]
    have KZ := HN.out.up CD
    have z0 := KZ.cell 0; have z1 := KZ.cell 1; have z2 := KZ.cell 2; have z3 := KZ.cell 3
    simp only [List.getElem?_cons_zero, List.getElem?_cons_succ] at z0 z1 z2 z3
    have f0 := KZ.frozen 0; have f1 := KZ.frozen 1; have f2 := KZ.frozen 2; have f3 := KZ.frozen 3
    refine wpAnyH_ready (rs := [12]) (by kernel_rfl) (by simp) ?_
    refine AllReadyH.cons (o := _) rfl (fun K hK => ?_) AllReadyH.nil
    go_simp
    refine hK.out _ _ (carryS.out _ _ _ _ _ CD) (fun hHeld => ?_)
    clear hK K
    try simp only [Act.put, List.setIfInBounds_toArray, List.set_cons_zero, List.set_cons_succ]
    refine wpAnyH_take (i := 13) (oi := { dst := some 7, op := _, type := _, pos := _, after := _, guard := _ }) (v := ?_) rfl (by kernel_rfl) (by kernel_rfl) (by kernel_rfl) (fun _ _ _ h => h) (Or.inl ⟨by rfl, ?_⟩) (by assumption) ?_
    rotate_left
    · (intro w hSw; (try dsimp only at hSw); go_simp) <;> with_reducible rfl
    try simp only [Act.put, List.setIfInBounds_toArray, List.set_cons_zero, List.set_cons_succ]
    refine wpAnyH_done (by kernel_rfl) ?_ _
    try simp only [Act.put, List.setIfInBounds_toArray, List.set_cons_zero, List.set_cons_succ]
    go_wp2
    have Z := (((KZ.set_ 0 (.string (cP st l kb ks))).set_ 1 (.string (cB st l kb ks))).set_ 2 (.string (cQ st l kb ks))).set_ 3 (.slice G gn gc)
    have y0 := Z.cell 0; have y1 := Z.cell 1; have y2 := Z.cell 2; have y3 := Z.cell 3
    simp only [List.set_cons_zero, List.set_cons_succ, List.getElem?_cons_zero, List.getElem?_cons_succ] at y0 y1 y2 y3
    refine bodyPost_ret (v := .tuple #[.agg #[.string (cP st l kb ks), .string (cB st l kb ks), .string (cQ st l kb ks), .slice G gn gc], .bool (false)]) (by simp [results, Try.results100, go_sem, y0, y1, y2, y3]) rfl ?_
    exact fin.out _ _ CD e0.out KZ
set_option maxHeartbeats 2000000 in
set_option maxRecDepth 100000 in
theorem spec_l17Bobs_no {A : Option Addr} {n c : Nat} {nm : ByteArray} {st : Int} {l : List ByteArray} {kb ks : ByteArray} {T : List ByteArray} {AT : Option Addr} {NT cT : Nat} {w : World} (hn : l.length = n) (h : Strs w A l) (hz : n ≤ 1048576) (hs : ∀ s ∈ l, s.size ≤ 16777216) (hnm : nm.size ≤ 16777216) (hst : I64 st) (hkb : kb.size ≤ 16777216) (hks : ks.size ≤ 16777216) (hk : goodK nm st l kb ks = false) :
    Calls Try.prog 100 #[.agg #[.string nm, .int .i64 st, .slice A n c], .agg #[.string kb, .string ks], .slice AT NT cT] w fun e w' => e = .returned (.tuple #[.agg #[.string { data := #[] }, .string { data := #[] }, .string { data := #[] }, .slice none 0 0], .bool false]) ∧ Below w.heap.size w w' := by
  have b0 : Below w.heap.size w (((w.alloc (.cells ⟨[.string nm, .int .i64 st, .slice A n c]⟩ 42)).alloc (.cells ⟨[.string kb, .string ks]⟩ 44)).alloc (.cells ⟨noE⟩ 113)) := by (repeat' (first | (with_reducible exact Below.refl _ _) | (with_reducible assumption) | (with_reducible refine below_drewN ?_ _) | (with_reducible refine Below.drew ?_) | (with_reducible refine below_alloc ?_ _) | (with_reducible refine Below.alloc ?_ ?_ _) | (with_reducible refine Below.setCell ?_ ?_ _) | (with_reducible refine below_go ?_ (by with_reducible assumption)) | (with_reducible refine below_then (by with_reducible assumption) ?_ ?_) | go_size))
  have K2 := Blk.at_ ((w.alloc (.cells ⟨[.string nm, .int .i64 st, .slice A n c]⟩ 42)).alloc (.cells ⟨[.string kb, .string ks]⟩ 44)) 113 noE (b := w.heap.size + 1 + 1) (by simp)
  go_in
  go_wp2_with fail
  obtain ⟨w0, hw0⟩ : ∃ u, u = (((w.alloc (.cells #[.string nm, .int .i64 st, .slice A n c] 42)).alloc (.cells #[.string kb, .string ks] 44)).alloc (.cells #[.string { data := #[] }, .string { data := #[] }, .string { data := #[] }, .slice none 0 0] 113)) := ⟨_, rfl⟩
  rw [← hw0] at b0 K2 ⊢
  clear hw0
  refine (spec_l17Of_no hn (h.up b0) hz hs hnm hst hkb hks hk).mono ?_; rintro e w1 ⟨rfl, hb1⟩
  have hB1 := below_go b0 hb1
  have hb2 : Below w1.heap.size w1 (w1.alloc (.cells ⟨noE⟩ 113)) := by (repeat' (first | (with_reducible exact Below.refl _ _) | (with_reducible assumption) | (with_reducible refine below_drewN ?_ _) | (with_reducible refine Below.drew ?_) | (with_reducible refine below_alloc ?_ _) | (with_reducible refine Below.alloc ?_ ?_ _) | (with_reducible refine Below.setCell ?_ ?_ _) | (with_reducible refine below_go ?_ (by with_reducible assumption)) | (with_reducible refine below_then (by with_reducible assumption) ?_ ?_) | go_size))
  have KX := Blk.at_ w1 113 noE (b := w1.heap.size) rfl
  have M2 := K2.up hb1
  clear K2
  go_wp2_with fail
  obtain ⟨w2, hw2⟩ : ∃ u, u = (w1.alloc (.cells #[.string { data := #[] }, .string { data := #[] }, .string { data := #[] }, .slice none 0 0] 113)) := ⟨_, rfl⟩
  have N2 := M2.up hb2
  have sz2 : w1.heap.size < w2.heap.size := by rw [hw2]; simp
  rw [← hw2] at hb2 KX N2 ⊢
  clear hw2
  have hp2 : w.heap.size + 1 + 1 < w1.heap.size := by have := M2.lt; exact this
  have hB2 := below_go hB1 hb2
  have carry : Hid (∀ u : World, Below w2.heap.size w2 u → u.cell? ⟨w1.heap.size, 0, none⟩ = some (.string { data := #[] }) ∧ u.cell? ⟨w1.heap.size, 1, none⟩ = some (.string { data := #[] }) ∧ u.cell? ⟨w1.heap.size, 2, none⟩ = some (.string { data := #[] }) ∧ u.cell? ⟨w1.heap.size, 3, none⟩ = some (.slice none 0 0)) := Lib.hid (fun u hu => by
    have L0 := KX.up hu
    exact ⟨by simpa using L0.cell 0, by simpa using L0.cell 1, by simpa using L0.cell 2, by simpa using L0.cell 3⟩)
  have oth : Hid (∀ (v : World) (i j : Nat) (x : Value), (v.setCell ⟨w.heap.size + 1 + 1, i, none⟩ x).cell? ⟨w1.heap.size, j, none⟩ = v.cell? ⟨w1.heap.size, j, none⟩) := Lib.hid (fun v i j x => World.cell?_setCell_other _ _ _ _ (by intro e; injection e with e; omega))
  have HN := Lib.hid N2
  have CD : Below w2.heap.size w2 w2.drew := (Below.refl _ _).drew
  refine wp_region_held_drew (S := fun u => u.cell? ⟨w1.heap.size, 0, none⟩ = some (.string { data := #[] }) ∧ u.cell? ⟨w1.heap.size, 1, none⟩ = some (.string { data := #[] }) ∧ u.cell? ⟨w1.heap.size, 2, none⟩ = some (.string { data := #[] }) ∧ u.cell? ⟨w1.heap.size, 3, none⟩ = some (.slice none 0 0)) (by kernel_rfl) (carry.out _ (Below.refl _ _).drew) (fun hHeld => ?_)
  refine wpAnyH_take (i := 0) (oi := { dst := some 16, op := _, type := _, pos := _, after := _, guard := _ }) (v := ?_) rfl (by kernel_rfl) (by kernel_rfl) (by kernel_rfl) (fun _ _ _ h => h) (Or.inl ⟨by rfl, ?_⟩) (by assumption) ?_
  rotate_left
  · (intro w hSw; (try dsimp only at hSw); go_simp) <;> with_reducible rfl
  try simp only [Act.put, List.setIfInBounds_toArray, List.set_cons_zero, List.set_cons_succ]
  refine wpAnyH_take (i := 1) (oi := { dst := some 17, op := _, type := _, pos := _, after := _, guard := _ }) (v := ?_) rfl (by kernel_rfl) (by kernel_rfl) (by kernel_rfl) (fun _ _ _ h => h) (Or.inl ⟨by rfl, ?_⟩) (by assumption) ?_
  rotate_left
  · (intro w hSw; (try dsimp only at hSw); go_simp) <;> with_reducible rfl
  try simp only [Act.put, List.setIfInBounds_toArray, List.set_cons_zero, List.set_cons_succ]
  refine wpAnyH_take (i := 2) (oi := { dst := some 18, op := _, type := _, pos := _, after := _, guard := _ }) (v := ?_) rfl (by kernel_rfl) (by kernel_rfl) (by kernel_rfl) (fun _ _ _ h => h) (Or.inl ⟨by rfl, ?_⟩) (by assumption) ?_
  rotate_left
  · (intro w hSw; (try dsimp only at hSw); go_simp) <;> with_reducible rfl
  try simp only [Act.put, List.setIfInBounds_toArray, List.set_cons_zero, List.set_cons_succ]
  generalize w2.drew = wd at CD hHeld ⊢
  refine wpAnyH_take (i := 3) (oi := { dst := some 19, op := _, type := _, pos := _, after := _, guard := _ }) (v := undef) rfl (by kernel_rfl) (by kernel_rfl) (by kernel_rfl) (fun _ _ _ h => h) (Or.inr ⟨by rfl, rfl⟩) (by assumption) ?_
  try simp only [Act.put, List.setIfInBounds_toArray, List.set_cons_zero, List.set_cons_succ]
  refine wpAnyH_take (i := 4) (oi := { dst := some 20, op := _, type := _, pos := _, after := _, guard := _ }) (v := undef) rfl (by kernel_rfl) (by kernel_rfl) (by kernel_rfl) (fun _ _ _ h => h) (Or.inr ⟨by rfl, rfl⟩) (by assumption) ?_
  try simp only [Act.put, List.setIfInBounds_toArray, List.set_cons_zero, List.set_cons_succ]
  refine wpAnyH_ready (rs := [5]) (by kernel_rfl) (by simp) ?_
  refine AllReadyH.cons (o := _) rfl (fun K hK => ?_) AllReadyH.nil
  go_simp
  refine hK.out _ _ (carry.out _ CD) (fun hHeld => ?_)
  clear hK K
  try simp only [Act.put, List.setIfInBounds_toArray, List.set_cons_zero, List.set_cons_succ]
  refine wpAnyH_take (i := 6) (oi := { dst := some 22, op := _, type := _, pos := _, after := _, guard := _ }) (v := ?_) rfl (by kernel_rfl) (by kernel_rfl) (by kernel_rfl) (fun _ _ _ h => h) (Or.inl ⟨by rfl, ?_⟩) (by assumption) ?_
  rotate_left
  · (intro w hSw; (try dsimp only at hSw); go_simp) <;> with_reducible rfl
  try simp only [Act.put, List.setIfInBounds_toArray, List.set_cons_zero, List.set_cons_succ]
  refine wpAnyH_take (i := 7) (oi := { dst := some 23, op := _, type := _, pos := _, after := _, guard := _ }) (v := ?_) rfl (by kernel_rfl) (by kernel_rfl) (by kernel_rfl) (fun _ _ _ h => h) (Or.inl ⟨by rfl, ?_⟩) (by assumption) ?_
  rotate_left
  · (intro w hSw; (try dsimp only at hSw); go_simp) <;> with_reducible rfl
  try simp only [Act.put, List.setIfInBounds_toArray, List.set_cons_zero, List.set_cons_succ]
  refine wpAnyH_take (i := 8) (oi := { dst := some 24, op := _, type := _, pos := _, after := _, guard := _ }) (v := undef) rfl (by kernel_rfl) (by kernel_rfl) (by kernel_rfl) (fun _ _ _ h => h) (Or.inr ⟨by rfl, rfl⟩) (by assumption) ?_
  try simp only [Act.put, List.setIfInBounds_toArray, List.set_cons_zero, List.set_cons_succ]
  refine wpAnyH_take (i := 9) (oi := { dst := some 25, op := _, type := _, pos := _, after := _, guard := _ }) (v := undef) rfl (by kernel_rfl) (by kernel_rfl) (by kernel_rfl) (fun _ _ _ h => h) (Or.inr ⟨by rfl, rfl⟩) (by assumption) ?_
  try simp only [Act.put, List.setIfInBounds_toArray, List.set_cons_zero, List.set_cons_succ]
  refine wpAnyH_ready (rs := [10]) (by kernel_rfl) (by simp) ?_
  refine AllReadyH.cons (o := _) rfl (fun K hK => ?_) AllReadyH.nil
  go_simp
  refine hK.out _ _ (carry.out _ CD) (fun hHeld => ?_)
  clear hK K
  try simp only [Act.put, List.setIfInBounds_toArray, List.set_cons_zero, List.set_cons_succ]
  refine wpAnyH_take (i := 11) (oi := { dst := some 27, op := _, type := _, pos := _, after := _, guard := _ }) (v := ?_) rfl (by kernel_rfl) (by kernel_rfl) (by kernel_rfl) (fun _ _ _ h => h) (Or.inl ⟨by rfl, ?_⟩) (by assumption) ?_
  rotate_left
  · (intro w hSw; (try dsimp only at hSw); go_simp) <;> with_reducible rfl
  try simp only [Act.put, List.setIfInBounds_toArray, List.set_cons_zero, List.set_cons_succ]
  have KZ := HN.out.up CD
  have z0 := KZ.cell 0; have z1 := KZ.cell 1; have z2 := KZ.cell 2; have z3 := KZ.cell 3
  simp only [List.getElem?_cons_zero, List.getElem?_cons_succ] at z0 z1 z2 z3
  have f0 := KZ.frozen 0; have f1 := KZ.frozen 1; have f2 := KZ.frozen 2; have f3 := KZ.frozen 3
  refine wpAnyH_ready (rs := [12]) (by kernel_rfl) (by simp) ?_
  refine AllReadyH.cons (o := _) rfl (fun K hK => ?_) AllReadyH.nil
  go_simp
  refine hK.out _ _ (by simp only [oth.out]; exact carry.out _ CD) (fun hHeld => ?_)
  clear hK K
  try simp only [Act.put, List.setIfInBounds_toArray, List.set_cons_zero, List.set_cons_succ]
  refine wpAnyH_take (i := 13) (oi := { dst := some 7, op := _, type := _, pos := _, after := _, guard := _ }) (v := ?_) rfl (by kernel_rfl) (by kernel_rfl) (by kernel_rfl) (fun _ _ _ h => h) (Or.inl ⟨by rfl, ?_⟩) (by assumption) ?_
  rotate_left
  · (intro w hSw; (try dsimp only at hSw); go_simp) <;> with_reducible rfl
  try simp only [Act.put, List.setIfInBounds_toArray, List.set_cons_zero, List.set_cons_succ]
  refine wpAnyH_done (by kernel_rfl) ?_ _
  try simp only [Act.put, List.setIfInBounds_toArray, List.set_cons_zero, List.set_cons_succ]
  go_wp2
  have Z := (((KZ.set_ 0 (.string { data := #[] })).set_ 1 (.string { data := #[] })).set_ 2 (.string { data := #[] })).set_ 3 (.slice none 0 0)
  have y0 := Z.cell 0; have y1 := Z.cell 1; have y2 := Z.cell 2; have y3 := Z.cell 3
  simp only [List.set_cons_zero, List.set_cons_succ, List.getElem?_cons_zero, List.getElem?_cons_succ] at y0 y1 y2 y3
  refine bodyPost_ret (v := .tuple #[.agg #[.string { data := #[] }, .string { data := #[] }, .string { data := #[] }, .slice none 0 0], .bool (false)]) (by simp [results, Try.results100, go_sem, y0, y1, y2, y3]) rfl ?_
  have hBD := below_go hB2 CD
  exact ⟨rfl, by (repeat' (first | (with_reducible exact Below.refl _ _) | (with_reducible assumption) | (with_reducible refine below_drewN ?_ _) | (with_reducible refine Below.drew ?_) | (with_reducible refine below_alloc ?_ _) | (with_reducible refine Below.alloc ?_ ?_ _) | (with_reducible refine Below.setCell ?_ ?_ _) | (with_reducible refine below_go ?_ (by with_reducible assumption)) | (with_reducible refine below_then (by with_reducible assumption) ?_ ?_) | go_size))⟩
set_option maxHeartbeats 2000000 in
set_option maxRecDepth 100000 in
theorem spec_NextHead_no {A : Option Addr} {n c : Nat} {nm : ByteArray} {st : Int} {l : List ByteArray} {kb ks : ByteArray} {T : List ByteArray} {AT : Option Addr} {NT cT : Nat} {x : ByteArray} {w : World} (hn : l.length = n) (h : Strs w A l) (hz : n ≤ 1048576) (hs : ∀ s ∈ l, s.size ≤ 16777216) (hnm : nm.size ≤ 16777216) (hst : I64 st) (hkb : kb.size ≤ 16777216) (hks : ks.size ≤ 16777216) (hk : goodK nm st l kb ks = false) :
    Calls Try.prog 53 #[.agg #[.string nm, .int .i64 st, .slice A n c], .agg #[.string kb, .string ks], .slice AT NT cT, .string x] w fun e w' => e = .returned (.tuple #[.string (nhR nm st l kb ks T x), .bool (okNH nm st l kb ks T x)]) ∧ Below w.heap.size w w' := by
  have b0 : Below w.heap.size w ((w.alloc (.cells ⟨[.string nm, .int .i64 st, .slice A n c]⟩ 42)).alloc (.cells ⟨[.string kb, .string ks]⟩ 44)) := by (repeat' (first | (with_reducible exact Below.refl _ _) | (with_reducible assumption) | (with_reducible refine below_drewN ?_ _) | (with_reducible refine Below.drew ?_) | (with_reducible refine below_alloc ?_ _) | (with_reducible refine Below.alloc ?_ ?_ _) | (with_reducible refine Below.setCell ?_ ?_ _) | (with_reducible refine below_go ?_ (by with_reducible assumption)) | (with_reducible refine below_then (by with_reducible assumption) ?_ ?_) | go_size))
  have e0 : okNH nm st l kb ks T x = false := by rw [okNH, hk]; rfl
  have E0 := Lib.hid e0
  have E1 := Lib.hid (nhR_f e0)
  clear e0
  go_in
  go_wp2_with fail
  obtain ⟨w0, hw0⟩ : ∃ u, u = ((w.alloc (.cells #[.string nm, .int .i64 st, .slice A n c] 42)).alloc (.cells #[.string kb, .string ks] 44)) := ⟨_, rfl⟩
  rw [← hw0] at b0 ⊢
  clear hw0
  refine (spec_l17Bobs_no (T := T) hn (h.up b0) hz hs hnm hst hkb hks hk).mono ?_; rintro e w1 ⟨rfl, hb1⟩
  have hB1 := below_go b0 hb1
  go_wp2
  go_ret2
  rw [E0.out, E1.out]
  exact ⟨rfl, by (repeat' (first | (with_reducible exact Below.refl _ _) | (with_reducible assumption) | (with_reducible refine below_drewN ?_ _) | (with_reducible refine Below.drew ?_) | (with_reducible refine below_alloc ?_ _) | (with_reducible refine Below.alloc ?_ ?_ _) | (with_reducible refine Below.setCell ?_ ?_ _) | (with_reducible refine below_go ?_ (by with_reducible assumption)) | (with_reducible refine below_then (by with_reducible assumption) ?_ ?_) | go_size))⟩
set_option maxHeartbeats 2000000 in
set_option maxRecDepth 100000 in
theorem spec_NextHead_yes {A : Option Addr} {n c st : Nat} {nm : ByteArray} {l : List ByteArray} {kb ks : ByteArray} {T : List ByteArray} {AT : Option Addr} {NT cT : Nat} {x : ByteArray} {w : World} (hn : l.length = n) (h : Strs w A l) (hk : goodK nm (st : Int) l kb ks = true) (hcap : n ≤ c) (hNT : T.length = NT) (hT : Strs w AT T) (hzT : NT ≤ 16777216) :
    Calls Try.prog 53 #[.agg #[.string nm, .int .i64 st, .slice A n c], .agg #[.string kb, .string ks], .slice AT NT cT, .string x] w fun e w' => e = .returned (.tuple #[.string (nhR nm st l kb ks T x), .bool (okNH nm st l kb ks T x)]) ∧ Below w.heap.size w w' := by
  have HO := Lib.hid (show okNH nm (st : Int) l kb ks T x = (ok17 st l kb ks T && inL (gF st l kb ks) x) by rw [okNH, hk, Bool.true_and]; rfl)
  have HP := Lib.hid (cP_row hk)
  have HB := Lib.hid (cB_row hk)
  have HGR := Lib.hid (gF_row hk)
  have b0 : Below w.heap.size w ((w.alloc (.cells ⟨[.string nm, .int .i64 st, .slice A n c]⟩ 42)).alloc (.cells ⟨[.string kb, .string ks]⟩ 44)) := by (repeat' (first | (with_reducible exact Below.refl _ _) | (with_reducible assumption) | (with_reducible refine below_drewN ?_ _) | (with_reducible refine Below.drew ?_) | (with_reducible refine below_alloc ?_ _) | (with_reducible refine Below.alloc ?_ ?_ _) | (with_reducible refine Below.setCell ?_ ?_ _) | (with_reducible refine below_go ?_ (by with_reducible assumption)) | (with_reducible refine below_then (by with_reducible assumption) ?_ ?_) | go_size))
  go_in
  go_wp2_with fail
  obtain ⟨w0, hw0⟩ : ∃ u, u = ((w.alloc (.cells #[.string nm, .int .i64 st, .slice A n c] 42)).alloc (.cells #[.string kb, .string ks] 44)) := ⟨_, rfl⟩
  rw [← hw0] at b0 ⊢
  clear hw0
  refine (spec_l17Bobs hn (h.up b0) hk hcap hNT (hT.up b0) hzT).mono ?_; rintro e w1 ⟨G, gn, gc, rfl, hyes, hb1⟩
  have HY := Lib.hid hyes
  have hB1 := below_go b0 hb1
  have HT := Lib.hid (hT.up hB1)
  clear hyes hT h
  rcases hok : ok17 st l kb ks T
  · have e0 := Lib.hid (show okNH nm (st : Int) l kb ks T x = false by rw [HO.out, hok, Bool.false_and])
    have E1 := Lib.hid (nhR_f e0.out)
    go_wp2
    go_ret2
    rw [e0.out, E1.out]
    exact ⟨rfl, by (repeat' (first | (with_reducible exact Below.refl _ _) | (with_reducible assumption) | (with_reducible refine below_drewN ?_ _) | (with_reducible refine Below.drew ?_) | (with_reducible refine below_alloc ?_ _) | (with_reducible refine Below.alloc ?_ ?_ _) | (with_reducible refine Below.setCell ?_ ?_ _) | (with_reducible refine below_go ?_ (by with_reducible assumption)) | (with_reducible refine below_then (by with_reducible assumption) ?_ ?_) | go_size))⟩
  · obtain ⟨h1, h2, h3⟩ := ok17_t hok
    obtain ⟨hgn, L, ho, hp, hs⟩ := HY.out h1
    obtain ⟨h4, h5⟩ := rowsIn_t h2
    have hgz : gn ≤ 16777216 := by omega
    have HIN := Lib.hid (inL_perm hp x)
    have HL := Lib.hid ho
    have HS := Lib.hid hs
    have HS5 := Lib.hid h5
    have hb2 : Below w1.heap.size w1 (w1.alloc (.cells ⟨[.string (cP st l kb ks), .string (cB st l kb ks), .string (cQ st l kb ks), .slice G gn gc]⟩ 113)) := by (repeat' (first | (with_reducible exact Below.refl _ _) | (with_reducible assumption) | (with_reducible refine below_drewN ?_ _) | (with_reducible refine Below.drew ?_) | (with_reducible refine below_alloc ?_ _) | (with_reducible refine Below.alloc ?_ ?_ _) | (with_reducible refine Below.setCell ?_ ?_ _) | (with_reducible refine below_go ?_ (by with_reducible assumption)) | (with_reducible refine below_then (by with_reducible assumption) ?_ ?_) | go_size))
    have KX := Blk.at_ w1 113 [.string (cP st l kb ks), .string (cB st l kb ks), .string (cQ st l kb ks), .slice G gn gc] (b := w1.heap.size) rfl
    clear ho hs hp hgn h1 h2 h3 h4 h5
    go_wp2_with fail
    obtain ⟨w2, hw2⟩ : ∃ u, u = (w1.alloc (.cells #[.string (cP st l kb ks), .string (cB st l kb ks), .string (cQ st l kb ks), .slice G gn gc] 113)) := ⟨_, rfl⟩
    rw [← hw2] at hb2 KX ⊢
    clear hw2
    refine (spec_l1HasS (s := x) HL.out.len ((HL.out.up hb2).recs) hgz).mono ?_; rintro e w3 ⟨rfl, hw3⟩
    have hb3 : Below w2.heap.size w2 w3 := by rw [← hw3]; exact Below.refl _ _
    have hB3 := below_go (below_go hB1 hb2) hb3
    have C3 := below_go hb2 hb3
    have L0 := KX.up hb3
    have k0 : w3.cell? ⟨w1.heap.size, 0, none⟩ = some (.string (cP st l kb ks)) := by simpa using L0.cell 0
    have k1 : w3.cell? ⟨w1.heap.size, 1, none⟩ = some (.string (cB st l kb ks)) := by simpa using L0.cell 1
    have k2 : w3.cell? ⟨w1.heap.size, 2, none⟩ = some (.string (cQ st l kb ks)) := by simpa using L0.cell 2
    have k3 : w3.cell? ⟨w1.heap.size, 3, none⟩ = some (.slice G gn gc) := by simpa using L0.cell 3
    clear L0 KX
    rcases hin : inL L x
    · have e0 := Lib.hid (show okNH nm (st : Int) l kb ks T x = false by rw [HO.out, hok, ← HIN.out, hin]; rfl)
      have E1 := Lib.hid (nhR_f e0.out)
      go_wp2
      go_ret2
      rw [e0.out, E1.out]
      exact ⟨rfl, hB3⟩
    · have e0 := Lib.hid (show okNH nm (st : Int) l kb ks T x = true by rw [HO.out, hok, ← HIN.out, hin]; rfl)
      have E1 := Lib.hid (nhR_t e0.out)
      have hx := HGR.out x (inL_iff.1 (by rw [← HIN.out, hin]))
      have HX := Lib.hid hx
      clear hx
      go_wp2_with fail
      refine (spec_next17 HP.out HB.out HX.out hNT (HT.out.up C3) hzT).mono ?_; rintro e w4 ⟨rfl, hb4⟩
      go_wp2
      go_ret2
      rw [e0.out, E1.out]
      exact ⟨rfl, below_go hB3 hb4⟩
end Go.Proofs.Ytmdmnjjlpefigaa
/- The next head of a row, both sides, whatever comes in. -/
namespace Go.Proofs.Ytmdmnjjlpefigaa
set_option linter.unusedVariables false
set_option linter.unusedSimpArgs false
open Go.ChangeShapes Go.WideShapes Go.ChangeAt Go.RowKit Go.Deep
theorem impl_NextHead {A : Option Addr} {n c : Nat} {nm : ByteArray} {st : Int} {l : List ByteArray} {kb ks : ByteArray} {t : ByteArray} {AB : Option Addr} {NB cB : Nat} {lB : List ByteArray} {w : World} (hn : l.length = n) (h : Strs w A l) (hz : n ≤ 1048576) (hs : ∀ s ∈ l, s.size ≤ 16777216) (hnm : nm.size ≤ 16777216) (hst : I64 st) (hkb : kb.size ≤ 16777216) (hks : ks.size ≤ 16777216) (_ht : t.size ≤ 16777216) (hNB : lB.length = NB) (hB : Strs w AB lB) (nB : NB ≤ 1048576) (_hbB : ∀ s ∈ lB, s.size ≤ 16777216) :
    Calls Try.prog 54 #[.agg #[.string nm, .int .i64 st, .slice A n c], .agg #[.string kb, .string ks], .slice AB NB cB, .string t] w fun e w' => e = .returned (.tuple #[.string (nhR nm st l kb ks lB t), .bool (okNH nm st l kb ks lB t)]) ∧ Below w.heap.size w w' := by
  rcases hk : goodK nm st l kb ks
  · exact impl_NextHead_no hn h hz hs hnm hst hkb hks hk
  · obtain ⟨m, rfl⟩ : ∃ m : Nat, st = (m : Int) := ⟨st.toNat, by
      have := (goodM_t (goodK_t hk).1).2.1
      omega⟩
    exact impl_NextHead_yes hn h hk hNB hB (by omega)
theorem spec_NextHead {A : Option Addr} {n c : Nat} {nm : ByteArray} {st : Int} {l : List ByteArray} {kb ks : ByteArray} {t : ByteArray} {AB : Option Addr} {NB cB : Nat} {lB : List ByteArray} {w : World} (hn : l.length = n) (h : Strs w A l) (hz : n ≤ 1048576) (hs : ∀ s ∈ l, s.size ≤ 16777216) (hnm : nm.size ≤ 16777216) (hst : I64 st) (hkb : kb.size ≤ 16777216) (hks : ks.size ≤ 16777216) (hcap : n ≤ c) (_ht : t.size ≤ 16777216) (hNB : lB.length = NB) (hB : Strs w AB lB) (nB : NB ≤ 1048576) (_hbB : ∀ s ∈ lB, s.size ≤ 16777216) :
    Calls Try.prog 53 #[.agg #[.string nm, .int .i64 st, .slice A n c], .agg #[.string kb, .string ks], .slice AB NB cB, .string t] w fun e w' => e = .returned (.tuple #[.string (nhR nm st l kb ks lB t), .bool (okNH nm st l kb ks lB t)]) ∧ Below w.heap.size w w' := by
  rcases hk : goodK nm st l kb ks
  · exact spec_NextHead_no hn h hz hs hnm hst hkb hks hk
  · obtain ⟨m, rfl⟩ : ∃ m : Nat, st = (m : Int) := ⟨st.toNat, by
      have := (goodM_t (goodK_t hk).1).2.1
      omega⟩
    exact spec_NextHead_yes hn h hk hcap hNB hB (by omega)
end Go.Proofs.Ytmdmnjjlpefigaa
/- The walk through FnExactNextHead: both sides give the same, the arguments are left alone. -/
namespace Go.Proofs.Ytmdmnjjlpefigaa
set_option linter.unusedVariables false
set_option linter.unusedSimpArgs false
open Go.ChangeShapes Go.WideShapes Go.ChangeAt Go.RowKit Go.Deep
set_option maxHeartbeats 4000000 in
set_option maxRecDepth 100000 in
theorem law_NextHead (nm : ByteArray) (st : Int) (A : Option Addr) (c : Nat) (l : List ByteArray) (kb ks : ByteArray) (AB : Option Addr) (cB : Nat) (lB : List ByteArray) (t : ByteArray) (w : World) (hnm : nm.size ≤ maxLen) (hst : -9223372036854775808 ≤ st ∧ st ≤ 9223372036854775807) (h : Recs strE 1 w A l) (hm : l.length ≤ 9223372036854775807) (hb : ∀ x ∈ l, x.size ≤ maxLen) (hkb : kb.size ≤ maxLen) (hks : ks.size ≤ maxLen) (hB : Recs strE 1 w AB lB) (hmB : lB.length ≤ 9223372036854775807) (hbB : ∀ x ∈ lB, x.size ≤ maxLen) (ht : t.size ≤ maxLen) :
    Calls Try.prog 13 #[.agg #[.string nm, .int .i64 st, .slice A l.length c], .agg #[.string kb, .string ks], .slice AB lB.length cB, .string t] w fun e w' => e = .returned (.bool true) ∧ Below w.heap.size w w' := by
  obtain ⟨Z0, hZ0⟩ : ∃ z, z = szM nm l := ⟨_, rfl⟩
  obtain ⟨Z1, hZ1⟩ : ∃ z, z = szK kb ks := ⟨_, rfl⟩
  have y0 : (nm.size : Int) + szS l = Z0 := hZ0.symm
  have y1 : (kb.size : Int) + (ks.size : Int) = Z1 := hZ1.symm
  have y2 := szS_len l
  have y4 := szS_len lB
  by_cases zt : (t.size : Int) ≤ 1048576
  · by_cases z0 : Z0 ≤ 1048576
    · by_cases z1 : Z1 ≤ 1048576 - Z0
      · by_cases z2 : szS lB ≤ 1048576 - Z0 - Z1
        · have hs1 : ∀ s ∈ l, s.size ≤ 16777216 := fun s hs => by (have := szS_each l s hs; omega)
          have hnm1 : nm.size ≤ 16777216 := by omega
          have hkb1 : kb.size ≤ 16777216 := by omega
          have hks1 : ks.size ≤ 16777216 := by omega
          have hI : I64 st := by unfold I64; omega
          have hl1 : l.length ≤ 1048576 := by omega
          have ht1 : t.size ≤ 16777216 := by omega
          have nB1 : lB.length ≤ 1048576 := by omega
          have nB : lB.length ≤ 1048576 := nB1
          have hbB1 : ∀ s ∈ lB, s.size ≤ 16777216 := fun s hs => by (have := szS_each lB s hs; omega)
          have HZ0 : Hid (leftV 1048576 (szM nm l) = 1048576 - Z0) := Lib.hid (by rw [← hZ0]; exact leftV_t z0)
          have HZ1 : Hid (leftV (1048576 - Z0) (szK kb ks) = 1048576 - Z0 - Z1) := Lib.hid (by rw [← hZ1]; exact leftV_t z1)
          have m0 : (0 : Int) ≤ 1048576 - Z0 := by omega
          have m1 : (0 : Int) ≤ 1048576 - Z0 - Z1 := by omega
          have m2 : (0 : Int) ≤ 1048576 - Z0 - Z1 - szS lB := by omega
          have p0 : 0 ≤ Z0 := by omega
          have p1 : 0 ≤ Z1 := by omega
          clear hZ0 hZ1 y0 y1
          have b0 : Below w.heap.size w ((w.alloc (.cells ⟨[.string nm, .int .i64 st, .slice A l.length c]⟩ 36)).alloc (.cells ⟨[.string kb, .string ks]⟩ 38)) := by (repeat' (first | (with_reducible exact Below.refl _ _) | (with_reducible assumption) | (with_reducible refine below_drewN ?_ _) | (with_reducible refine Below.drew ?_) | (with_reducible refine below_alloc ?_ _) | (with_reducible refine Below.alloc ?_ ?_ _) | (with_reducible refine Below.setCell ?_ ?_ _) | (with_reducible refine below_go ?_ (by with_reducible assumption)) | (with_reducible refine below_then (by with_reducible assumption) ?_ ?_) | go_size))
          have K0 := ((Blk.at_ w 36 [.string nm, .int .i64 st, .slice A l.length c] (b := w.heap.size) (by simp)).alloc (.cells ⟨[.string kb, .string ks]⟩ 38))
          have K1 := (Blk.at_ (w.alloc (.cells ⟨[.string nm, .int .i64 st, .slice A l.length c]⟩ 36)) 38 [.string kb, .string ks] (b := w.heap.size + 1) (by simp))
          go_in
          go_wp2_with fail
          obtain ⟨w0, hw0⟩ : ∃ u, u = ((w.alloc (.cells #[.string nm, .int .i64 st, .slice A l.length c] 36)).alloc (.cells #[.string kb, .string ks] 38)) := ⟨_, rfl⟩
          rw [← hw0] at b0 K0 K1 ⊢
          have z0 : w.heap.size + 2 ≤ w0.heap.size := by rw [hw0]; simp
          clear hw0
          have carry : Hid (∀ u : World, Below w0.heap.size w0 u → (u.cell? ⟨w.heap.size, 0, none⟩ = some (.string nm) ∧ u.cell? ⟨w.heap.size, 1, none⟩ = some (.int .i64 st) ∧ u.cell? ⟨w.heap.size, 2, none⟩ = some (.slice A l.length c)) ∧ (u.cell? ⟨w.heap.size + 1, 0, none⟩ = some (.string kb) ∧ u.cell? ⟨w.heap.size + 1, 1, none⟩ = some (.string ks))) := Lib.hid (fun u hu => by
            have J0 := K0.up hu; have J1 := K1.up hu
            exact ⟨⟨by simpa using J0.cell 0, by simpa using J0.cell 1, by simpa using J0.cell 2⟩, ⟨by simpa using J1.cell 0, by simpa using J1.cell 1⟩⟩)
          clear K0 K1
          have B0 := Below.refl w0.heap.size w0
          have H0 := b0
          obtain ⟨⟨k1_0_0, k1_0_1, k1_0_2⟩, ⟨k1_1_0, k1_1_1⟩⟩ := carry.out _ B0
          refine (laws_szMethod rfl (h.below H0 (Nat.le_refl _)) (by omega) (by omega) hm hb hnm).mono ?_; rw [HZ0.out]; rintro e w1 ⟨rfl, hb1⟩
          clear k1_0_0 k1_0_1 k1_0_2 k1_1_0 k1_1_1
          have sz1 : w0.heap.size ≤ w1.heap.size := hb1.size
          have B1 := B0.trans (hb1.mono B0.size)
          have H1 := b0.trans (B1.mono b0.size)
          obtain ⟨⟨k2_0_0, k2_0_1, k2_0_2⟩, ⟨k2_1_0, k2_1_1⟩⟩ := carry.out _ B1
          go_wp2_with fail
          refine (laws_szCalls (by omega) (by omega) hkb hks).mono ?_; rw [HZ1.out]; rintro e w2 ⟨rfl, hb2⟩
          clear k2_0_0 k2_0_1 k2_0_2 k2_1_0 k2_1_1
          have sz2 : w1.heap.size ≤ w2.heap.size := hb2.size
          have B2 := B1.trans (hb2.mono B1.size)
          have H2 := b0.trans (B2.mono b0.size)
          obtain ⟨⟨k3_0_0, k3_0_1, k3_0_2⟩, ⟨k3_1_0, k3_1_1⟩⟩ := carry.out _ B2
          go_wp2_with fail
          refine (laws_szStringS_ok _ _ _ _ _ _ rfl (hB.below H2 (Nat.le_refl _)) (by omega) (by omega) hmB hbB (by omega)).mono ?_; rintro e w' ⟨rfl, rfl⟩
          clear k3_0_0 k3_0_1 k3_0_2 k3_1_0 k3_1_1
          have HS := Lib.hid hs1
          go_wp2_with fail
          go_region_held3 (fun u => (u.cell? ⟨w.heap.size, 0, none⟩ = some (.string nm) ∧ u.cell? ⟨w.heap.size, 1, none⟩ = some (.int .i64 st) ∧ u.cell? ⟨w.heap.size, 2, none⟩ = some (.slice A l.length c)) ∧ (u.cell? ⟨w.heap.size + 1, 0, none⟩ = some (.string kb) ∧ u.cell? ⟨w.heap.size + 1, 1, none⟩ = some (.string ks))) (first | exact carry.out _ B6 | exact carry.out _ B5 | exact carry.out _ B4 | exact carry.out _ B3 | exact carry.out _ B2.drew) (first | (go_at_call 53; ((refine (spec_NextHead rfl omW_5.recs (by omega) HS.out hnm1 hI hkb1 hks1 (Nat.le_refl _) ht1 rfl obW.recs nB hbB1).mono ?_); rintro e w6 ⟨rfl, hb6⟩; have sz6 : w5.heap.size ≤ w6.heap.size := hb6.size; have B6 := B5.trans (hb6.mono B5.size); have H6 := b0.trans (B6.mono b0.size); have omW_6 := omW_5.up hb6; have obW_6 := obW.up hb6)) | (go_at_call 16; ((with_reducible refine (laws_toStringS _ _ _ _ _ rfl (hB.below H4 (Nat.le_refl _)) nB1).mono ?_); rintro e w5 ⟨gbW, rfl, obW, hb5⟩; have sz5 : w4.heap.size ≤ w5.heap.size := hb5.size; have B5 := B4.trans (hb5.mono B4.size); have H5 := b0.trans (B5.mono b0.size); have omW_5 := omW_4.up hb5)) | (go_at_call 31; ((refine (laws_toCalls).mono ?_); rintro e w4 ⟨rfl, hb4⟩; have sz4 : w3.heap.size ≤ w4.heap.size := hb4.size; have B4 := B3.trans (hb4.mono B3.size); have H4 := b0.trans (B4.mono b0.size); have omW_4 := omW.up hb4)) | (go_at_call 30; ((with_reducible refine (laws_toMethod (st := st) (nm := nm) rfl (h.below H2 (Nat.le_refl _)).drew (by omega)).mono ?_); rintro e w3 ⟨gomW, rfl, omW, hbd3⟩; have hb3 := below_of_drew hbd3; have sz3 : w2.heap.size ≤ w3.heap.size := hb3.size; have B3 := B2.trans (hb3.mono B2.size); have H3 := b0.trans (B3.mono b0.size))))
          obtain ⟨⟨k4_0_0, k4_0_1, k4_0_2⟩, ⟨k4_1_0, k4_1_1⟩⟩ := carry.out _ B6
          go_wp2_with fail
          refine (laws_toMethod (st := st) (nm := nm) rfl (h.below H6 (Nat.le_refl _)) (by omega)).mono ?_; rintro e w7 ⟨gx, rfl, ox, hb7⟩
          clear k4_0_0 k4_0_1 k4_0_2 k4_1_0 k4_1_1
          have sz7 : w6.heap.size ≤ w7.heap.size := hb7.size
          have B7 := B6.trans (hb7.mono B6.size)
          have H7 := b0.trans (B7.mono b0.size)
          have omW_7 := omW_6.up hb7
          have obW_7 := obW_6.up hb7
          have rox := ox.range
          go_wp2_with fail
          have hb8 : Below w7.heap.size w7 (w7.alloc (.cells ⟨[.string nm, .int .i64 st, .slice (some ⟨gx, 0, none⟩) l.length l.length]⟩ 42)) := by (repeat' (first | (with_reducible exact Below.refl _ _) | (with_reducible assumption) | (with_reducible refine below_drewN ?_ _) | (with_reducible refine Below.drew ?_) | (with_reducible refine below_alloc ?_ _) | (with_reducible refine Below.alloc ?_ ?_ _) | (with_reducible refine Below.setCell ?_ ?_ _) | (with_reducible refine below_go ?_ (by with_reducible assumption)) | (with_reducible refine below_then (by with_reducible assumption) ?_ ?_) | go_size))
          have XD := Blk.at_ w7 42 [.string nm, .int .i64 st, .slice (some ⟨gx, 0, none⟩) l.length l.length] (b := w7.heap.size) rfl
          obtain ⟨w8, hw8⟩ : ∃ u, u = (w7.alloc (.cells #[.string nm, .int .i64 st, .slice (some ⟨gx, 0, none⟩) l.length l.length] 42)) := ⟨_, rfl⟩
          rw [← hw8] at hb8 XD ⊢
          clear hw8
          have sz8 : w7.heap.size ≤ w8.heap.size := hb8.size
          have B8 := B7.trans (hb8.mono B7.size)
          have H8 := b0.trans (B8.mono b0.size)
          have omW_8 := omW_7.up hb8
          have obW_8 := obW_7.up hb8
          have ox_8 := ox.up hb8
          have carryX : Hid (∀ u : World, Below w8.heap.size w8 u → u.cell? ⟨w7.heap.size, 0, none⟩ = some (.string nm) ∧ u.cell? ⟨w7.heap.size, 1, none⟩ = some (.int .i64 st) ∧ u.cell? ⟨w7.heap.size, 2, none⟩ = some (.slice (some ⟨gx, 0, none⟩) l.length l.length)) := Lib.hid (fun u hu => by
            have J := XD.up hu
            exact ⟨by simpa using J.cell 0, by simpa using J.cell 1, by simpa using J.cell 2⟩)
          clear XD
          have D8 := Below.refl w8.heap.size w8
          refine (laws_toStringS _ _ _ _ _ rfl (hB.below H8 (Nat.le_refl _)) nB1).mono ?_; rintro e w9 ⟨gys, rfl, oys, hb9⟩
          have sz9 : w8.heap.size ≤ w9.heap.size := hb9.size
          have B9 := B8.trans (hb9.mono B8.size)
          have H9 := b0.trans (B9.mono b0.size)
          have omW_9 := omW_8.up hb9
          have obW_9 := obW_8.up hb9
          have ox_9 := ox_8.up hb9
          have D9 := D8.trans (hb9.mono D8.size)
          go_wp2_with fail
          go_region_held3 (fun u => (u.cell? ⟨w.heap.size, 0, none⟩ = some (.string nm) ∧ u.cell? ⟨w.heap.size, 1, none⟩ = some (.int .i64 st) ∧ u.cell? ⟨w.heap.size, 2, none⟩ = some (.slice A l.length c)) ∧ (u.cell? ⟨w.heap.size + 1, 0, none⟩ = some (.string kb) ∧ u.cell? ⟨w.heap.size + 1, 1, none⟩ = some (.string ks)) ∧ (u.cell? ⟨w7.heap.size, 0, none⟩ = some (.string nm) ∧ u.cell? ⟨w7.heap.size, 1, none⟩ = some (.int .i64 st) ∧ u.cell? ⟨w7.heap.size, 2, none⟩ = some (.slice (some ⟨gx, 0, none⟩) l.length l.length))) (first | exact ⟨(carry.out _ B11).1, (carry.out _ B11).2, (carryX.out _ D11)⟩ | exact ⟨(carry.out _ B10).1, (carry.out _ B10).2, (carryX.out _ D10)⟩ | exact ⟨(carry.out _ B9.drew).1, (carry.out _ B9.drew).2, (carryX.out _ D9.drew)⟩) (first | (go_at_call 54; ((refine (impl_NextHead rfl ox_10.recs (by omega) HS.out hnm1 hI hkb1 hks1  ht1 rfl oys_10.recs nB hbB1).mono ?_); rintro e w11 ⟨rfl, hb11⟩; have sz11 : w10.heap.size ≤ w11.heap.size := hb11.size; have B11 := B10.trans (hb11.mono B10.size); have H11 := b0.trans (B11.mono b0.size); have omW_11 := omW_10.up hb11; have obW_11 := obW_10.up hb11; have ox_11 := ox_10.up hb11; have oys_11 := oys_10.up hb11; have D11 := D10.trans (hb11.mono D10.size))) | (go_at_call 31; ((refine (laws_toCalls).mono ?_); rintro e w10 ⟨rfl, hbd10⟩; have hb10 := below_of_drew hbd10; have sz10 : w9.heap.size ≤ w10.heap.size := hb10.size; have B10 := B9.trans (hb10.mono B9.size); have H10 := b0.trans (B10.mono b0.size); have omW_10 := omW_9.up hb10; have obW_10 := obW_9.up hb10; have ox_10 := ox_9.up hb10; have oys_10 := oys.up hb10; have D10 := D9.trans (hb10.mono D9.size))))
          go_wp2_with fail
          go_region_held3 (fun u => (u.cell? ⟨w.heap.size, 0, none⟩ = some (.string nm) ∧ u.cell? ⟨w.heap.size, 1, none⟩ = some (.int .i64 st) ∧ u.cell? ⟨w.heap.size, 2, none⟩ = some (.slice A l.length c)) ∧ (u.cell? ⟨w.heap.size + 1, 0, none⟩ = some (.string kb) ∧ u.cell? ⟨w.heap.size + 1, 1, none⟩ = some (.string ks)) ∧ (u.cell? ⟨w7.heap.size, 0, none⟩ = some (.string nm) ∧ u.cell? ⟨w7.heap.size, 1, none⟩ = some (.int .i64 st) ∧ u.cell? ⟨w7.heap.size, 2, none⟩ = some (.slice (some ⟨gx, 0, none⟩) l.length l.length))) (first | exact ⟨(carry.out _ B13).1, (carry.out _ B13).2, (carryX.out _ D13)⟩ | exact ⟨(carry.out _ B12).1, (carry.out _ B12).2, (carryX.out _ D12)⟩ | exact ⟨(carry.out _ B11.drew).1, (carry.out _ B11.drew).2, (carryX.out _ D11.drew)⟩) (first | (go_at_call 33; ((refine (laws_eqMethod rfl ox_12.recs ot.recs (by omega)).mono ?_); rintro e w13 ⟨rfl, hb13⟩; have sz13 : w12.heap.size ≤ w13.heap.size := hb13.size; have B13 := B12.trans (hb13.mono B12.size); have H13 := b0.trans (B13.mono b0.size); have omW_13 := omW_12.up hb13; have obW_13 := obW_12.up hb13; have ox_13 := ox_12.up hb13; have oys_13 := oys_12.up hb13; have ot_13 := ot.up hb13; have D13 := D12.trans (hb13.mono D12.size))) | (go_at_call 30; ((with_reducible refine (laws_toMethod (st := st) (nm := nm) rfl (h.below H11 (Nat.le_refl _)).drew (by omega)).mono ?_); rintro e w12 ⟨gt, rfl, ot, hbd12⟩; have hb12 := below_of_drew hbd12; have sz12 : w11.heap.size ≤ w12.heap.size := hb12.size; have B12 := B11.trans (hb12.mono B11.size); have H12 := b0.trans (B12.mono b0.size); have omW_12 := omW_11.up hb12; have obW_12 := obW_11.up hb12; have ox_12 := ox_11.up hb12; have oys_12 := oys_11.up hb12; have D12 := D11.trans (hb12.mono D11.size))))
          go_wp2_with fail
          refine (laws_toStringS _ _ _ _ _ rfl (hB.below H13 (Nat.le_refl _)) nB1).mono ?_; rintro e w14 ⟨gts, rfl, ots, hb14⟩
          have sz14 : w13.heap.size ≤ w14.heap.size := hb14.size
          have B14 := B13.trans (hb14.mono B13.size)
          have H14 := b0.trans (B14.mono b0.size)
          have omW_14 := omW_13.up hb14
          have obW_14 := obW_13.up hb14
          have ox_14 := ox_13.up hb14
          have oys_14 := oys_13.up hb14
          have D14 := D13.trans (hb14.mono D13.size)
          go_wp2_with fail
          refine (laws_eqStringS _ _ _ _ _ _ _ _ _ rfl rfl oys_14.recs ots.recs (by omega) (by omega)).mono ?_; rintro e w15 ⟨rfl, hb15⟩
          have sz15 : w14.heap.size ≤ w15.heap.size := hb15.size
          have B15 := B14.trans (hb15.mono B14.size)
          have H15 := b0.trans (B15.mono b0.size)
          have omW_15 := omW_14.up hb15
          have obW_15 := obW_14.up hb15
          have ox_15 := ox_14.up hb15
          have oys_15 := oys_14.up hb15
          have ots_15 := ots.up hb15
          have D15 := D14.trans (hb15.mono D14.size)
          go_wp2
          go_ret
          exact ⟨rfl, H15⟩
        · unfold maxLen at ht
          have HZ0 : Hid (leftV 1048576 (szM nm l) = 1048576 - Z0) := Lib.hid (by rw [← hZ0]; exact leftV_t z0)
          have m0 : (0 : Int) ≤ 1048576 - Z0 := by omega
          have p0 : 0 ≤ Z0 := by omega
          have HZ1 : Hid (leftV (1048576 - Z0) (szK kb ks) = 1048576 - Z0 - Z1) := Lib.hid (by rw [← hZ1]; exact leftV_t z1)
          have m1 : (0 : Int) ≤ 1048576 - Z0 - Z1 := by omega
          have p1 : 0 ≤ Z1 := by omega
          clear hZ0 hZ1 y0 y1
          have b0 : Below w.heap.size w ((w.alloc (.cells ⟨[.string nm, .int .i64 st, .slice A l.length c]⟩ 36)).alloc (.cells ⟨[.string kb, .string ks]⟩ 38)) := by (repeat' (first | (with_reducible exact Below.refl _ _) | (with_reducible assumption) | (with_reducible refine below_drewN ?_ _) | (with_reducible refine Below.drew ?_) | (with_reducible refine below_alloc ?_ _) | (with_reducible refine Below.alloc ?_ ?_ _) | (with_reducible refine Below.setCell ?_ ?_ _) | (with_reducible refine below_go ?_ (by with_reducible assumption)) | (with_reducible refine below_then (by with_reducible assumption) ?_ ?_) | go_size))
          have K0 := ((Blk.at_ w 36 [.string nm, .int .i64 st, .slice A l.length c] (b := w.heap.size) (by simp)).alloc (.cells ⟨[.string kb, .string ks]⟩ 38))
          have K1 := (Blk.at_ (w.alloc (.cells ⟨[.string nm, .int .i64 st, .slice A l.length c]⟩ 36)) 38 [.string kb, .string ks] (b := w.heap.size + 1) (by simp))
          go_in
          go_wp2_with fail
          obtain ⟨w0, hw0⟩ : ∃ u, u = ((w.alloc (.cells #[.string nm, .int .i64 st, .slice A l.length c] 36)).alloc (.cells #[.string kb, .string ks] 38)) := ⟨_, rfl⟩
          rw [← hw0] at b0 K0 K1 ⊢
          have z0 : w.heap.size + 2 ≤ w0.heap.size := by rw [hw0]; simp
          clear hw0
          have carry : Hid (∀ u : World, Below w0.heap.size w0 u → (u.cell? ⟨w.heap.size, 0, none⟩ = some (.string nm) ∧ u.cell? ⟨w.heap.size, 1, none⟩ = some (.int .i64 st) ∧ u.cell? ⟨w.heap.size, 2, none⟩ = some (.slice A l.length c)) ∧ (u.cell? ⟨w.heap.size + 1, 0, none⟩ = some (.string kb) ∧ u.cell? ⟨w.heap.size + 1, 1, none⟩ = some (.string ks))) := Lib.hid (fun u hu => by
            have J0 := K0.up hu; have J1 := K1.up hu
            exact ⟨⟨by simpa using J0.cell 0, by simpa using J0.cell 1, by simpa using J0.cell 2⟩, ⟨by simpa using J1.cell 0, by simpa using J1.cell 1⟩⟩)
          clear K0 K1
          have B0 := Below.refl w0.heap.size w0
          have H0 := b0
          obtain ⟨⟨k1_0_0, k1_0_1, k1_0_2⟩, ⟨k1_1_0, k1_1_1⟩⟩ := carry.out _ B0
          refine (laws_szMethod rfl (h.below H0 (Nat.le_refl _)) (by omega) (by omega) hm hb hnm).mono ?_; rw [HZ0.out]; rintro e w1 ⟨rfl, hb1⟩
          clear k1_0_0 k1_0_1 k1_0_2 k1_1_0 k1_1_1
          have sz1 : w0.heap.size ≤ w1.heap.size := hb1.size
          have B1 := B0.trans (hb1.mono B0.size)
          have H1 := b0.trans (B1.mono b0.size)
          obtain ⟨⟨k2_0_0, k2_0_1, k2_0_2⟩, ⟨k2_1_0, k2_1_1⟩⟩ := carry.out _ B1
          go_wp2_with fail
          refine (laws_szCalls (by omega) (by omega) hkb hks).mono ?_; rw [HZ1.out]; rintro e w2 ⟨rfl, hb2⟩
          clear k2_0_0 k2_0_1 k2_0_2 k2_1_0 k2_1_1
          have sz2 : w1.heap.size ≤ w2.heap.size := hb2.size
          have B2 := B1.trans (hb2.mono B1.size)
          have H2 := b0.trans (B2.mono b0.size)
          obtain ⟨⟨k3_0_0, k3_0_1, k3_0_2⟩, ⟨k3_1_0, k3_1_1⟩⟩ := carry.out _ B2
          go_wp2_with fail
          refine (laws_szStringS_no _ _ _ _ _ _ rfl (hB.below H2 (Nat.le_refl _)) (by omega) (by omega) hmB hbB (by omega)).mono ?_; rintro e w' ⟨rfl, rfl⟩
          go_wp2
          go_ret
          exact ⟨rfl, H2⟩
      · unfold maxLen at ht
        have HZ0 : Hid (leftV 1048576 (szM nm l) = 1048576 - Z0) := Lib.hid (by rw [← hZ0]; exact leftV_t z0)
        have m0 : (0 : Int) ≤ 1048576 - Z0 := by omega
        have p0 : 0 ≤ Z0 := by omega
        have HZ1 : Hid (leftV (1048576 - Z0) (szK kb ks) = -1) := Lib.hid (by rw [← hZ1]; exact leftV_f (by omega))
        clear hZ0 hZ1 y0 y1
        have b0 : Below w.heap.size w ((w.alloc (.cells ⟨[.string nm, .int .i64 st, .slice A l.length c]⟩ 36)).alloc (.cells ⟨[.string kb, .string ks]⟩ 38)) := by (repeat' (first | (with_reducible exact Below.refl _ _) | (with_reducible assumption) | (with_reducible refine below_drewN ?_ _) | (with_reducible refine Below.drew ?_) | (with_reducible refine below_alloc ?_ _) | (with_reducible refine Below.alloc ?_ ?_ _) | (with_reducible refine Below.setCell ?_ ?_ _) | (with_reducible refine below_go ?_ (by with_reducible assumption)) | (with_reducible refine below_then (by with_reducible assumption) ?_ ?_) | go_size))
        have K0 := ((Blk.at_ w 36 [.string nm, .int .i64 st, .slice A l.length c] (b := w.heap.size) (by simp)).alloc (.cells ⟨[.string kb, .string ks]⟩ 38))
        have K1 := (Blk.at_ (w.alloc (.cells ⟨[.string nm, .int .i64 st, .slice A l.length c]⟩ 36)) 38 [.string kb, .string ks] (b := w.heap.size + 1) (by simp))
        go_in
        go_wp2_with fail
        obtain ⟨w0, hw0⟩ : ∃ u, u = ((w.alloc (.cells #[.string nm, .int .i64 st, .slice A l.length c] 36)).alloc (.cells #[.string kb, .string ks] 38)) := ⟨_, rfl⟩
        rw [← hw0] at b0 K0 K1 ⊢
        have z0 : w.heap.size + 2 ≤ w0.heap.size := by rw [hw0]; simp
        clear hw0
        have carry : Hid (∀ u : World, Below w0.heap.size w0 u → (u.cell? ⟨w.heap.size, 0, none⟩ = some (.string nm) ∧ u.cell? ⟨w.heap.size, 1, none⟩ = some (.int .i64 st) ∧ u.cell? ⟨w.heap.size, 2, none⟩ = some (.slice A l.length c)) ∧ (u.cell? ⟨w.heap.size + 1, 0, none⟩ = some (.string kb) ∧ u.cell? ⟨w.heap.size + 1, 1, none⟩ = some (.string ks))) := Lib.hid (fun u hu => by
          have J0 := K0.up hu; have J1 := K1.up hu
          exact ⟨⟨by simpa using J0.cell 0, by simpa using J0.cell 1, by simpa using J0.cell 2⟩, ⟨by simpa using J1.cell 0, by simpa using J1.cell 1⟩⟩)
        clear K0 K1
        have B0 := Below.refl w0.heap.size w0
        have H0 := b0
        obtain ⟨⟨k1_0_0, k1_0_1, k1_0_2⟩, ⟨k1_1_0, k1_1_1⟩⟩ := carry.out _ B0
        refine (laws_szMethod rfl (h.below H0 (Nat.le_refl _)) (by omega) (by omega) hm hb hnm).mono ?_; rw [HZ0.out]; rintro e w1 ⟨rfl, hb1⟩
        clear k1_0_0 k1_0_1 k1_0_2 k1_1_0 k1_1_1
        have sz1 : w0.heap.size ≤ w1.heap.size := hb1.size
        have B1 := B0.trans (hb1.mono B0.size)
        have H1 := b0.trans (B1.mono b0.size)
        obtain ⟨⟨k2_0_0, k2_0_1, k2_0_2⟩, ⟨k2_1_0, k2_1_1⟩⟩ := carry.out _ B1
        go_wp2_with fail
        refine (laws_szCalls (by omega) (by omega) hkb hks).mono ?_; rw [HZ1.out]; rintro e w2 ⟨rfl, hb2⟩
        go_wp2
        go_ret
        exact ⟨rfl, below_go H1 hb2⟩
    · unfold maxLen at ht
      have HZ0 : Hid (leftV 1048576 (szM nm l) = -1) := Lib.hid (by rw [← hZ0]; exact leftV_f (by omega))
      clear hZ0 hZ1 y0 y1
      have b0 : Below w.heap.size w ((w.alloc (.cells ⟨[.string nm, .int .i64 st, .slice A l.length c]⟩ 36)).alloc (.cells ⟨[.string kb, .string ks]⟩ 38)) := by (repeat' (first | (with_reducible exact Below.refl _ _) | (with_reducible assumption) | (with_reducible refine below_drewN ?_ _) | (with_reducible refine Below.drew ?_) | (with_reducible refine below_alloc ?_ _) | (with_reducible refine Below.alloc ?_ ?_ _) | (with_reducible refine Below.setCell ?_ ?_ _) | (with_reducible refine below_go ?_ (by with_reducible assumption)) | (with_reducible refine below_then (by with_reducible assumption) ?_ ?_) | go_size))
      have K0 := ((Blk.at_ w 36 [.string nm, .int .i64 st, .slice A l.length c] (b := w.heap.size) (by simp)).alloc (.cells ⟨[.string kb, .string ks]⟩ 38))
      have K1 := (Blk.at_ (w.alloc (.cells ⟨[.string nm, .int .i64 st, .slice A l.length c]⟩ 36)) 38 [.string kb, .string ks] (b := w.heap.size + 1) (by simp))
      go_in
      go_wp2_with fail
      obtain ⟨w0, hw0⟩ : ∃ u, u = ((w.alloc (.cells #[.string nm, .int .i64 st, .slice A l.length c] 36)).alloc (.cells #[.string kb, .string ks] 38)) := ⟨_, rfl⟩
      rw [← hw0] at b0 K0 K1 ⊢
      have z0 : w.heap.size + 2 ≤ w0.heap.size := by rw [hw0]; simp
      clear hw0
      have carry : Hid (∀ u : World, Below w0.heap.size w0 u → (u.cell? ⟨w.heap.size, 0, none⟩ = some (.string nm) ∧ u.cell? ⟨w.heap.size, 1, none⟩ = some (.int .i64 st) ∧ u.cell? ⟨w.heap.size, 2, none⟩ = some (.slice A l.length c)) ∧ (u.cell? ⟨w.heap.size + 1, 0, none⟩ = some (.string kb) ∧ u.cell? ⟨w.heap.size + 1, 1, none⟩ = some (.string ks))) := Lib.hid (fun u hu => by
        have J0 := K0.up hu; have J1 := K1.up hu
        exact ⟨⟨by simpa using J0.cell 0, by simpa using J0.cell 1, by simpa using J0.cell 2⟩, ⟨by simpa using J1.cell 0, by simpa using J1.cell 1⟩⟩)
      clear K0 K1
      have B0 := Below.refl w0.heap.size w0
      have H0 := b0
      obtain ⟨⟨k1_0_0, k1_0_1, k1_0_2⟩, ⟨k1_1_0, k1_1_1⟩⟩ := carry.out _ B0
      refine (laws_szMethod rfl (h.below H0 (Nat.le_refl _)) (by omega) (by omega) hm hb hnm).mono ?_; rw [HZ0.out]; rintro e w1 ⟨rfl, hb1⟩
      go_wp2
      go_ret
      exact ⟨rfl, below_go H0 hb1⟩
  · clear hZ0 hZ1 y0 y1
    unfold maxLen at ht
    have hT : (1048576 : Int) < (t.size : Int) := by omega
    go_in
    go_wp2
    go_ret
    exact ⟨rfl, by (repeat' (first | (with_reducible exact Below.refl _ _) | (with_reducible assumption) | (with_reducible refine below_drewN ?_ _) | (with_reducible refine Below.drew ?_) | (with_reducible refine below_alloc ?_ _) | (with_reducible refine Below.alloc ?_ ?_ _) | (with_reducible refine Below.setCell ?_ ?_ _) | (with_reducible refine below_go ?_ (by with_reducible assumption)) | (with_reducible refine below_then (by with_reducible assumption) ?_ ?_) | go_size))⟩
end Go.Proofs.Ytmdmnjjlpefigaa
