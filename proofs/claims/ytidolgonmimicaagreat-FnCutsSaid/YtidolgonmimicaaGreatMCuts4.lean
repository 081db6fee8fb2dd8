/- Texts 4 of 8 that the claim leans on: plain laws and the walks' contracts, in order. -/
import Derived.Test.YtidolgonmimicaaGreatMCuts3
import Derived.Maps.RangeWalk
import Derived.Sort.KeysCollected
import Derived.Shelf.Strings.Builder1
import Derived.Shelf.Strings.Builder2
import Derived.Shelf.Small.Strs
import Derived.Shelf.Strings.BuilderF
import Derived.Shelf.Strings.BuilderK
import Derived.Shelf.Strconv.Itoa0
import Derived.Shelf.Strings.Search1
import Derived.Shelf.Sort.Plain
import Derived.Shelf.Strings.Prefix
import Derived.Shelf.Bits.Mul64
import Derived.Shelf.Strings.Repeat
import Derived.Test.YtidolgonmimicaaGreatProg
import Derived.Sort.OwnSorted
import Derived.Deep.Cut
import Derived.Deep.DeepCutAuto
import Derived.Deep.RegionHeld3
set_option linter.unusedVariables false
set_option linter.unusedSimpArgs false
namespace Go.Proofs.YtidolgonmimicaaGreat
open Go.ChangeShapes Go.WideShapes Go.ChangeAt Go.RowKit Go.Deep
theorem rowsL_cut (a : ByteArray) (l : List ByteArray) (n : Nat) : (rowsL a l (n + 1)).take n = rowsL a l n := by
  rw [rowsL_succ, List.take_append_of_le_length (by rw [rowsL_len]; exact Nat.le_refl _), List.take_of_length_le (by rw [rowsL_len]; exact Nat.le_refl _)]
theorem hdsL_cut (st : Nat) (l : List ByteArray) (b s t : ByteArray) (n : Nat) : (hdsL st l b s t (n + 1)).take n = hdsL st l b s t n := by
  rw [hdsL_succ, List.take_append_of_le_length (by rw [hdsL_len]; exact Nat.le_refl _), List.take_of_length_le (by rw [hdsL_len]; exact Nat.le_refl _)]
theorem Recs.front {α : Type} {e : α → List Value} {s : Nat} {w : World} {g : Nat} {l : List α} (h : Recs e s w (some ⟨g, 0, none⟩) l) (n : Nat) (hn : n ≤ l.length) : Recs e s w (some ⟨g, 0, none⟩) (l.take n) := by
  have := h.part 0 n (Nat.zero_le _) hn
  simpa using this
set_option maxHeartbeats 1000000 in
set_option maxRecDepth 100000 in
theorem impl_leadRows {A : Option Addr} {n c : Nat} {nm a : ByteArray} {st : Int} {l : List ByteArray} {w : World} (ha : a.size ≤ 8) (hn : l.length = n) (h : Strs w A l) (hz : n ≤ 1048576) (hs : ∀ s ∈ l, s.size ≤ 16777216) (hg : ∀ s ∈ l, isDash s = true ∨ validD s = true) :
    Calls Tryz.prog 104 #[.agg #[.string nm, .int .i64 st, .slice A n c], .string a] w fun e w' => ∃ A' c', e = .returned (.slice A' n c') ∧ Strs w' A' (rowsL a l n) ∧ Below w.heap.size w w' := by
  have b0 : Below w.heap.size w (w.alloc (.cells ⟨[.string nm, .int .i64 st, .slice A n c]⟩ 25)) := by (repeat' (first | (with_reducible exact Below.refl _ _) | (with_reducible assumption) | (with_reducible refine below_drewN ?_ _) | (with_reducible refine Below.drew ?_) | (with_reducible refine below_alloc ?_ _) | (with_reducible refine Below.alloc ?_ ?_ _) | (with_reducible refine Below.setCell ?_ ?_ _) | (with_reducible refine below_go ?_ (by with_reducible assumption)) | (with_reducible refine below_then (by with_reducible assumption) ?_ ?_) | go_size))
  have K0 := Blk.at_ w 25 [.string nm, .int .i64 st, .slice A n c] (b := w.heap.size) rfl
  have HG := Lib.hid hg
  have HS := Lib.hid hs
  clear hg hs
  go_in
  go_wp2_with fail
  obtain ⟨w0, hw0⟩ : ∃ u, u = (w.alloc (.cells #[.string nm, .int .i64 st, .slice A n c] 25)) := ⟨_, rfl⟩
  rw [← hw0] at b0 K0 ⊢
  clear hw0
  have H0 := Lib.hid (h.up b0)
  have carry : Hid (∀ u : World, Below w0.heap.size w0 u → u.cell? ⟨w.heap.size, 2, none⟩ = some (.slice A n c)) := Lib.hid (fun u hu => by
    have L0 := K0.up hu
    simpa using L0.cell 2)
  clear h K0
  have hwk : IntKind.i64.wrap (n : Int) = (n : Int) := wrap_id (by omega)
  have hle3 : (0 : Int) ≤ (n : Int) := by omega
  go_region_held3 (fun u => u.cell? ⟨w.heap.size, 2, none⟩ = some (.slice A n c)) (first | exact carry.out _ hb1 | exact carry.out _ (Below.refl _ _) | exact carry.out _ (Below.refl _ _).drew) (first | (go_at_call 191; ((refine (impl_rowsUnder ha hn H0.out.drew (by omega) HS.out HG.out).mono ?_); rintro e w1 ⟨A1, c1, rfl, ho, hbd⟩; have hb1 := below_of_drew hbd; have hcp := ho.cap; have hcI : (n : Int) ≤ (c1 : Int) := (by omega); obtain ⟨g, rfl, _⟩ := ho.at_ (by omega))))
  go_wp2
  go_ret
  exact ⟨_, _, rfl, by have q := ho.recs.front n (by rw [rowsL_len]; omega); rw [rowsL_cut] at q; exact q, below_go b0 hb1⟩
set_option maxHeartbeats 1000000 in
set_option maxRecDepth 100000 in
theorem impl_leadsFrom {A : Option Addr} {n c st : Nat} {nm : ByteArray} {l : List ByteArray} {kb ks : ByteArray} {t : ByteArray} {B : Option Addr} {m d : Nat} {w : World} (hn : l.length = n) (h : Strs w A l) (hk : goodK nm (st : Int) l kb ks = true) (hB : Strs w B (hdsL st l kb ks t m)) (hm : m ≤ 60) :
    Calls Tryz.prog 134 #[.agg #[.string nm, .int .i64 st, .slice A n c], .slice B m d] w fun e w' => ∃ A' m' c', e = .returned (.slice A' m' c') ∧ m' = m * n ∧ Owned strE 1 9 w' w.heap.size A' m' c' (tRows st l kb ks t m) ∧ Below w.heap.size w w' := by
  have b0 : Below w.heap.size w (w.alloc (.cells ⟨[.string nm, .int .i64 st, .slice A n c]⟩ 25)) := by (repeat' (first | (with_reducible exact Below.refl _ _) | (with_reducible assumption) | (with_reducible refine below_drewN ?_ _) | (with_reducible refine Below.drew ?_) | (with_reducible refine below_alloc ?_ _) | (with_reducible refine Below.alloc ?_ ?_ _) | (with_reducible refine Below.setCell ?_ ?_ _) | (with_reducible refine below_go ?_ (by with_reducible assumption)) | (with_reducible refine below_then (by with_reducible assumption) ?_ ?_) | go_size))
  have K0 := Blk.at_ w 25 [.string nm, .int .i64 st, .slice A n c] (b := w.heap.size) rfl
  obtain ⟨h8, h40, hgl, _⟩ := goodK_all hk
  have hn40 : n ≤ 40 := by omega
  have HS := Lib.hid (fun (s' : ByteArray) (hs' : s' ∈ l) => show s'.size ≤ 16777216 from by have := goodChange_small (hgl s' hs'); omega)
  have HG := Lib.hid (fun (x : ByteArray) (hx : x ∈ l) => good_valid (hgl x hx))
  clear hgl
  have HD := Lib.hid (fun k => hdAt_good h8.1 h8.2 l kb ks t k)
  go_in
  go_wp2_with fail
  obtain ⟨w1, hw1⟩ : ∃ u, u = (w.alloc (.cells #[.string nm, .int .i64 st, .slice A n c] 25)) := ⟨_, rfl⟩
  have sz1 : w1.heap.size = w.heap.size + 1 := by rw [hw1]; simp
  rw [← hw1] at b0 K0 ⊢
  clear hw1
  have H0 := Lib.hid (h.up b0)
  have HB := Lib.hid (hB.up b0)
  have carry : Hid (∀ u : World, Below w1.heap.size w1 u → u.cell? ⟨w.heap.size, 0, none⟩ = some (.string nm) ∧ u.cell? ⟨w.heap.size, 1, none⟩ = some (.int .i64 st) ∧ u.cell? ⟨w.heap.size, 2, none⟩ = some (.slice A n c)) := Lib.hid (fun u hu => by
    have L0 := K0.up hu
    exact ⟨by simpa using L0.cell 0, by simpa using L0.cell 1, by simpa using L0.cell 2⟩)
  clear h hB K0
  have HE : Hid (Owned strE 1 9 (w1.alloc (.cells #[] 9)) w1.heap.size (some ⟨w.heap.size + 1, 0, none⟩) 0 0 (tRows st l kb ks t 0)) := Lib.hid (by rw [← sz1]; exact Owned.empty (E := 9) strE_len w1 (Nat.le_refl _))
  clear sz1
  go_wp2
  go_loopw [5, 11] (fun v i wr => ∃ (k : Nat) (A' : Option Addr) (q c' : Nat), k ≤ m ∧ i = .int .i64 k ∧ v = .slice A' q c' ∧ q = k * n ∧ Owned strE 1 9 wr w1.heap.size A' q c' (tRows st l kb ks t k) ∧ Below w1.heap.size w1 wr) (fun _ i _ => m - (intOf i).toNat)
  case atStart => exact ⟨0, _, 0, _, Nat.zero_le _, rfl, rfl, by omega, HE.out, by (repeat' (first | (with_reducible exact Below.refl _ _) | (with_reducible assumption) | (with_reducible refine below_drewN ?_ _) | (with_reducible refine Below.drew ?_) | (with_reducible refine below_alloc ?_ _) | (with_reducible refine Below.alloc ?_ ?_ _) | (with_reducible refine Below.setCell ?_ ?_ _) | (with_reducible refine below_go ?_ (by with_reducible assumption)) | (with_reducible refine below_then (by with_reducible assumption) ?_ ?_) | go_size))⟩
  case round =>
    obtain ⟨k, A', q, c', hk1, rfl, rfl, hq, ho, hb⟩ := hrel
    have HO := Lib.hid ho
    have HM := Lib.hid hq
    have hmb : q ≤ 2400 := by rw [hq]; exact Nat.le_trans (Nat.mul_le_mul (show k ≤ 60 by omega) hn40) (by decide)
    have hsz := hb.size
    clear ho hq
    by_cases hlt : k < m
    · obtain ⟨b3, o3, y, rfl, hbb, hy, hcy⟩ := (HB.out.below hb (Nat.le_refl _)).at_str (k := k) (by rw [hdsL_len]; exact hlt)
      rw [hdsL_at hlt] at hy
      injection hy with hy
      subst hy
      obtain ⟨c0, c1, c2⟩ := carry.out _ hb
      have p2 := HD.out k
      have z1 : (hdAt st l kb ks t k).size ≤ 8 := by rw [p2.2]; omega
      have HT := Lib.hid (tRows_succ st l kb ks t k)
      clear p2
      go_wp2_with fail
      refine (impl_leadRows z1 hn (H0.out.below hb (Nat.le_refl _)) (by omega) HS.out HG.out).mono ?_; rintro e w2 ⟨A2, c3, rfl, hr2, hb2⟩
      have HO1 := Lib.hid (HO.out.up hb2)
      have hsz1 := hb2.size
      have hl2 : (rowsL (hdAt st l kb ks t k) l n).length = n := by rw [rowsL_len]
      go_wp2_with (first | (at_builtin; go_must ((refine wpList_append_recs Tryz.elStr strE_one rfl (.tmp 15) (.tmp 18) rfl rfl HO1.out rfl hr2 hl2 ?_ (by decide) ?_ ?_; (focus (first | omega | (simp only [World.size_alloc]; done) | (simp only [World.size_alloc]; omega) | (simp; done) | (simp; omega))); (focus (first | omega | (simp only [World.size_alloc]; done) | (simp only [World.size_alloc]; omega) | (simp; done) | (simp; omega))); intro A3 c4 w3 ho3 hg3 hn3))))
      go_roundw
      case rel => exact ⟨k + 1, A3, q + n, c4, by omega, by go_num, by go_num, by rw [HM.out, Nat.succ_mul], by rw [HT.out]; subst hn; exact ho3, (hb.trans (hb2.mono hsz)).trans ((grown_base hg3 (by omega) (fun z hz => (HO.out.range z hz).1)))⟩
      case measure => simp [intOf]; omega
    · obtain rfl : k = m := by omega
      go_wp2
      go_ret
      exact ⟨_, _, _, rfl, HM.out, HO.out.base_le b0.size, below_go b0 hb⟩
set_option maxHeartbeats 2000000 in
set_option maxRecDepth 100000 in
theorem impl_touchRows {A : Option Addr} {n c st : Nat} {nm : ByteArray} {l : List ByteArray} {kb ks : ByteArray} {t : ByteArray} {w : World} (hn : l.length = n) (h : Strs w A l) (hk : goodK nm (st : Int) l kb ks = true) (hg : goodT t = true) :
    Calls Tryz.prog 143 #[.agg #[.string nm, .int .i64 st, .slice A n c], .agg #[.string kb, .string ks], .string t] w fun e w' => ∃ A' m' c', e = .returned (.tuple #[.slice A' m' c', .bool (decide (t.size * n ≤ 800))]) ∧ (t.size * n ≤ 800 → m' = t.size * n ∧ Owned strE 1 9 w' w.heap.size A' m' c' (tRows st l kb ks t t.size)) ∧ (¬ t.size * n ≤ 800 → A' = none ∧ m' = 0 ∧ c' = 0) ∧ Below w.heap.size w w' := by
  have b0 : Below w.heap.size w ((w.alloc (.cells ⟨[.string nm, .int .i64 st, .slice A n c]⟩ 25)).alloc (.cells ⟨[.string kb, .string ks]⟩ 27)) := by (repeat' (first | (with_reducible exact Below.refl _ _) | (with_reducible assumption) | (with_reducible refine below_drewN ?_ _) | (with_reducible refine Below.drew ?_) | (with_reducible refine below_alloc ?_ _) | (with_reducible refine Below.alloc ?_ ?_ _) | (with_reducible refine Below.setCell ?_ ?_ _) | (with_reducible refine below_go ?_ (by with_reducible assumption)) | (with_reducible refine below_then (by with_reducible assumption) ?_ ?_) | go_size))
  have K0 := (Blk.at_ w 25 [.string nm, .int .i64 st, .slice A n c] (b := w.heap.size) rfl).alloc (.cells ⟨[.string kb, .string ks]⟩ 27)
  have K1 := Blk.at_ (w.alloc (.cells ⟨[.string nm, .int .i64 st, .slice A n c]⟩ 25)) 27 [.string kb, .string ks] (b := w.heap.size + 1) (by simp)
  obtain ⟨h8, h40, _⟩ := goodK_all hk
  obtain ⟨ht1, ht60, _⟩ := goodT_t hg
  have hn40 : n ≤ 40 := by omega
  have hmul : t.size * n ≤ 2400 := Nat.le_trans (Nat.mul_le_mul ht60 hn40) (by decide)
  have hmI : ((t.size * n : Nat) : Int) = (t.size : Int) * (n : Int) := by push_cast; rfl
  have hwr : IntKind.i64.wrap ((t.size : Int) * (n : Int)) = (t.size : Int) * (n : Int) := wrap_id (by omega)
  go_in
  by_cases hle : t.size * n ≤ 800
  · have hI : ¬ (800 : Int) < (t.size : Int) * (n : Int) := by omega
    have ED := Lib.hid (decide_eq_true hle)
    clear hmI
    go_wp2_with fail
    obtain ⟨w0, hw0⟩ : ∃ u, u = ((w.alloc (.cells #[.string nm, .int .i64 st, .slice A n c] 25)).alloc (.cells #[.string kb, .string ks] 27)) := ⟨_, rfl⟩
    rw [← hw0] at b0 K0 K1 ⊢
    clear hw0
    have H0 := Lib.hid (h.up b0)
    have carry : Hid (∀ u : World, Below w0.heap.size w0 u → (u.cell? ⟨w.heap.size, 0, none⟩ = some (.string nm) ∧ u.cell? ⟨w.heap.size, 1, none⟩ = some (.int .i64 st) ∧ u.cell? ⟨w.heap.size, 2, none⟩ = some (.slice A n c)) ∧ u.cell? ⟨w.heap.size + 1, 0, none⟩ = some (.string kb) ∧ u.cell? ⟨w.heap.size + 1, 1, none⟩ = some (.string ks)) := Lib.hid (fun u hu => by
      have L0 := K0.up hu; have L1 := K1.up hu
      exact ⟨⟨by simpa using L0.cell 0, by simpa using L0.cell 1, by simpa using L0.cell 2⟩, by simpa using L1.cell 0, by simpa using L1.cell 1⟩)
    clear h K0 K1
    have hwk : IntKind.i64.wrap (t.size : Int) = (t.size : Int) := wrap_id (by omega)
    have hle3 : (0 : Int) ≤ (t.size : Int) := by omega
    go_region_held3 (fun u => (u.cell? ⟨w.heap.size, 0, none⟩ = some (.string nm) ∧ u.cell? ⟨w.heap.size, 1, none⟩ = some (.int .i64 st) ∧ u.cell? ⟨w.heap.size, 2, none⟩ = some (.slice A n c)) ∧ u.cell? ⟨w.heap.size + 1, 0, none⟩ = some (.string kb) ∧ u.cell? ⟨w.heap.size + 1, 1, none⟩ = some (.string ks)) (first | exact carry.out _ C2 | exact carry.out _ hb1 | exact carry.out _ (Below.refl _ _) | exact carry.out _ (Below.refl _ _).drew) (first | (go_at_call 134; ((refine (impl_leadsFrom hn (H0.out.up hb1) hk hR1 ht60).mono ?_); rintro e w2 ⟨A2, m2, c2, rfl, hm2, ho2, hb2⟩; have C2 := Below.step' hb1 (Nat.le_refl _) hb2)) | (go_at_call 131; ((refine (impl_heads hn H0.out.drew hk hg).mono ?_); rintro e w1 ⟨A1, c1, rfl, ho, hbd⟩; have hb1 := below_of_drew hbd; have hcp := ho.cap; have hcI : (t.size : Int) ≤ (c1 : Int) := (by omega); obtain ⟨g, rfl, _⟩ := ho.at_ (by omega); have hR1 : Strs w1 (some ⟨g, 0, none⟩) (hdsL st l kb ks t t.size) := (by have q := ho.recs.front t.size (by rw [hdsL_len]; omega); rw [hdsL_cut] at q; exact q))))
    subst hm2
    go_wp2
    go_ret2
    rw [ED.out]
    exact ⟨_, _, _, rfl, fun _ => ⟨rfl, ho2.base_le (below_go b0 hb1).size⟩, fun hc => absurd hle hc, below_go (below_go b0 hb1) hb2⟩
  · have hI : (800 : Int) < (t.size : Int) * (n : Int) := by omega
    have ED := Lib.hid (decide_eq_false hle)
    clear hmI
    go_wp2
    go_ret2
    rw [ED.out]
    exact ⟨none, 0, 0, rfl, fun hc => absurd hc hle, fun _ => ⟨rfl, rfl, rfl⟩, b0⟩
set_option maxHeartbeats 1000000 in
theorem impl_TouchRows {A : Option Addr} {n c : Nat} {nm : ByteArray} {st : Int} {l : List ByteArray} {kb ks : ByteArray} {t : ByteArray} {w : World} (hn : l.length = n) (h : Strs w A l) (hz : n ≤ 1048576) (hs : ∀ s ∈ l, s.size ≤ 16777216) (hnm : nm.size ≤ 16777216) (hst : I64 st) (hkb : kb.size ≤ 16777216) (hks : ks.size ≤ 16777216) (ht : t.size ≤ 16777216) :
    Calls Tryz.prog 52 #[.agg #[.string nm, .int .i64 st, .slice A n c], .agg #[.string kb, .string ks], .string t] w fun e w' => ∃ A' m' c', e = .returned (.tuple #[.slice A' m' c', .bool (rowsOk nm st l kb ks t)]) ∧ (rowsOk nm st l kb ks t = true → m' = t.size * n ∧ Owned strE 1 9 w' w.heap.size A' m' c' (tRows st.toNat l kb ks t t.size)) ∧ (rowsOk nm st l kb ks t = false → A' = none ∧ m' = 0 ∧ c' = 0) ∧ Below w.heap.size w w' := by
  have b0 : Below w.heap.size w ((w.alloc (.cells ⟨[.string nm, .int .i64 st, .slice A n c]⟩ 25)).alloc (.cells ⟨[.string kb, .string ks]⟩ 27)) := by (repeat' (first | (with_reducible exact Below.refl _ _) | (with_reducible assumption) | (with_reducible refine below_drewN ?_ _) | (with_reducible refine Below.drew ?_) | (with_reducible refine below_alloc ?_ _) | (with_reducible refine Below.alloc ?_ ?_ _) | (with_reducible refine Below.setCell ?_ ?_ _) | (with_reducible refine below_go ?_ (by with_reducible assumption)) | (with_reducible refine below_then (by with_reducible assumption) ?_ ?_) | go_size))
  have K0 := (Blk.at_ w 25 [.string nm, .int .i64 st, .slice A n c] (b := w.heap.size) rfl).alloc (.cells ⟨[.string kb, .string ks]⟩ 27)
  have K1 := Blk.at_ (w.alloc (.cells ⟨[.string nm, .int .i64 st, .slice A n c]⟩ 25)) 27 [.string kb, .string ks] (b := w.heap.size + 1) (by simp)
  have HQ : Hid (rowsOk nm st l kb ks t = (goodF nm st l kb ks t && decide (t.size * l.length ≤ 800))) := Lib.hid rfl
  go_in
  go_wp2_with fail
  obtain ⟨w0, hw0⟩ : ∃ u, u = ((w.alloc (.cells #[.string nm, .int .i64 st, .slice A n c] 25)).alloc (.cells #[.string kb, .string ks] 27)) := ⟨_, rfl⟩
  rw [← hw0] at b0 K0 K1 ⊢
  clear hw0
  refine (impl_goodFor hn (h.up b0) hz hs hnm hst hkb hks ht).mono ?_; rintro e w1 ⟨rfl, hb1⟩
  have hB1 := below_go b0 hb1
  rcases hf : goodF nm st l kb ks t
  · have e1 := Lib.hid (show rowsOk nm st l kb ks t = false by rw [HQ.out, hf]; rfl)
    go_wp2
    go_ret2
    rw [e1.out]
    exact ⟨none, 0, 0, rfl, fun h => (by cases h), fun _ => ⟨rfl, rfl, rfl⟩, hB1⟩
  · obtain ⟨hk, hg⟩ := goodF_t' hf
    obtain ⟨m, rfl⟩ : ∃ m : Nat, st = (m : Int) := ⟨st.toNat, by
      have := (goodM_t (goodK_t hk).1).2.1
      omega⟩
    have L0 := K0.up hb1; have L1 := K1.up hb1
    have k0 := L0.cell 0; have k1 := L0.cell 1; have k2 := L0.cell 2; have q0 := L1.cell 0; have q1 := L1.cell 1
    simp only [List.getElem?_cons_zero, List.getElem?_cons_succ] at k0 k1 k2 q0 q1
    have e1 := Lib.hid (show rowsOk nm m l kb ks t = decide (t.size * n ≤ 800) by rw [HQ.out, hf, hn]; rfl)
    go_wp2_with fail
    refine (impl_touchRows hn (h.up hB1) hk hg).mono ?_; rintro e w2 ⟨A2, m2, c2, rfl, hy2, hn2, hb2⟩
    have HY := Lib.hid hy2
    have HN := Lib.hid hn2
    clear hy2 hn2
    go_wp2
    go_ret2
    rw [e1.out]
    refine ⟨_, _, _, rfl, fun hc => ?_, fun hc => HN.out (of_decide_eq_false hc), below_go hB1 hb2⟩
    obtain ⟨y1, y2⟩ := HY.out (of_decide_eq_true hc)
    exact ⟨y1, y2.base_le hB1.size⟩
end Go.Proofs.YtidolgonmimicaaGreat
namespace Go.Proofs.YtidolgonmimicaaGreat
open Go.ChangeShapes Go.WideShapes Go.ChangeAt Go.RowKit Go.Deep
open Go.Maps (Keyed)
def MapX {α : Type} (en : α → Value) (li : α → Lit) (P : Program) (w : World) (k e : TypeId) (b m : Nat) (f : Value → Option α) : Prop :=
  ∃ D : DataW Unit, w.ownsMap P k (plainElem P e) b m D ∧ Maps.size D = m ∧ ∀ key kl, keyOf P k key = some kl → (f key = none → Maps.has D kl = false ∧ ∀ z, D.atKey kl z = z) ∧ ∀ x, f key = some x → Maps.has D kl = true ∧ ∀ z, D.atKey kl z = .lit (li x)
section
variable {α : Type} {en : α → Value} {li : α → Lit} {P : Program} {w w' : World} {k e : TypeId} {b m : Nat} {f : Value → Option α}
theorem MapX.made (en : α → Value) (li : α → Lit) (P : Program) (w : World) (k e : TypeId) : MapX en li P (w.alloc (.map #[] 0)) k e w.heap.size 0 (fun _ => none) :=
  ⟨.map [], World.ownsMap_made w P k _, rfl, fun key kl _ => ⟨fun _ => ⟨rfl, fun _ => rfl⟩, fun x hx => by cases hx⟩⟩
theorem MapX.made_at (en : α → Value) (li : α → Lit) (P : Program) (w : World) (k e : TypeId) {b : Nat} (h : b = w.heap.size) : MapX en li P (w.alloc (.map #[] 0)) k e b 0 (fun _ => none) := by
  subst h
  exact MapX.made en li P w k e
theorem MapX.lt (h : MapX en li P w k e b m f) : b < w.heap.size := by
  obtain ⟨D, h1, _⟩ := h
  exact h1.lt
theorem MapX.kept {row : Option Nat} (h : MapX en li P w k e b m f) (hg : w.grownBy w' row) (hne : some b ≠ row) : MapX en li P w' k e b m f := by
  obtain ⟨D, h1, h2⟩ := h
  exact ⟨D, h1.kept hg hne, h2⟩
theorem MapX.up (h : MapX en li P w k e b m f) (hb : Below w.heap.size w w') : MapX en li P w' k e b m f := h.kept (grown_of_below hb) (by simp)
theorem MapX.alloc (h : MapX en li P w k e b m f) (o : Obj) : MapX en li P (w.alloc o) k e b m f := h.up ((Below.refl _ _).alloc (Nat.le_refl _) o)
theorem MapX.drew (h : MapX en li P w k e b m f) : MapX en li P w.drew k e b m f := h.up (Below.refl _ _).drew
theorem MapX.as {m' : Nat} {f' : Value → Option α} (h : MapX en li P w k e b m f) (hm : m = m') (hf : ∀ q, f q = f' q) : MapX en li P w k e b m' f' := by
  have e1 : f = f' := funext hf
  subst hm e1
  exact h
theorem MapX.look {t : TypeId} {z : α} (h : MapX en li P w k e b m f) (K : Keyed P k) (ht : P.underlying t = some (.map k e)) (hz : (zeroValue e).run P w = .ok (en z) w) (hzd : plainElem (H := Unit) P e (en z) = some (.lit (li z), [])) (hin : ∀ v x ps, plainElem (H := Unit) P e v = some (.lit (li x), ps) → v = en x)
    {key : Value} {kl : Lit} (hkey : keyOf P k key = some kl) : (Instr.lookup t (.map (some b)) key false).run P w = .ok (en ((f key).getD z)) w := by
  obtain ⟨D, h1, _, h2⟩ := h
  obtain ⟨v, ps, hrun, hv⟩ := h1.lookup K ht hz hzd hkey
  obtain ⟨a1, a2⟩ := h2 key kl hkey
  rcases hf : f key with _ | x
  · rw [(a1 hf).2] at hv
    rw [hrun, hin _ _ _ hv]; rfl
  · rw [(a2 x hf).2] at hv
    rw [hrun, hin _ _ _ hv]; rfl
theorem MapX.look_ok {t : TypeId} {z : α} (h : MapX en li P w k e b m f) (K : Keyed P k) (ht : P.underlying t = some (.map k e)) (hz : (zeroValue e).run P w = .ok (en z) w) (hzd : plainElem (H := Unit) P e (en z) = some (.lit (li z), [])) (hin : ∀ v x ps, plainElem (H := Unit) P e v = some (.lit (li x), ps) → v = en x)
    {key : Value} {kl : Lit} (hkey : keyOf P k key = some kl) : (Instr.lookup t (.map (some b)) key true).run P w = .ok (.tuple #[en ((f key).getD z), .bool (f key).isSome]) w := by
  obtain ⟨D, h1, _, h2⟩ := h
  obtain ⟨v, ps, hrun, hv⟩ := h1.look_ok K ht hz hzd hkey
  obtain ⟨a1, a2⟩ := h2 key kl hkey
  rcases hf : f key with _ | x
  · rw [(a1 hf).2] at hv
    rw [hrun, hin _ _ _ hv, (a1 hf).1]; rfl
  · rw [(a2 x hf).2] at hv
    rw [hrun, hin _ _ _ hv, (a2 x hf).1]; rfl
theorem MapX.len {t : TypeId} (h : MapX en li P w k e b m f) (ht : P.underlying t = some (.map k e)) (ty : TypeId) : (Builtin.len_ #[t] ty #[.map (some b)]).run P w = .ok (.int .i64 m) w := by
  obtain ⟨D, h1, h3, _⟩ := h
  rw [h1.len ht ty, h3]
theorem ownsMap_tight2 {H : Type} {R : Value → Option (DataW H × List MemPlace)} {n : Nat} {D : DataW H} (h : w.ownsMap P k R b n D) : w.ownsMap P k R b (Maps.size D) D := by
  have hm := h.isMap
  cases D with
  | map l => exact ownsMap_tight h (Nat.le_of_eq rfl)
  | _ => exact absurd hm (by simp [Maps.IsMap])
theorem MapX.put {t : TypeId} (K : Keyed P k) (ht : P.underlying t = some (.map k e)) (h : MapX en li P w k e b m f) (hn : m ≤ 16777216) {key : Value} {x : α}
    {kl : Lit} (hkey : keyOf P k key = some kl) (hpe : plainElem (H := Unit) P e (en x) = some (.lit (li x), [])) : ∃ w', (Instr.mapUpdate t (.map (some b)) key (en x)).run P w = .ok () w' ∧ (∀ (m' : Nat) (g : Value → Option α), m' = (if (f key).isSome then m else m + 1) → g key = some x → (∀ q, q ≠ key → g q = f q) → MapX en li P w' k e b m' g) ∧ w.grownBy w' (some b) := by
  obtain ⟨D, h1, h3, h2⟩ := h
  obtain ⟨w', hrun, hown, hg⟩ := h1.update K ht (by unfold maxLen; omega) hkey hpe
  refine ⟨w', hrun, fun m' g hm' g1 g2 => ?_, hg⟩
  have e0 : Maps.size (D.put kl (.lit (li x))) = m' := by
    rw [Maps.size_put (h1.tidy K), h3, hm']
    obtain ⟨a1, a2⟩ := h2 key kl hkey
    rcases hf : f key with _ | y
    · rw [(a1 hf).1]; simp
    · rw [(a2 y hf).1]; simp
  refine ⟨_, e0 ▸ ownsMap_tight2 hown, e0, fun key' kl' hk' => ?_⟩
  by_cases ek : kl' = kl
  · subst ek
    have e1 : key' = key := K.inj hk' hkey
    subst e1
    rw [g1]
    refine ⟨fun q => (by cases q), fun y hy => ?_⟩
    injection hy with hy
    subst hy
    exact ⟨Maps.has_put_same h1.isMap (K.key hkey) _, fun z => Maps.atKey_put_same h1.isMap (K.key hkey) _ _⟩
  · have e1 : key' ≠ key := fun e2 => ek (by rw [e2, hkey] at hk'; injection hk' with hk'; exact hk'.symm)
    rw [g2 _ e1, Maps.has_put_other ek]
    obtain ⟨a1, a2⟩ := h2 key' kl' hk'
    exact ⟨fun q => ⟨(a1 q).1, fun z => by rw [Maps.atKey_put_other ek]; exact (a1 q).2 z⟩, fun y q => ⟨(a2 y q).1, fun z => by rw [Maps.atKey_put_other ek]; exact (a2 y q).2 z⟩⟩
theorem MapX.drop {t : TypeId} (K : Keyed P k) (ht : P.underlying t = some (.map k e)) (h : MapX en li P w k e b m f) {key : Value}
    {kl : Lit} (hkey : keyOf P k key = some kl) (ty : TypeId) : ∃ w', (Builtin.delete_ #[t, k] ty #[.map (some b), key]).run P w = .ok (.tuple #[]) w' ∧ (∀ (m' : Nat) (g : Value → Option α), m' + (if (f key).isSome then 1 else 0) = m → g key = none → (∀ q, q ≠ key → g q = f q) → MapX en li P w' k e b m' g) ∧ w.grownBy w' (some b) := by
  obtain ⟨D, h1, h3, h2⟩ := h
  obtain ⟨w', hrun, hown, hg⟩ := h1.drop K ht hkey ty
  refine ⟨w', hrun, fun m' g hm' g1 g2 => ?_, hg.grown⟩
  have e0 : Maps.size (D.del kl) = m' := by
    have e9 := Maps.size_del (k := kl) (h1.tidy K)
    rw [h3, ← hm'] at e9
    obtain ⟨a1, a2⟩ := h2 key kl hkey
    rcases hf : f key with _ | y
    · rw [(a1 hf).1, hf] at e9; simp at e9; omega
    · rw [(a2 y hf).1, hf] at e9; simp at e9; omega
  refine ⟨_, e0 ▸ ownsMap_tight2 hown, e0, fun key' kl' hk' => ?_⟩
  by_cases ek : kl' = kl
  · subst ek
    have e1 : key' = key := K.inj hk' hkey
    subst e1
    rw [g1]
    exact ⟨fun _ => ⟨Maps.has_del_same, fun z => Maps.atKey_del_same _⟩, fun y hy => (by cases hy)⟩
  · have e1 : key' ≠ key := fun e2 => ek (by rw [e2, hkey] at hk'; injection hk' with hk'; exact hk'.symm)
    rw [g2 _ e1, Maps.has_del_other ek]
    obtain ⟨a1, a2⟩ := h2 key' kl' hk'
    exact ⟨fun q => ⟨(a1 q).1, fun z => by rw [Maps.atKey_del_other ek]; exact (a1 q).2 z⟩, fun y q => ⟨(a2 y q).1, fun z => by rw [Maps.atKey_del_other ek]; exact (a2 y q).2 z⟩⟩
end
section
variable {α : Type} {en : α → Value} {li : α → Lit} {P : Program} {ops : Array Oper} {rest : List Oper} {o : Oper} {a : Act} {Q : Exit → Act → World → Prop} {W : World} {k e : TypeId} {b n : Nat} {f : Value → Option α}
theorem wp_mapx_put {K' : Act → World → Prop} (M X V : Operand) (t : TypeId) (hop : o.op = Op.mapUpdate t M X V) (K : Keyed P k) (ht : P.underlying t = some (.map k e)) (hm : a.eval M = .map (some b)) (h : MapX en li P W k e b n f) (hn : n ≤ 16777216) {key : Value} (hx : a.eval X = key) {x : α} (hv : a.eval V = en x)
    {kl : Lit} (hkey : keyOf P k key = some kl) (hpe : plainElem (H := Unit) P e (en x) = some (.lit (li x), [])) (hK : ∀ w', (∀ (m' : Nat) (g : Value → Option α), m' = (if (f key).isSome then n else n + 1) → g key = some x → (∀ q, q ≠ key → g q = f q) → MapX en li P w' k e b m' g) → W.grownBy w' (some b) → K' (a.put o.dst undef) w') : o.wp P a W K' Q := by
  obtain ⟨w', hrun, r1, r2⟩ := h.put K ht hn hkey hpe
  unfold Oper.wp
  simp [execOp, hop, hm, hx, hv, hrun, Result.andThen]
  exact hK w' r1 r2
theorem wpList_mapx_put (hgd : o.guard = none) (M X V : Operand) (t : TypeId) (hop : o.op = Op.mapUpdate t M X V) (K : Keyed P k) (ht : P.underlying t = some (.map k e)) (hm : a.eval M = .map (some b)) (h : MapX en li P W k e b n f) (hn : n ≤ 16777216) {key : Value} (hx : a.eval X = key) {x : α} (hv : a.eval V = en x)
    {kl : Lit} (hkey : keyOf P k key = some kl) (hpe : plainElem (H := Unit) P e (en x) = some (.lit (li x), [])) (hK : ∀ w', (∀ (m' : Nat) (g : Value → Option α), m' = (if (f key).isSome then n else n + 1) → g key = some x → (∀ q, q ≠ key → g q = f q) → MapX en li P w' k e b m' g) → W.grownBy w' (some b) → wpList P ops Q rest (a.put o.dst undef) w') : wpList P ops Q (o :: rest) a W :=
  wpList_plain hgd fun K' hK' => wp_mapx_put M X V t hop K ht hm h hn hx hv hkey hpe fun w' r1 r2 => hK' _ _ (hK w' r1 r2)
theorem wpList_mapx_drop (hgd : o.guard = none) (M X : Operand) (t : TypeId) (hop : o.op = Op.call { callee := Callee.builtin Builtin.delete, args := #[M, X], argTypes := #[t, k] }) (K : Keyed P k) (ht : P.underlying t = some (.map k e)) (hm : a.eval M = .map (some b)) (h : MapX en li P W k e b n f) {key : Value} (hx : a.eval X = key)
    {kl : Lit} (hkey : keyOf P k key = some kl) (hK : ∀ w', (∀ (m' : Nat) (g : Value → Option α), m' + (if (f key).isSome then 1 else 0) = n → g key = none → (∀ q, q ≠ key → g q = f q) → MapX en li P w' k e b m' g) → W.grownBy w' (some b) → wpList P ops Q rest (a.put o.dst (.tuple #[])) w') : wpList P ops Q (o :: rest) a W := by
  refine wpList_plain hgd fun K' hK' => ?_
  obtain ⟨w', hrun, r1, r2⟩ := h.drop K ht hkey o.type
  unfold Oper.wp
  simp [execOp, hop, resolve, invoke, builtin, hm, hx, hrun, Result.andThen]
  exact hK' _ _ (hK w' r1 r2)
end
def bLi (x : Bool) : Lit := .bool x
def bEn (x : Bool) : Value := .bool x
theorem bLi_pe {P : Program} {e : TypeId} (he : P.underlying e = some .bool) (x : Bool) : plainElem (H := Unit) P e (bEn x) = some (.lit (bLi x), []) := plainElem_bool he x
theorem bLi_in {P : Program} {e : TypeId} (he : P.underlying e = some .bool) (v : Value) (x : Bool) (ps : List MemPlace) (h : plainElem (H := Unit) P e v = some (.lit (bLi x), ps)) : v = bEn x := plainElem_bool_inv he h
end Go.Proofs.YtidolgonmimicaaGreat
namespace Go.Proofs.YtidolgonmimicaaGreat
open Go.ChangeShapes Go.WideShapes Go.ChangeAt Go.RowKit Go.Deep
open Go.Maps (Keyed string_keyed)
open Go.WideMaps (keyOf_string_mk)
def SetD (D : DataW Unit) (S : List ByteArray) : Prop := ∀ s : ByteArray, s.size ≤ maxLen → Maps.has D (sLi s) = inL S s ∧ (inL S s = true → ∀ z, D.atKey (sLi s) z = .lit (.bool true)) ∧ (inL S s = false → ∀ z, D.atKey (sLi s) z = z)
def SetX (P : Program) (w : World) (k e : TypeId) (b : Nat) (S : List ByteArray) : Prop :=
  ∃ (D : DataW Unit) (m : Nat), w.ownsMap P k (plainElem P e) b m D ∧ m ≤ S.length ∧ Maps.size D = m ∧ SetD D S
theorem sLi_inj {s t : ByteArray} (h : sLi s = sLi t) : s = t := by
  injection h with h
  exact ba_ext h
theorem inL_snoc (S : List ByteArray) (x s : ByteArray) : inL (S ++ [x]) s = (inL S s || decide (x = s)) := by simp [inL, List.any_append]
section
variable {P : Program} {w w' : World} {k e : TypeId} {b n : Nat} {S : List ByteArray}
theorem SetX.made (P : Program) (w : World) (k e : TypeId) : SetX P (w.alloc (.map #[] 0)) k e w.heap.size [] :=
  ⟨.map [], 0, World.ownsMap_made w P k _, Nat.le_refl _, rfl, fun s _ => ⟨rfl, fun q => (by cases q), fun _ _ => rfl⟩⟩
theorem SetX.made_at (P : Program) (w : World) (k e : TypeId) {b : Nat} (h : b = w.heap.size) : SetX P (w.alloc (.map #[] 0)) k e b [] := by
  subst h
  exact SetX.made P w k e
theorem SetX.lt (h : SetX P w k e b S) : b < w.heap.size := by
  obtain ⟨D, m, h1, _⟩ := h
  exact h1.lt
theorem SetX.kept {row : Option Nat} (h : SetX P w k e b S) (hg : w.grownBy w' row) (hne : some b ≠ row) : SetX P w' k e b S := by
  obtain ⟨D, m, h1, h2⟩ := h
  exact ⟨D, m, h1.kept hg hne, h2⟩
theorem SetX.up (h : SetX P w k e b S) (hb : Below w.heap.size w w') : SetX P w' k e b S := h.kept (grown_of_below hb) (by simp)
theorem SetX.alloc (h : SetX P w k e b S) (o : Obj) : SetX P (w.alloc o) k e b S := h.up ((Below.refl _ _).alloc (Nat.le_refl _) o)
theorem SetX.drew (h : SetX P w k e b S) : SetX P w.drew k e b S := h.up (Below.refl _ _).drew
theorem SetX.look {t : TypeId} (h : SetX P w k e b S) (K : Keyed P k) (ht : P.underlying t = some (.map k e)) (hk : P.underlying k = some .string) (he : P.underlying e = some .bool) (hz : (zeroValue e).run P w = .ok (.bool false) w) {s : ByteArray} (hs : s.size ≤ 16777216) :
    (Instr.lookup t (.map (some b)) (.string s) false).run P w = .ok (.bool (inL S s)) w := by
  obtain ⟨D, m, h1, _, _, h2⟩ := h
  have hm : s.size ≤ maxLen := by unfold maxLen; omega
  obtain ⟨v, ps, hrun, hv⟩ := h1.lookup K ht hz (plainElem_bool he false) (keyOf_string_mk hk hm)
  obtain ⟨_, a1, a2⟩ := h2 s hm
  rcases hi : inL S s
  · rw [show (Lit.string s.data.toList) = sLi s from rfl, a2 hi] at hv
    rw [hrun, plainElem_bool_inv he hv]
  · rw [show (Lit.string s.data.toList) = sLi s from rfl, a1 hi] at hv
    rw [hrun, plainElem_bool_inv he hv]
theorem SetX.add {t : TypeId} (K : Keyed P k) (ht : P.underlying t = some (.map k e)) (hk : P.underlying k = some .string) (he : P.underlying e = some .bool) (h : SetX P w k e b S) (hn : S.length ≤ 16777216) {s : ByteArray} (hs : s.size ≤ 16777216) :
    ∃ w', (Instr.mapUpdate t (.map (some b)) (.string s) (.bool true)).run P w = .ok () w' ∧ SetX P w' k e b (S ++ [s]) ∧ w.grownBy w' (some b) := by
  obtain ⟨D, m, h1, hmS, h3, h2⟩ := h
  have hm : s.size ≤ maxLen := by unfold maxLen; omega
  have hkey : keyOf P k (.string s) = some (sLi s) := keyOf_string_mk hk hm
  obtain ⟨w', hrun, hown, hg⟩ := h1.update K ht (by unfold maxLen; omega) hkey (plainElem_bool he true)
  have e0 : Maps.size (D.put (sLi s) (.lit (.bool true))) ≤ S.length + 1 := by
    rw [Maps.size_put (h1.tidy K), h3]
    split <;> omega
  refine ⟨w', hrun, ⟨_, _, ownsMap_tight2 hown, by rw [List.length_append]; exact e0, rfl, fun q hq => ?_⟩, hg⟩
  rw [inL_snoc]
  by_cases ek : s = q
  · subst ek
    refine ⟨?_, fun _ z => Maps.atKey_put_same h1.isMap (K.key hkey) _ _, fun hf => ?_⟩
    · rw [Maps.has_put_same h1.isMap (K.key hkey)]; simp
    · simp at hf
  · have e1 : sLi q ≠ sLi s := fun e2 => ek (sLi_inj e2).symm
    obtain ⟨a0, a1, a2⟩ := h2 q hq
    rw [Maps.has_put_other e1, decide_eq_false ek, Bool.or_false]
    exact ⟨a0, fun hi z => by rw [Maps.atKey_put_other e1]; exact a1 hi z, fun hi z => by rw [Maps.atKey_put_other e1]; exact a2 hi z⟩
theorem SetD.keys {D : DataW Unit} {K : List ByteArray} {left : Lit → Bool} (hD : SetD D S) (hown : w.ownsMap P k (plainElem P e) b n D) (KS : Keyed P k) (hk : P.underlying k = some .string) (hC : Collected D left (K.map fun s => s.data.toList)) (hl : ∀ kl, left kl = false) (hS : ∀ s ∈ S, s.size ≤ 16777216) :
    K.Nodup ∧ ∀ x, x ∈ K ↔ x ∈ S := by
  have hin : ∀ x : ByteArray, x ∈ K ↔ x.data.toList ∈ K.map fun s => s.data.toList := fun x => ⟨fun h => List.mem_map.2 ⟨x, h, rfl⟩, fun h => by
    obtain ⟨y, hy, ey⟩ := List.mem_map.1 h
    rw [ba_ext ey] at hy; exact hy⟩
  refine ⟨(List.pairwise_map.1 hC.1).imp fun h e => h (by rw [e]), fun x => ?_⟩
  rw [hin, hC.2, hl]
  constructor
  · rintro ⟨hh, _⟩
    have hx : x.data.toList ∈ K.map fun s => s.data.toList := (hC.2 _).2 ⟨hh, hl _⟩
    have hz := strKeys_le hown hk _ ((hC.perm hown KS hk hl).mem_iff.1 hx)
    have := (hD x (by simpa using hz)).1
    rw [show sLi x = Lit.string x.data.toList from rfl, hh] at this
    exact inL_iff.1 this.symm
  · intro h
    have hz := hS x h
    have := (hD x (by unfold maxLen; omega)).1
    rw [inL_iff.2 h] at this
    exact ⟨this, rfl⟩
end
theorem wpList_setx_add {P : Program} {ops : Array Oper} {rest : List Oper} {o : Oper} {a : Act} {Q : Exit → Act → World → Prop} {W : World} {k e : TypeId} {b : Nat} {S : List ByteArray} (hgd : o.guard = none) (M X V : Operand) (t : TypeId) (hop : o.op = Op.mapUpdate t M X V) (K : Keyed P k) (ht : P.underlying t = some (.map k e)) (hk : P.underlying k = some .string) (he : P.underlying e = some .bool) (hm : a.eval M = .map (some b)) (h : SetX P W k e b S) (hn : S.length ≤ 16777216) {s : ByteArray} (hx : a.eval X = .string s) (hv : a.eval V = .bool true) (hs : s.size ≤ 16777216)
    (hK : ∀ w', SetX P w' k e b (S ++ [s]) → W.grownBy w' (some b) → wpList P ops Q rest (a.put o.dst undef) w') : wpList P ops Q (o :: rest) a W :=
  wpList_plain hgd fun K' hK' => by
    obtain ⟨w', hrun, r1, r2⟩ := h.add K ht hk he hn hs
    unfold Oper.wp
    simp [execOp, hop, hm, hx, hv, hrun, Result.andThen]
    exact hK' _ _ (hK w' r1 r2)
end Go.Proofs.YtidolgonmimicaaGreat
namespace Go.Proofs
open Go.Shelf
def Tryz.lays190_ren : Go.Shelf.Ren := ⟨fun | 190 => 155 | 125 => 210 | 258 => 209 | 128 => 242 | 129 => 243 | 302 => 234 | 303 => 235 | 304 => 236 | 305 => 237 | 306 => 238 | 307 => 239 | 308 => 232 | 309 => 240 | 310 => 241 | 333 => 256 | 329 => 257 | 330 => 258 | 334 => 259 | 335 => 260 | 336 => 255 | 344 => 263 | n => n, fun | 31 => 23 | 9 => 9 | 3 => 3 | 46 => 149 | 0 => 0 | 51 => 178 | 53 => 85 | 4 => 4 | 183 => 188 | 182 => 187 | 131 => 60 | 5 => 5 | 218 => 205 | 222 => 209 | 228 => 212 | 229 => 213 | n => n, fun | n => n⟩
theorem Tryz.lays190 : Go.Proofs.Lays.n190 Tryz.prog Tryz.lays190_ren := {
  mixed := by kernel_rfl
  f125 := Tryz.func210.trans (congrArg some (by kernel_rfl))
  f128 := Tryz.func242.trans (congrArg some (by kernel_rfl))
  f129 := Tryz.func243.trans (congrArg some (by kernel_rfl))
  f190 := Tryz.func155.trans (congrArg some (by kernel_rfl))
  f258 := Tryz.func209.trans (congrArg some (by kernel_rfl))
  f302 := Tryz.func234.trans (congrArg some (by kernel_rfl))
  f303 := Tryz.func235.trans (congrArg some (by kernel_rfl))
  f304 := Tryz.func236.trans (congrArg some (by kernel_rfl))
  f305 := Tryz.func237.trans (congrArg some (by kernel_rfl))
  f306 := Tryz.func238.trans (congrArg some (by kernel_rfl))
  f307 := Tryz.func239.trans (congrArg some (by kernel_rfl))
  f308 := Tryz.func232.trans (congrArg some (by kernel_rfl))
  f309 := Tryz.func240.trans (congrArg some (by kernel_rfl))
  f310 := Tryz.func241.trans (congrArg some (by kernel_rfl))
  f329 := Tryz.func257.trans (congrArg some (by kernel_rfl))
  f330 := Tryz.func258.trans (congrArg some (by kernel_rfl))
  f333 := Tryz.func256.trans (congrArg some (by kernel_rfl))
  f334 := Tryz.func259.trans (congrArg some (by kernel_rfl))
  f335 := Tryz.func260.trans (congrArg some (by kernel_rfl))
  f336 := Tryz.func255.trans (congrArg some (by kernel_rfl))
  f344 := Tryz.func263.trans (congrArg some (by kernel_rfl))
  t0 := Tryz.underlying0
  a0 := Tryz.isAgg0
  z0 := Tryz.sizeOf0
  v0 := Tryz.zeroValue0
  t3 := Tryz.underlying3
  a3 := Tryz.isAgg3
  z3 := Tryz.sizeOf3
  v3 := Tryz.zeroValue3
  t4 := Tryz.underlying4
  a4 := Tryz.isAgg4
  z4 := Tryz.sizeOf4
  v4 := Tryz.zeroValue4
  t5 := Tryz.underlying5
  a5 := Tryz.isAgg5
  z5 := Tryz.sizeOf5
  v5 := Tryz.zeroValue5
  t9 := Tryz.underlying9
  a9 := Tryz.isAgg9
  z9 := Tryz.sizeOf9
  v9 := Tryz.zeroValue9
  t31 := Tryz.underlying23
  a31 := Tryz.isAgg23
  z31 := Tryz.sizeOf23
  v31 := Tryz.zeroValue23
  t46 := Tryz.underlying149
  a46 := Tryz.isAgg149
  z46 := Tryz.sizeOf149
  v46 := Tryz.zeroValue149
  t51 := Tryz.underlying178
  a51 := Tryz.isAgg178
  z51 := Tryz.sizeOf178
  v51 := Tryz.zeroValue178
  t53 := Tryz.underlying85
  a53 := Tryz.isAgg85
  z53 := Tryz.sizeOf85
  v53 := Tryz.zeroValue85
  t131 := Tryz.underlying60
  a131 := Tryz.isAgg60
  z131 := Tryz.sizeOf60
  v131 := Tryz.zeroValue60
  t182 := Tryz.underlying187
  a182 := Tryz.isAgg187
  z182 := Tryz.sizeOf187
  v182 := Tryz.zeroValue187
  t183 := Tryz.underlying188
  a183 := Tryz.isAgg188
  z183 := Tryz.sizeOf188
  v183 := Tryz.zeroValue188
  t218 := Tryz.underlying205
  a218 := Tryz.isAgg205
  z218 := Tryz.sizeOf205
  v218 := Tryz.zeroValue205
  t222 := Tryz.underlying209
  a222 := Tryz.isAgg209
  z222 := Tryz.sizeOf209
  v222 := Tryz.zeroValue209
  t228 := Tryz.underlying212
  a228 := Tryz.isAgg212
  z228 := Tryz.sizeOf212
  v228 := Tryz.zeroValue212
  t229 := Tryz.underlying213
  a229 := Tryz.isAgg213
  z229 := Tryz.sizeOf213
  v229 := Tryz.zeroValue213 }
open Go.Sort Go.RowKit in
theorem Tryz.slices_Sort_string (blk off cap : Nat) (ss : List (List UInt8)) (w : World) (hH : Holds encStr w blk off ss.toArray) (hblk : blk < w.heap.size) (hsz : ss.length < 4611686018427387904) :
    Calls Tryz.prog 155 #[.slice (some ⟨blk, off, none⟩) ss.length cap] w fun e w' =>
      e = .returned (.tuple #[]) ∧ ∃ n os, w' = grow (putRow encStr (Sort.ahead w n) blk off (ss.mergeSort fun x y => decide (x ≤ y)).toArray) os := Any.slices_Sort_string Tryz.lays190 blk off cap ss w hH hblk hsz
end Go.Proofs
namespace Go.Proofs.YtidolgonmimicaaGreat
open Go.ChangeShapes Go.WideShapes Go.ChangeAt Go.RowKit Go.Deep
theorem bytes_lt : ∀ a b : List UInt8, Op.bytesLess a b = decide (a < b)
  | [], [] => by simp [Op.bytesLess]
  | [], _ :: _ => by simp [Op.bytesLess]
  | _ :: _, [] => by simp [Op.bytesLess]
  | x :: a, y :: b => by
    rw [Op.bytesLess, bytes_lt a b]
    simp only [List.cons_lt_cons_iff]
    rcases Nat.lt_trichotomy x.toNat y.toNat with h | h | h
    · have h1 : x < y := h
      simp [h1]
    · have h1 : x = y := UInt8.toNat_inj.1 h
      subst h1; simp
    · have h1 : ¬ x < y := fun q => Nat.lt_asymm h q
      have h2 : ¬ x = y := fun q => by subst q; exact Nat.lt_irrefl _ h
      simp [h1, h2]
theorem ba_list (s : ByteArray) : (⟨s.data.toList.toArray⟩ : ByteArray) = s := by cases s; simp
theorem le_leS {x y : List UInt8} (h : decide (x ≤ y) = true) : leS ⟨x.toArray⟩ ⟨y.toArray⟩ = true := by
  rw [leS, less, ByteArray.toList_eq, ByteArray.toList_eq, bytes_lt]
  simpa using h
theorem sort_strs {g n c base : Nat} {l : List ByteArray} {w : World} (ho : Owned strE 1 9 w base (some ⟨g, 0, none⟩) n c l) (hn : n ≤ 16777216) :
    Calls Tryz.prog 155 #[.slice (some ⟨g, 0, none⟩) n c] w fun e w' => e = .returned (.tuple #[]) ∧ ∃ L, Owned strE 1 9 w' base (some ⟨g, 0, none⟩) n c L ∧ L.Perm l ∧ Srt L ∧ w.grownBy w' (some g) := by
  obtain ⟨he, hl, _, hv⟩ := ho
  rcases hv with ⟨h0, _⟩ | ⟨g', c', cur, hv, hbase, hb, h1, h2, h3, h4⟩
  · cases h0
  cases hv
  obtain ⟨ss, hss⟩ : ∃ ss, ss = l.map fun s : ByteArray => s.data.toList := ⟨_, rfl⟩
  have hlen : ss.length = n := by rw [hss, List.length_map, hl]
  have hE : ∀ m : List ByteArray, m.flatMap strE = (m.map fun s : ByteArray => s.data.toList).map encStr := fun m => by
    rw [show strE = fun s => [Value.string s] from rfl, flatMap_one, List.map_map]
    exact List.map_congr_left fun s _ => by simp [encStr, ba_list]
  have hH : Sort.Holds encStr w g 0 ss.toArray := holds_of_block hb (by rw [hlen, hss, ← hE]; simpa using h4)
  have hc := Tryz.slices_Sort_string g 0 c ss w hH (Array.getElem?_eq_some_iff.1 hb).1 (by omega)
  rw [hlen] at hc
  refine hc.mono ?_
  rintro e w' ⟨rfl, k, os, rfl⟩
  refine ⟨rfl, (ss.mergeSort fun x y => decide (x ≤ y)).map fun x => (⟨x.toArray⟩ : ByteArray), ?_, ?_, ?_, grownBy_sorted _⟩
  · have hr := ownsRow_sorted (n := k) (os := os) (ss := ss) (ts := ss.mergeSort fun x y => decide (x ≤ y)) (by simp) hbase hb (by rw [hlen]; exact h1) h2 h3
    rw [hlen] at hr
    refine ⟨he, by simp [hlen], ?_⟩
    have e2 : ((ss.mergeSort fun x y => decide (x ≤ y)).map fun x : List UInt8 => (⟨x.toArray⟩ : ByteArray)).map (fun s : ByteArray => s.data.toList) = ss.mergeSort fun x y => decide (x ≤ y) := by
      rw [List.map_map, List.map_congr_left (g := id) (fun x _ => by simp)]; simp
    rw [hE, e2]
    exact hr
  · have hp : (ss.mergeSort fun x y => decide (x ≤ y)).Perm ss := List.mergeSort_perm _ _
    have hq := hp.map fun x => (⟨x.toArray⟩ : ByteArray)
    rw [hss, List.map_map] at hq
    have e1 : l.map ((fun x : List UInt8 => (⟨x.toArray⟩ : ByteArray)) ∘ fun s : ByteArray => s.data.toList) = l := by
      rw [List.map_congr_left (g := id) (fun s _ => by exact ba_list s)]; simp
    rw [e1] at hq
    rw [hss]; exact hq
  · have hs := List.pairwise_mergeSort (le := fun x y : List UInt8 => decide (x ≤ y)) (fun a b c h1 h2 => by simp at h1 h2 ⊢; exact List.le_trans h1 h2) (fun a b => by simp; exact List.le_total a b) ss
    rw [Srt, List.pairwise_map]
    exact hs.imp fun h => le_leS h
end Go.Proofs.YtidolgonmimicaaGreat
namespace Go.Proofs.YtidolgonmimicaaGreat
open Go.ChangeShapes Go.WideShapes Go.ChangeAt Go.RowKit Go.Deep
set_option maxRecDepth 100000 in
theorem equal_strs (A C : Option Addr) (n n' c d : Nat) (l m : List ByteArray) (w : World) (hn : l.length = n) (hn' : m.length = n') (h : Recs strE 1 w A l) (g : Recs strE 1 w C m) (hz : n ≤ 16777216) (hz' : n' ≤ 16777216) :
    Calls Tryz.prog 111 #[.slice A n c, .slice C n' d] w fun e w' => e = .returned (.bool (decide (l = m))) ∧ Below w.heap.size w w' := by
  subst hn hn'
  by_cases hl : l.length = m.length
  · have HL := Lib.hid hl
    rw [← hl]
    clear hl
    go_in
    go_wp2
    go_loopw [13] (fun i wr => ∃ k : Nat, k ≤ l.length ∧ i = .int .i64 k ∧ Hid (∀ j, j < k → l[j]? = m[j]?) ∧ Below w.heap.size w wr) (fun i _ => l.length - (intOf i).toNat)
    case atStart => exact ⟨0, Nat.zero_le _, rfl, Lib.hid (fun j hj => absurd hj (by omega)), Below.refl _ _⟩
    case round =>
      obtain ⟨k, hk, rfl, HT, hb⟩ := hrel
      by_cases hlt : k < l.length
      · obtain ⟨b1, o1, x, rfl, _, hx, hcx⟩ := (h.below hb (Nat.le_refl _)).at_str hlt
        obtain ⟨b2, o2, y, rfl, _, hy, hcy⟩ := (g.below hb (Nat.le_refl _)).at_str (by rw [← HL.out]; exact hlt)
        have HX := Lib.hid hx
        have HY := Lib.hid hy
        clear hx hy h g
        rcases hne : (x.toList == y.toList)
        · have he := Lib.hid hne
          go_wp2
          go_quiet (fail)
          go_wp2
          go_ret
          refine ⟨ret_bool ?_, by (repeat' (first | (with_reducible exact Below.refl _ _) | (with_reducible assumption) | (with_reducible refine below_drewN ?_ _) | (with_reducible refine Below.drew ?_) | (with_reducible refine below_alloc ?_ _) | (with_reducible refine Below.alloc ?_ ?_ _) | (with_reducible refine Below.setCell ?_ ?_ _) | (with_reducible refine below_go ?_ (by with_reducible assumption)) | (with_reducible refine below_then (by with_reducible assumption) ?_ ?_) | go_size))⟩
          have hd : l ≠ m := fun e => by
            have h1 := HX.out
            rw [e, HY.out] at h1
            injection h1 with h1
            have h2 := he.out
            rw [h1] at h2
            simp at h2
          simp [hd]
        · have he := Lib.hid hne
          go_wp2
          go_quiet (fail)
          go_wp2
          go_roundw
          case rel => exact ⟨k + 1, by omega, by go_num, Lib.hid (upto_succ HT.out (by rw [HX.out, HY.out, bytes_same he.out])), by (repeat' (first | (with_reducible exact Below.refl _ _) | (with_reducible assumption) | (with_reducible refine below_drewN ?_ _) | (with_reducible refine Below.drew ?_) | (with_reducible refine below_alloc ?_ _) | (with_reducible refine Below.alloc ?_ ?_ _) | (with_reducible refine Below.setCell ?_ ?_ _) | (with_reducible refine below_go ?_ (by with_reducible assumption)) | (with_reducible refine below_then (by with_reducible assumption) ?_ ?_) | go_size))⟩
          case measure => simp [intOf]; omega
      · go_wp2
        go_ret
        refine ⟨ret_bool ?_, hb⟩
        have hd : l = m := eq_of_upto (fun j hj => HT.out j hj) (by omega) (by have := HL.out; omega)
        simp [hd]
  · have hne : ((l.length : Int) != (m.length : Int)) = true := by simp; omega
    have hd : l ≠ m := fun e => hl (by rw [e])
    have HD := Lib.hid hd
    clear hd hl
    go_in
    go_wp2
    go_ret
    refine ⟨ret_bool ?_, by (repeat' (first | (with_reducible exact Below.refl _ _) | (with_reducible assumption) | (with_reducible refine below_drewN ?_ _) | (with_reducible refine Below.drew ?_) | (with_reducible refine below_alloc ?_ _) | (with_reducible refine Below.alloc ?_ ?_ _) | (with_reducible refine Below.setCell ?_ ?_ _) | (with_reducible refine below_go ?_ (by with_reducible assumption)) | (with_reducible refine below_then (by with_reducible assumption) ?_ ?_) | go_size))⟩
    simp [HD.out]
end Go.Proofs.YtidolgonmimicaaGreat
namespace Go.Proofs.YtidolgonmimicaaGreat
open Go.ChangeShapes Go.WideShapes Go.ChangeAt Go.RowKit Go.Deep
open Go.Maps (Keyed string_keyed)
theorem goodM_valid {nm : ByteArray} {st : Int} {l : List ByteArray} (h : goodM nm st l = true) : ∀ s ∈ l, isDash s = true ∨ validD s = true := fun s hs => by
  have h1 := (goodM_t h).2.2.2
  rw [allCh, List.all_eq_true] at h1
  obtain ⟨k, hk⟩ := List.getElem?_of_mem hs
  have h2 := h1 k (List.mem_range.2 (List.getElem?_eq_some_iff.1 hk).1)
  rw [okCh_at hk] at h2
  exact good_valid h2
theorem setx_own {P : Program} {α : Type} {e : α → List Value} {s : Nat} {E k t : TypeId} {w : World} {base b n c : Nat} {A : Option Addr} {l : List α} {S : List ByteArray} (h : Owned e s E w base A n c l) (g : SetX P w k t b S) : some b ≠ (Value.slice A n c).ownBlock := fun e1 => by
  obtain ⟨D, m, ⟨es, clock, hb, _⟩, _⟩ := g
  rcases h.2.2.2 with ⟨hv, _⟩ | ⟨g, cap, cur, hv, _, hh, _⟩
  · rw [hv] at e1; cases e1
  · rw [hv] at e1
    injection e1 with e1
    dsimp only at e1
    subst e1
    rw [hb] at hh
    cases hh
theorem map_own {P : Program} {α : Type} {e : α → List Value} {s : Nat} {E k : TypeId} {R : Value → Option (DataW Unit × List MemPlace)} {D : DataW Unit} {w : World} {base b n c m : Nat} {A : Option Addr} {l : List α} (h : Owned e s E w base A n c l) (g : w.ownsMap P k R b m D) : some b ≠ (Value.slice A n c).ownBlock := fun e1 => by
  obtain ⟨es, clock, hb, _⟩ := g
  rcases h.2.2.2 with ⟨hv, _⟩ | ⟨g, cap, cur, hv, _, hh, _⟩
  · rw [hv] at e1; cases e1
  · rw [hv] at e1
    injection e1 with e1
    dsimp only at e1
    subst e1
    rw [hb] at hh
    cases hh
theorem hC_step {D : DataW Unit} {left : Lit → Bool} {T : List ByteArray} {x : ByteArray} {y : DataW Unit} (h : Collected D left (T.map fun s => s.data.toList)) (hlk : left (.string x.data.toList) = true) (hat : ∀ zd, D.atKey (.string x.data.toList) zd = y) : Collected D (fun z => left z && !z.sameKey (.string x.data.toList)) ((T ++ [x]).map fun s => s.data.toList) := by
  have h1 := h.step hlk hat
  rw [List.map_append]
  exact h1
theorem strs_map {P : Program} {k t : TypeId} {w w' : World} {b : Nat} {A : Option Addr} {l S : List ByteArray} (h : Strs w A l) (g : SetX P w k t b S) (hg : w.grownBy w' (some b)) : Strs w' A l := by
  obtain ⟨D, m, ⟨es, clock, hm, _⟩, _⟩ := g
  refine ⟨h.1, h.2.1, fun hn => ?_⟩
  obtain ⟨b', o', hA, hb, hc⟩ := h.2.2 hn
  subst hA
  have hne : b' ≠ b := by
    intro e
    subst e
    obtain ⟨u, hu⟩ : ∃ u, (l.flatMap strE)[0]? = some u := ⟨_, List.getElem?_eq_getElem (by rw [flatMap_len strE_len]; omega)⟩
    have := hc 0 u hu
    simp [World.cell?, hm] at this
  exact ⟨b', o', rfl, Nat.lt_of_lt_of_le hb hg.size, fun j u hu => (hg.cell_far ⟨b', o' + j, none⟩ hb (fun e => by injection e with e; exact hne e)).trans (hc j u hu)⟩
theorem falTo_len (L : List ByteArray) (k : Nat) (h : k ≤ L.length) : (falTo L k).length ≤ L.length * L.length := by
  have : ∀ M : List ByteArray, (M.flatMap fun r => L.map fun s => timesS r (turnS s)).length = M.length * L.length := by
    intro M
    induction M with
    | nil => simp
    | cons a M ih => rw [List.flatMap_cons, List.length_append, ih, List.length_map, List.length_cons, Nat.succ_mul, Nat.add_comm]
  rw [falTo, this, List.length_take]
  exact Nat.mul_le_mul (by omega) (Nat.le_refl _)
theorem prodL_len (r : ByteArray) (L : List ByteArray) (k : Nat) : (prodL r L k).length ≤ L.length := by
  rw [prodL, List.length_map, List.length_take]; omega
theorem plainElem_bool_shape {P : Program} {e : TypeId} (he : P.underlying e = some .bool) {v : Value} {y : DataW Unit × List MemPlace} (hv : plainElem (H := Unit) P e v = some y) : ∃ c, v = .bool c := by
  unfold plainElem at hv
  rw [he] at hv
  cases v <;> simp at hv ⊢
theorem key_str_shape {P : Program} {k : TypeId} (hk : P.underlying k = some .string) {key : Value} {kl : Lit} (h : keyOf P k key = some kl) : ∃ x : ByteArray, key = .string x ∧ kl = .string x.data.toList := by
  obtain ⟨x, hx, hl, _⟩ := Maps.keyOf_str hk h
  exact ⟨⟨x.toArray⟩, by simpa [encStr] using hx, by simpa using hl⟩
set_option maxHeartbeats 1000000 in
set_option maxRecDepth 100000 in
theorem impl_leadTrue {A : Option Addr} {n c st : Nat} {nm : ByteArray} {l : List ByteArray} {w : World} (hn : l.length = n) (h : Strs w A l) (hz : n ≤ 1048576) (hs : ∀ s ∈ l, s.size ≤ 16777216) (hnm : nm.size ≤ 16777216) (h9 : st ≤ 1000) (hg : goodM nm (st : Int) l = true) :
    Calls Tryz.prog 107 #[.agg #[.string nm, .int .i64 st, .slice A n c]] w fun e w' => e = .returned (.bool (nodupB (leadL st l))) ∧ Below w.heap.size w w' := by
  have b0 : Below w.heap.size w (w.alloc (.cells ⟨[.string nm, .int .i64 st, .slice A n c]⟩ 25)) := by (repeat' (first | (with_reducible exact Below.refl _ _) | (with_reducible assumption) | (with_reducible refine below_drewN ?_ _) | (with_reducible refine Below.drew ?_) | (with_reducible refine below_alloc ?_ _) | (with_reducible refine Below.alloc ?_ ?_ _) | (with_reducible refine Below.setCell ?_ ?_ _) | (with_reducible refine below_go ?_ (by with_reducible assumption)) | (with_reducible refine below_then (by with_reducible assumption) ?_ ?_) | go_size))
  have K0 := Blk.at_ w 25 [.string nm, .int .i64 st, .slice A n c] (b := w.heap.size) rfl
  have HS := Lib.hid hs
  have HGV := Lib.hid (goodM_valid hg)
  have h38 := (goodM_st hg).1
  have hr8 : (roundsS st).size ≤ 8 := by rw [rounds_size st (by omega)]; exact h38.2
  have HR := Lib.hid (leadL_row h38.1 h38.2 l)
  have H0 := h.up b0
  have k0 := K0.cell 0; have k1 := K0.cell 1; have k2 := K0.cell 2
  simp only [List.getElem?_cons_zero, List.getElem?_cons_succ] at k0 k1 k2
  clear hg
  go_in
  go_upto_region 1 with fail
  obtain ⟨w0, hw0⟩ : ∃ u, u = (w.alloc (.cells #[.string nm, .int .i64 st, .slice A n c] 25)) := ⟨_, rfl⟩
  rw [← hw0] at b0 K0 H0 k0 k1 k2 ⊢
  clear hw0
  refine wp_region_still_tail 4 (by kernel_rfl) (by kernel_rfl) ?_
  simp only [List.take_succ_cons, List.take_zero, List.drop_succ_cons, List.drop_zero]
  repeat still_step
  still_call (turnC (impl_rounds h38.2))
  repeat still_step
  refine wpStill_nil ?_
  change wpList _ _ _ _ _ w0.drew
  go_wp2_with fail
  refine (impl_leadRows hr8 hn H0.drew hz HS.out HGV.out).mono ?_; rintro e w2 ⟨A2, c2, rfl, ho, hbd⟩
  have hb2 := below_of_drew hbd
  rw [← leadL_n hn] at ho
  go_wp2_with fail
  refine (impl_isTrue (by rw [leadL_len]; exact hn) ho (by omega) (fun s hs => by have h1 := (HR.out s hs).2; omega)).mono ?_; rintro e w3 ⟨rfl, hb3⟩
  go_wp2
  go_ret
  exact ⟨rfl, below_go (below_go b0 hb2) hb3⟩
set_option maxHeartbeats 1000000 in
theorem impl_IsLeadTrue {A : Option Addr} {n c st : Nat} {nm : ByteArray} {l : List ByteArray} {w : World} (hn : l.length = n) (h : Strs w A l) (hz : n ≤ 1048576) (hs : ∀ s ∈ l, s.size ≤ 16777216) (hnm : nm.size ≤ 16777216) (h9 : st ≤ 1000) :
    Calls Tryz.prog 28 #[.agg #[.string nm, .int .i64 st, .slice A n c]] w fun e w' => e = .returned (.tuple #[.bool (ltV nm st l), .bool (goodM nm (st : Int) l)]) ∧ Below w.heap.size w w' := by
  have b0 : Below w.heap.size w (w.alloc (.cells ⟨[.string nm, .int .i64 st, .slice A n c]⟩ 25)) := by (repeat' (first | (with_reducible exact Below.refl _ _) | (with_reducible assumption) | (with_reducible refine below_drewN ?_ _) | (with_reducible refine Below.drew ?_) | (with_reducible refine below_alloc ?_ _) | (with_reducible refine Below.alloc ?_ ?_ _) | (with_reducible refine Below.setCell ?_ ?_ _) | (with_reducible refine below_go ?_ (by with_reducible assumption)) | (with_reducible refine below_then (by with_reducible assumption) ?_ ?_) | go_size))
  have K0 := Blk.at_ w 25 [.string nm, .int .i64 st, .slice A n c] (b := w.heap.size) rfl
  have HQ : Hid (ltV nm st l = (goodM nm (st : Int) l && nodupB (leadL st l))) := Lib.hid rfl
  have hI : I64 (st : Int) := ⟨by omega, by omega⟩
  have H0 := h.up b0
  go_in
  go_wp2_with fail
  refine (impl_GoodMethod hn H0 hz hs hnm hI).mono ?_; rintro e w1 ⟨rfl, hb1⟩
  have K1 := K0.up hb1
  have H1 := H0.up hb1
  have B1 := below_go b0 hb1
  clear K0 H0 h b0 hb1
  rcases hg : goodM nm (st : Int) l
  · have e1 := Lib.hid (show ltV nm st l = false by rw [HQ.out, hg]; rfl)
    go_wp2
    go_ret2
    rw [e1.out, hg]
    exact ⟨rfl, B1⟩
  · have e1 := Lib.hid (show ltV nm st l = nodupB (leadL st l) by rw [HQ.out, hg]; rfl)
    have k0 := K1.cell 0; have k1 := K1.cell 1; have k2 := K1.cell 2
    simp only [List.getElem?_cons_zero, List.getElem?_cons_succ] at k0 k1 k2
    go_wp2_with fail
    refine (impl_leadTrue hn H1 hz hs hnm h9 hg).mono ?_; rintro e w2 ⟨rfl, hb2⟩
    go_wp2
    go_ret2
    rw [e1.out, hg]
    exact ⟨rfl, below_go B1 hb2⟩
set_option maxHeartbeats 2000000 in
set_option maxRecDepth 100000 in
theorem impl_falseSet {A : Option Addr} {n c st : Nat} {nm : ByteArray} {l : List ByteArray} {w : World} (hn : l.length = n) (h : Strs w A l) (hz : n ≤ 1048576) (hs : ∀ s ∈ l, s.size ≤ 16777216) (hnm : nm.size ≤ 16777216) (h9 : st ≤ 1000) (hg : goodM nm (st : Int) l = true) :
    Calls Tryz.prog 100 #[.agg #[.string nm, .int .i64 st, .slice A n c], .agg #[.string nm, .int .i64 st, .slice A n c]] w fun e w' => ∃ b, e = .returned (.map (some b)) ∧ SetX Tryz.prog w' 9 4 b (falL (leadL st l)) ∧ w.heap.size ≤ b ∧ Below w.heap.size w w' := by
  have b0 : Below w.heap.size w ((w.alloc (.cells ⟨[.string nm, .int .i64 st, .slice A n c]⟩ 25)).alloc (.cells ⟨[.string nm, .int .i64 st, .slice A n c]⟩ 25)) := by (repeat' (first | (with_reducible exact Below.refl _ _) | (with_reducible assumption) | (with_reducible refine below_drewN ?_ _) | (with_reducible refine Below.drew ?_) | (with_reducible refine below_alloc ?_ _) | (with_reducible refine Below.alloc ?_ ?_ _) | (with_reducible refine Below.setCell ?_ ?_ _) | (with_reducible refine below_go ?_ (by with_reducible assumption)) | (with_reducible refine below_then (by with_reducible assumption) ?_ ?_) | go_size))
  have K0 := (Blk.at_ w 25 [.string nm, .int .i64 st, .slice A n c] (b := w.heap.size) rfl).alloc (.cells ⟨[.string nm, .int .i64 st, .slice A n c]⟩ 25)
  have J0 := Blk.at_ (w.alloc (.cells ⟨[.string nm, .int .i64 st, .slice A n c]⟩ 25)) 25 [.string nm, .int .i64 st, .slice A n c] (b := w.heap.size + 1) (by simp)
  have hmm := @run_makeMap Tryz.prog
  have KS := string_keyed (P := Tryz.prog) (k := 9) Tryz.underlying9
  have HS := Lib.hid hs
  have HGV := Lib.hid (goodM_valid hg)
  have hgs := goodM_st hg
  have h38 := hgs.1
  have hr8 : (roundsS st).size ≤ 8 := by rw [rounds_size st (by omega)]; exact h38.2
  have HR := Lib.hid (leadL_row h38.1 h38.2 l)
  have H0 := h.up b0
  obtain ⟨L, hL1⟩ : ∃ u, u = leadL st l := ⟨_, rfl⟩
  have hLn : L.length = n := by rw [hL1, leadL_len]; exact hn
  rw [← hL1] at HR ⊢
  have HL1 := Lib.hid hL1
  have HLn := Lib.hid hLn
  have hn40 : n ≤ 40 := by omega
  clear hL1 hLn hgs hg
  go_in
  go_upto_region 2 with fail
  clear hmm
  obtain ⟨w0, hw0⟩ : ∃ u, u = ((w.alloc (.cells #[.string nm, .int .i64 st, .slice A n c] 25)).alloc (.cells #[.string nm, .int .i64 st, .slice A n c] 25)) := ⟨_, rfl⟩
  have z0 : w0.heap.size = w.heap.size + 2 := by rw [hw0]; simp
  rw [← hw0] at b0 K0 J0 H0 ⊢
  clear hw0
  have M0 : SetX Tryz.prog (w0.alloc (.map #[] 0)) 9 4 (w.heap.size + 2) [] := SetX.made_at _ _ _ _ z0.symm
  have a0 : Below w0.heap.size w0 (w0.alloc (.map #[] 0)) := by (repeat' (first | (with_reducible exact Below.refl _ _) | (with_reducible assumption) | (with_reducible refine below_drewN ?_ _) | (with_reducible refine Below.drew ?_) | (with_reducible refine below_alloc ?_ _) | (with_reducible refine Below.alloc ?_ ?_ _) | (with_reducible refine Below.setCell ?_ ?_ _) | (with_reducible refine below_go ?_ (by with_reducible assumption)) | (with_reducible refine below_then (by with_reducible assumption) ?_ ?_) | go_size))
  have K0 := K0.up a0
  have J0 := J0.up a0
  have H0 := H0.up a0
  have b0 := below_go b0 a0
  obtain ⟨w1, hw1⟩ : ∃ u, u = w0.alloc (.map #[] 0) := ⟨_, rfl⟩
  rw [← hw1] at K0 J0 H0 M0 b0 ⊢
  clear hw1 a0 z0
  have k0 := K0.cell 0; have k1 := K0.cell 1; have k2 := K0.cell 2
  simp only [List.getElem?_cons_zero, List.getElem?_cons_succ] at k0 k1 k2
  go_region_held3 (fun u => u.cell? ⟨w.heap.size, 0, none⟩ = some (.string nm) ∧ u.cell? ⟨w.heap.size, 1, none⟩ = some (.int .i64 (st : Int)) ∧ u.cell? ⟨w.heap.size, 2, none⟩ = some (.slice A n c)) (first | exact ⟨k0d, k1d, k2d⟩ | exact ⟨k0, k1, k2⟩) (first | (go_at_call 105; refine (impl_rounds h38.2).mono ?_; rintro e w' ⟨rfl, rfl⟩) | (go_at_call 104; refine (impl_leadRows hr8 hn H0.drew hz HS.out HGV.out).mono ?_; rintro e w2 ⟨A2, c2, rfl, ho2, hbd⟩; have hb2 := below_of_drew hbd; have K2 := K0.up hb2; have k0d := K2.cell 0; have k1d := K2.cell 1; have k2d := K2.cell 2; simp only [List.getElem?_cons_zero, List.getElem?_cons_succ] at k0d k1d k2d))
  rw [← leadL_n hn, ← HL1.out] at ho2
  have B2 := below_go b0 hb2
  have HM2 := Lib.hid (M0.up hb2)
  have R2 := Lib.hid ho2
  have HJ2 := Lib.hid (J0.up hb2)
  have HH2 := Lib.hid (H0.up hb2)
  clear K0 H0 J0 M0 ho2 hbd hb2 k0 k1 k2 k0d k1d k2d K2 h b0
  go_wp2
  go_loopw [17] (fun i wr => ∃ (k : Nat), k ≤ n ∧ i = .int .i64 k ∧ Hid (SetX Tryz.prog wr 9 4 (w.heap.size + 2) (falTo L k)) ∧ Hid (Strs wr A2 L) ∧ Hid (Blk wr (w.heap.size + 1) 25 [.string nm, .int .i64 st, .slice A n c]) ∧ Hid (Strs wr A l) ∧ Below w.heap.size w wr) (fun i _ => n - (intOf i).toNat)
  case atStart => exact ⟨0, Nat.zero_le _, rfl, Lib.hid (by rw [falTo_zero]; exact HM2.out), R2, HJ2, HH2, B2⟩
  case round =>
    obtain ⟨k, hk, rfl, HM, HR2, HJ, HH, hb⟩ := hrel
    rename World => wo
    have hszo := hb.size
    by_cases hlt : k < n
    · obtain ⟨b1, o1, x, hA2, _, hx, hcx⟩ := HR2.out.at_str (k := k) (by rw [HLn.out]; exact hlt)
      subst hA2
      have hxN := Lib.hid (HR.out x (List.mem_of_getElem? hx))
      have HTS := Lib.hid (falTo_succ hx)
      have hI : (k : Int) < (n : Int) := by omega
      have k0 := HJ.out.cell 0; have k1 := HJ.out.cell 1; have k2 := HJ.out.cell 2
      simp only [List.getElem?_cons_zero, List.getElem?_cons_succ] at k0 k1 k2
      have J0 := HJ.out
      clear hx
      go_upto_region 5 with fail
      go_region_held3 (fun u => u.cell? ⟨w.heap.size + 1, 0, none⟩ = some (.string nm) ∧ u.cell? ⟨w.heap.size + 1, 1, none⟩ = some (.int .i64 (st : Int)) ∧ u.cell? ⟨w.heap.size + 1, 2, none⟩ = some (.slice A n c)) (first | exact ⟨k0d, k1d, k2d⟩ | exact ⟨k0, k1, k2⟩) (first | (go_at_call 105; refine (impl_rounds h38.2).mono ?_; rintro e w' ⟨rfl, rfl⟩) | (go_at_call 104; refine (impl_leadRows hr8 hn HH.out.drew hz HS.out HGV.out).mono ?_; rintro e w3 ⟨A3, c3, rfl, ho3, hbd⟩; have hb3 := below_of_drew hbd; have K2 := J0.up hb3; have k0d := K2.cell 0; have k1d := K2.cell 1; have k2d := K2.cell 2; simp only [List.getElem?_cons_zero, List.getElem?_cons_succ] at k0d k1d k2d))
      rw [← leadL_n hn, ← HL1.out] at ho3
      have B3 := below_go hb hb3
      have HM3 := Lib.hid (HM.out.up hb3)
      have R3 := Lib.hid ho3
      have RO3 := Lib.hid (HR2.out.up hb3)
      have HJ3 := Lib.hid (HJ.out.up hb3)
      have HH3 := Lib.hid (HH.out.up hb3)
      clear ho3 hbd hb3 k0 k1 k2 k0d k1d k2d K2 J0
      go_wp2
      go_loopw [27] (fun i wr => ∃ (j : Nat), j ≤ n ∧ i = .int .i64 j ∧ Hid (SetX Tryz.prog wr 9 4 (w.heap.size + 2) (falTo L k ++ prodL x L j)) ∧ Hid (w3.grownBy wr (some (w.heap.size + 2)))) (fun i _ => n - (intOf i).toNat)
      case atStart => exact ⟨0, Nat.zero_le _, rfl, Lib.hid (by rw [prodL_zero, List.append_nil]; exact HM3.out), Lib.hid (grown_any (Below.refl _ _) _)⟩
      case round =>
        obtain ⟨j, hj, rfl, HMQ, HGQ⟩ := hrel
        rename World => wq
        have HRQ := Lib.hid (strs_map R3.out HM3.out HGQ.out)
        have hszq := HGQ.out.size
        by_cases hjt : j < n
        · obtain ⟨b2, o2, y, hA3, _, hy, hcy⟩ := HRQ.out.at_str (k := j) (by rw [HLn.out]; exact hjt)
          subst hA3
          have hyN := HR.out y (List.mem_of_getElem? hy)
          have HPS := Lib.hid (prodL_succ (r := x) hy)
          have HLB := Lib.hid (show (falTo L k ++ prodL x L j).length ≤ 16777216 by
            have h1 := falTo_len L k (by rw [HLn.out]; exact hk)
            have h2 := prodL_len x L j
            have h3 := HLn.out
            have h4 : L.length * L.length ≤ 40 * 40 := Nat.mul_le_mul (by omega) (by omega)
            rw [List.length_append]; omega)
          have hty := turn_rowN hyN
          have hft := rowN_fits hxN.out hty
          have hxs : x.size ≤ 16777216 := by have := hxN.out.2; omega
          have hts : (turnS y).size ≤ 16777216 := by have := hty.2; omega
          have hzs : (timesS x (turnS y)).size ≤ 16777216 := by have := (hxN.out.times hty).2; omega
          have HYG := Lib.hid hyN.1
          clear hy hyN hty
          go_wp2_with fail
          refine (impl_turned HYG.out).mono ?_; rintro e w5 ⟨rfl, hb5, _⟩
          go_wp2_with fail
          refine (impl_times hxs hts hft).mono ?_; rintro e w6 ⟨rfl, hb6⟩
          have HM6 := Lib.hid ((HMQ.out.up hb5).up hb6)
          have HG6 := Lib.hid (grownBy_trans (grownBy_trans HGQ.out (grown_any hb5 _)) (grown_any hb6 _))
          obtain ⟨z, hz⟩ : ∃ u, u = timesS x (turnS y) := ⟨_, rfl⟩
          rw [← hz] at HPS hzs ⊢
          clear hz hb5 hb6
          go_wp2_with (first | (at_mapUpdate; go_must ((refine wpList_setx_add rfl (.tmp 31) (.tmp 35) (.const (.bool true)) 110 rfl KS Tryz.underlying110 Tryz.underlying9 Tryz.underlying4 rfl HM6.out HLB.out rfl rfl hzs ?_; intro w8 hm8 hg8))))
          go_roundw
          case rel => exact ⟨j + 1, by omega, by go_num, Lib.hid (by rw [HPS.out, ← List.append_assoc]; exact hm8), Lib.hid (grownBy_trans HG6.out hg8)⟩
          case measure => simp [intOf]; omega
        · obtain rfl : j = n := by omega
          have hJ : ¬ (j : Int) < (j : Int) := by omega
          go_wp2
          go_roundw
          case rel => exact ⟨k + 1, by omega, by go_num, Lib.hid (by have h1 := HMQ.out; rw [HTS.out, HLn.out]; exact h1), Lib.hid (strs_map RO3.out HM3.out HGQ.out), Lib.hid (HJ3.out.grown HGQ.out (fun e => by injection e with e; omega)), Lib.hid (strs_map HH3.out HM3.out HGQ.out), B3.grown HGQ.out B3.size (fun z hz => by injection hz with hz; omega)⟩
          case measure => simp [intOf]; omega
    · obtain rfl : k = n := by omega
      have hI : ¬ (k : Int) < (k : Int) := by omega
      have HALL := Lib.hid (show falTo L k = falL L by rw [← HLn.out, falTo_all])
      go_wp2
      go_ret
      exact ⟨_, rfl, by rw [← HALL.out]; exact HM.out, by omega, hb⟩
set_option maxHeartbeats 1000000 in
set_option maxRecDepth 100000 in
theorem impl_IsFalseHead {A : Option Addr} {n c st : Nat} {nm : ByteArray} {l : List ByteArray} {f : ByteArray} {w : World} (hn : l.length = n) (h : Strs w A l) (hz : n ≤ 1048576) (hs : ∀ s ∈ l, s.size ≤ 16777216) (hnm : nm.size ≤ 16777216) (h9 : st ≤ 1000) (hf : f.size ≤ 16777216) :
    Calls Tryz.prog 22 #[.agg #[.string nm, .int .i64 st, .slice A n c], .string f] w fun e w' => e = .returned (.tuple #[.bool (fhV nm st l f), .bool (fhOk nm st l f)]) ∧ Below w.heap.size w w' := by
  have b0 : Below w.heap.size w (w.alloc (.cells ⟨[.string nm, .int .i64 st, .slice A n c]⟩ 25)) := by (repeat' (first | (with_reducible exact Below.refl _ _) | (with_reducible assumption) | (with_reducible refine below_drewN ?_ _) | (with_reducible refine Below.drew ?_) | (with_reducible refine below_alloc ?_ _) | (with_reducible refine Below.alloc ?_ ?_ _) | (with_reducible refine Below.setCell ?_ ?_ _) | (with_reducible refine below_go ?_ (by with_reducible assumption)) | (with_reducible refine below_then (by with_reducible assumption) ?_ ?_) | go_size))
  have K0 := Blk.at_ w 25 [.string nm, .int .i64 st, .slice A n c] (b := w.heap.size) rfl
  have KS := string_keyed (P := Tryz.prog) (k := 9) Tryz.underlying9
  have H0 := h.up b0
  have hI : I64 (st : Int) := ⟨by omega, by omega⟩
  have HQ : Hid (fhV nm st l f = (fhOk nm st l f && inL (falL (leadL st l)) f)) := Lib.hid rfl
  have HO : Hid (fhOk nm st l f = (goodM nm (st : Int) l && (goodRow f && (f.size == st)))) := Lib.hid rfl
  go_in
  go_wp2_with fail
  refine (impl_GoodMethod hn H0 hz hs hnm hI).mono ?_; rintro e w1 ⟨rfl, hb1⟩
  have K1 := K0.up hb1
  have H1 := H0.up hb1
  have B1 := below_go b0 hb1
  clear K0 H0 h b0 hb1
  rcases hg : goodM nm (st : Int) l
  · have e0 := Lib.hid (show fhOk nm st l f = false by rw [HO.out, hg]; rfl)
    have e1 := Lib.hid (show fhV nm st l f = false by rw [HQ.out, e0.out]; rfl)
    go_wp2
    go_ret2
    rw [e1.out, e0.out]
    exact ⟨rfl, B1⟩
  · have k0 := K1.cell 0; have k1 := K1.cell 1; have k2 := K1.cell 2
    simp only [List.getElem?_cons_zero, List.getElem?_cons_succ] at k0 k1 k2
    go_wp2_with fail
    refine (impl_isRowOf (n := st) hf).mono ?_; rintro e w' ⟨rfl, rfl⟩
    rcases hr : (goodRow f && (f.size == st))
    · have e0 := Lib.hid (show fhOk nm st l f = false by rw [HO.out, hr, Bool.and_false])
      have e1 := Lib.hid (show fhV nm st l f = false by rw [HQ.out, e0.out]; rfl)
      go_wp2
      go_ret2
      rw [e1.out, e0.out]
      exact ⟨rfl, B1⟩
    · have e0 := Lib.hid (show fhOk nm st l f = true by rw [HO.out, hr, hg]; rfl)
      have e1 := Lib.hid (show fhV nm st l f = inL (falL (leadL st l)) f by rw [HQ.out, e0.out]; rfl)
      go_wp2_with fail
      refine (impl_falseSet hn H1 hz hs hnm h9 hg).mono ?_; rintro e w2 ⟨b, rfl, hm, _, hb2⟩
      have lk := hm.look (t := 110) KS Tryz.underlying110 Tryz.underlying9 Tryz.underlying4 (by kernel_rfl) hf
      go_wp2
      go_ret2
      rw [e1.out, e0.out]
      exact ⟨rfl, below_go B1 hb2⟩
set_option maxHeartbeats 2000000 in
set_option maxRecDepth 100000 in
theorem impl_falseHeads {A : Option Addr} {n c st : Nat} {nm : ByteArray} {l : List ByteArray} {w : World} (hn : l.length = n) (h : Strs w A l) (hz : n ≤ 1048576) (hs : ∀ s ∈ l, s.size ≤ 16777216) (hnm : nm.size ≤ 16777216) (h9 : st ≤ 1000) (hg : goodM nm (st : Int) l = true) :
    Calls Tryz.prog 106 #[.agg #[.string nm, .int .i64 st, .slice A n c]] w fun e w' => ∃ A' m c', e = .returned (.slice A' m c') ∧ Owned strE 1 9 w' w.heap.size A' m c' (falS (leadL st l)) ∧ m ≤ 1600 ∧ Below w.heap.size w w' := by
  have b0 : Below w.heap.size w (w.alloc (.cells ⟨[.string nm, .int .i64 st, .slice A n c]⟩ 25)) := by (repeat' (first | (with_reducible exact Below.refl _ _) | (with_reducible assumption) | (with_reducible refine below_drewN ?_ _) | (with_reducible refine Below.drew ?_) | (with_reducible refine below_alloc ?_ _) | (with_reducible refine Below.alloc ?_ ?_ _) | (with_reducible refine Below.setCell ?_ ?_ _) | (with_reducible refine below_go ?_ (by with_reducible assumption)) | (with_reducible refine below_then (by with_reducible assumption) ?_ ?_) | go_size))
  have K0 := Blk.at_ w 25 [.string nm, .int .i64 st, .slice A n c] (b := w.heap.size) rfl
  have KS := string_keyed (P := Tryz.prog) (k := 9) Tryz.underlying9
  have HS := Lib.hid hs
  have hgs := goodM_st hg
  have h38 := hgs.1
  have HFR := Lib.hid (falL_row (leadL_row h38.1 h38.2 l))
  have HFL := Lib.hid (show (falL (leadL st l)).length ≤ 1600 by
    rw [fal_len, leadL_len]
    exact Nat.le_trans (Nat.mul_le_mul (show l.length ≤ 40 by omega) (show l.length ≤ 40 by omega)) (by decide))
  have HFO := Lib.hid (fun (K : List ByteArray) => @falS_of (leadL st l) K)
  have H0 := h.up b0
  have k0 := K0.cell 0; have k1 := K0.cell 1; have k2 := K0.cell 2
  simp only [List.getElem?_cons_zero, List.getElem?_cons_succ] at k0 k1 k2
  have k0d := (K0.alloc (.cells #[] 9)).cell 0; have k1d := (K0.alloc (.cells #[] 9)).cell 1; have k2d := (K0.alloc (.cells #[] 9)).cell 2
  simp only [List.getElem?_cons_zero, List.getElem?_cons_succ] at k0d k1d k2d
  have HE : Hid (Owned strE 1 9 ((w.alloc (.cells #[.string nm, .int .i64 st, .slice A n c] 25)).alloc (.cells #[] 9)) w.heap.size (some ⟨w.heap.size + 1, 0, none⟩) 0 0 []) := Lib.hid (by
    have h1 := Owned.empty (base := w.heap.size) (E := 9) strE_len (w.alloc (.cells #[.string nm, .int .i64 st, .slice A n c] 25)) (by simp)
    simpa using h1)
  have b1 : Below w.heap.size w ((w.alloc (.cells #[.string nm, .int .i64 st, .slice A n c] 25)).alloc (.cells #[] 9)) := by (repeat' (first | (with_reducible exact Below.refl _ _) | (with_reducible assumption) | (with_reducible refine below_drewN ?_ _) | (with_reducible refine Below.drew ?_) | (with_reducible refine below_alloc ?_ _) | (with_reducible refine Below.alloc ?_ ?_ _) | (with_reducible refine Below.setCell ?_ ?_ _) | (with_reducible refine below_go ?_ (by with_reducible assumption)) | (with_reducible refine below_then (by with_reducible assumption) ?_ ?_) | go_size))
  have H1 := h.up b1
  clear hgs
  go_in
  go_wp2_with fail
  refine (impl_falseSet hn H1 hz HS.out hnm h9 hg).mono ?_; rintro e w2 ⟨b, rfl, hm, hbb, hb2⟩
  have HO2 := Lib.hid (HE.out.up hb2)
  have B2 := below_go b1 hb2
  obtain ⟨S, hS⟩ : ∃ u, u = falL (leadL st l) := ⟨_, rfl⟩
  rw [← hS] at hm HFR HFL
  have HSE := Lib.hid hS
  obtain ⟨D, mm, hown, hmS, hsz, hD⟩ := hm
  have HD := Lib.hid hD
  have HOWN := Lib.hid hown
  have hmS2 : Maps.size D ≤ 1600 := by have := HFL.out; omega
  have hszB2 := B2.size
  clear HE H0 H1 h b0 b1 K0 k0 k1 k2 k0d k1d k2d hg hS hb2 hD hsz hmS
  go_wp2_with (first | (at_range; refine wpList_range_own _ rfl _ 110 rfl 9 4 KS Tryz.underlying110 _ b mm D rfl HOWN.out ?_; intro w3 hrg0 hg0 hs0))
  go_frame
  have HOO := Lib.hid (HO2.out.kept hg0 (fun k _ e => by cases e))
  have HRG := Lib.hid hrg0
  have HB3 := Lib.hid (B2.grown hg0 B2.size (fun j hj => by cases hj))
  clear hrg0 hg0 HO2 B2 hs0
  go_loopw [3] (fun v wr => ∃ (left : Lit → Bool) (cnt m : Nat) (A' : Option Addr) (c' : Nat) (T : List ByteArray), wr.ranges Tryz.prog 9 (plainElem Tryz.prog 4) b w2.heap.size mm D left cnt ∧ m + cnt ≤ Maps.size D ∧ v = .slice A' m c' ∧ A' ≠ none ∧ Hid (Owned strE 1 9 wr w.heap.size A' m c' T) ∧ Hid (Collected D left (T.map fun s => s.data.toList)) ∧ Hid (Below w.heap.size w wr))
    (fun _ wr => wr.rangeLeft b w2.heap.size)
  case atStart => exact ⟨_, _, 0, _, _, [], HRG.out, by omega, rfl, by simp, HOO, Lib.hid (Collected.start D), HB3⟩
  case round =>
    obtain ⟨left, cnt, m, A4, c4, T, hrg, hcs, rfl, hnn, HO, HC, HB⟩ := hrel
    rename World => wr
    have hszr := HB.out.size
    have HL := Lib.hid HO.out.len
    go_wp2_with (first
      | (at_next; refine wpList_next_ranges _ rfl _ rfl 9 KS (plainElem Tryz.prog 4) Value.string (fun v : Value => v) (fun key kl hk => by obtain ⟨x, hx, _⟩ := key_str_shape Tryz.underlying9 hk; exact ⟨x, hx⟩) (fun v y hv => ⟨v, rfl⟩) b w2.heap.size mm _ _ _ rfl hrg ?_ ?_))
    · intro hc0 hl0
      have HK := Lib.hid (HD.out.keys HOWN.out KS Tryz.underlying9 HC.out hl0 (fun s hs => by have h1 := (HFR.out s hs).2; omega))
      obtain ⟨g, rfl⟩ : ∃ g, A4 = some ⟨g, 0, none⟩ := by
        rcases HO.out.2.2.2 with ⟨hv, _⟩ | ⟨g, cap, cur, hv, _⟩
        · injection hv with hv _ _
          exact absurd hv hnn
        · injection hv with hv _ _
          exact ⟨g, hv⟩
      have hm16 : m ≤ 1600 := by omega
      go_wp2_with (first | (go_at_call 155; refine (sort_strs HO.out (by omega)).mono ?_; rintro e w7 ⟨rfl, T7, ho7, hp7, hs7, hg7⟩))
      have HFIN := Lib.hid (show T7 = falS (leadL st l) from HFO.out T7 ((hp7.nodup_iff).2 HK.out.1) (fun x => by rw [hp7.mem_iff, HK.out.2, HSE.out]) hs7)
      go_ret
      refine ⟨_, _, _, rfl, by rw [← HFIN.out]; exact ho7, hm16, HB.out.grown hg7 HB.out.size (fun j hj => by injection hj with hj; subst hj; exact (HO.out.blk rfl).1)⟩
    · intro x c kl yd yp w4 cnt2 hkey hlk hv hat hrg2 hlt hg2 hs2 hen
      obtain ⟨x', ex, rfl⟩ := key_str_shape Tryz.underlying9 hkey
      injection ex with ex
      subst ex
      have HO4 := Lib.hid (HO.out.kept hg2 (fun k hk e => by have h1 := row_ne_iter HO.out.2.2 hrg; rw [hk] at h1; exact h1 e))
      have HB4 := Lib.hid (HB.out.grown hg2 HB.out.size (fun j hj => by injection hj with hj; omega))
      have HCS := Lib.hid (hC_step HC.out hlk hat)
      have HR4 := Lib.hid hrg2
      have HLT := Lib.hid hlt
      have HLE := Lib.hid hrg.left_eq
      have hcs2 : m + 1 + cnt2 ≤ Maps.size D := by omega
      clear hs2 hat hlk hrg2 hrg
      have hsz4 := HB4.out.size
      go_wp2_with (first | (at_builtin; go_must ((refine wpList_append_recs Tryz.elStr strE_one rfl (.tmp 14) (.tmp 16) rfl rfl (HO4.out.alloc _) rfl (own_lit1_at' strE_len _ 9 x rfl (Nat.le_refl _)).recs rfl ?_ (by decide) ?_ ?_; (focus (first | omega | (simp only [World.size_alloc]; done) | (simp only [World.size_alloc]; omega) | (simp; done) | (simp; omega))); (focus (first | omega | (simp only [World.size_alloc]; done) | (simp only [World.size_alloc]; omega) | (simp; done) | (simp; omega))); intro A6 c6 w6 ho6 hg6 hl6))))
      have hb6 : Below w.heap.size w w6 := (HB4.out.alloc hsz4 _).trans (grown_base hg6 (by simp; omega) (fun z hz => (HO4.out.range z hz).1))
      have hrg6 := (HR4.out.alloc (.cells ⟨[Value.string x]⟩ 9)).kept hg6 (map_own (HO4.out.alloc (.cells ⟨[Value.string x]⟩ 9)) (HR4.out.alloc (.cells ⟨[Value.string x]⟩ 9)).owns) (row_ne_iter (HO4.out.alloc (.cells ⟨[Value.string x]⟩ 9)).2.2 (HR4.out.alloc (.cells ⟨[Value.string x]⟩ 9)))
      go_roundw
      case rel => exact ⟨_, cnt2, m + 1, A6, c6, T ++ [x], hrg6, hcs2, rfl, (fun e => by obtain ⟨g, e2, _⟩ := ho6.at_ (by omega); rw [e2] at e; cases e), Lib.hid ho6, HCS, Lib.hid hb6⟩
      case measure => rw [hrg6.left_eq, HLE.out]; exact HLT.out
set_option maxHeartbeats 1000000 in
theorem impl_FalseHeads {A : Option Addr} {n c st : Nat} {nm : ByteArray} {l : List ByteArray} {w : World} (hn : l.length = n) (h : Strs w A l) (hz : n ≤ 1048576) (hs : ∀ s ∈ l, s.size ≤ 16777216) (hnm : nm.size ≤ 16777216) (h9 : st ≤ 1000) :
    Calls Tryz.prog 26 #[.agg #[.string nm, .int .i64 st, .slice A n c]] w fun e w' => ∃ A' m c', e = .returned (.tuple #[.slice A' m c', .bool (fhsOk nm st l)]) ∧ Owned strE 1 9 w' w.heap.size A' m c' (fhsV nm st l) ∧ m ≤ 800 ∧ Below w.heap.size w w' := by
  have b0 : Below w.heap.size w (w.alloc (.cells ⟨[.string nm, .int .i64 st, .slice A n c]⟩ 25)) := by (repeat' (first | (with_reducible exact Below.refl _ _) | (with_reducible assumption) | (with_reducible refine below_drewN ?_ _) | (with_reducible refine Below.drew ?_) | (with_reducible refine below_alloc ?_ _) | (with_reducible refine Below.alloc ?_ ?_ _) | (with_reducible refine Below.setCell ?_ ?_ _) | (with_reducible refine below_go ?_ (by with_reducible assumption)) | (with_reducible refine below_then (by with_reducible assumption) ?_ ?_) | go_size))
  have K0 := Blk.at_ w 25 [.string nm, .int .i64 st, .slice A n c] (b := w.heap.size) rfl
  have H0 := h.up b0
  have hI : I64 (st : Int) := ⟨by omega, by omega⟩
  have HQ : Hid (fhsOk nm st l = (goodM nm (st : Int) l && decide ((falS (leadL st l)).length ≤ 800))) := Lib.hid rfl
  have HF : Hid (fhsOk nm st l = false → fhsV nm st l = []) := Lib.hid (fun e => by rw [fhsV, if_neg (by rw [e]; simp)])
  have HT : Hid (fhsOk nm st l = true → fhsV nm st l = falS (leadL st l)) := Lib.hid (fun e => by rw [fhsV, if_pos e])
  go_in
  go_wp2_with fail
  refine (impl_GoodMethod hn H0 hz hs hnm hI).mono ?_; rintro e w1 ⟨rfl, hb1⟩
  have K1 := K0.up hb1
  have H1 := H0.up hb1
  have B1 := below_go b0 hb1
  clear K0 H0 h b0 hb1
  rcases hg : goodM nm (st : Int) l
  · have e1 := Lib.hid (show fhsOk nm st l = false by rw [HQ.out, hg]; rfl)
    go_wp2
    go_ret2
    rw [HF.out e1.out, e1.out]
    exact ⟨none, 0, 0, rfl, Owned.nil strE_len _ _ _, by omega, B1⟩
  · have k0 := K1.cell 0; have k1 := K1.cell 1; have k2 := K1.cell 2
    simp only [List.getElem?_cons_zero, List.getElem?_cons_succ] at k0 k1 k2
    go_wp2_with fail
    refine (impl_falseHeads hn H1 hz hs hnm h9 hg).mono ?_; rintro e w2 ⟨A2, m, c2, rfl, ho, hm, hb2⟩
    have e0 := Lib.hid ho.len
    by_cases hm8 : m ≤ 800
    · have e1 := Lib.hid (show fhsOk nm st l = true by rw [HQ.out, hg, e0.out, decide_eq_true hm8]; rfl)
      have hI8 : ¬ (800 : Int) < (m : Int) := by omega
      go_wp2
      go_ret2
      rw [HT.out e1.out, e1.out]
      exact ⟨_, _, _, rfl, ho.base_le B1.size, hm8, below_go B1 hb2⟩
    · have e1 := Lib.hid (show fhsOk nm st l = false by rw [HQ.out, hg, e0.out, decide_eq_false hm8]; rfl)
      have hI8 : (800 : Int) < (m : Int) := by omega
      go_wp2
      go_ret2
      rw [HF.out e1.out, e1.out]
      exact ⟨none, 0, 0, rfl, Owned.nil strE_len _ _ _, by omega, below_go B1 hb2⟩
set_option maxHeartbeats 1000000 in
set_option maxRecDepth 100000 in
theorem impl_meeting {A B : Option Addr} {n c m d : Nat} {L M : List ByteArray} {w : World} (hn : L.length = n) (h : Strs w A L) (hm : M.length = m) (g : Strs w B M) (hz : n ≤ 1048576) (hy : m ≤ 1048576) (hL : ∀ s ∈ L, s.size ≤ 16777216) (hM : ∀ s ∈ M, s.size ≤ 16777216) :
    Calls Tryz.prog 103 #[.slice A n c, .slice B m d] w fun e w' => ∃ A' q c', e = .returned (.slice A' q c') ∧ Owned strE 1 9 w' w.heap.size A' q c' (meetL L M) ∧ q ≤ n ∧ Below w.heap.size w w' := by
  have hmm := @run_makeMap Tryz.prog
  have KS := string_keyed (P := Tryz.prog) (k := 9) Tryz.underlying9
  have HL := Lib.hid hL
  have HM := Lib.hid hM
  have HA := Lib.hid h
  have HB := Lib.hid g
  have HLn := Lib.hid hn
  have HMn := Lib.hid hm
  have M0 := Lib.hid (SetX.made Tryz.prog w 9 4)
  clear hL hM h g hn hm
  go_in
  go_wp2
  clear hmm
  go_loopw [14] (fun i wr => ∃ (k : Nat), k ≤ m ∧ i = .int .i64 k ∧ Hid (SetX Tryz.prog wr 9 4 w.heap.size (M.take k)) ∧ Hid (Below w.heap.size w wr)) (fun i _ => m - (intOf i).toNat)
  case atStart => exact ⟨0, Nat.zero_le _, rfl, Lib.hid (by simpa using M0.out), Lib.hid (by (repeat' (first | (with_reducible exact Below.refl _ _) | (with_reducible assumption) | (with_reducible refine below_drewN ?_ _) | (with_reducible refine Below.drew ?_) | (with_reducible refine below_alloc ?_ _) | (with_reducible refine Below.alloc ?_ ?_ _) | (with_reducible refine Below.setCell ?_ ?_ _) | (with_reducible refine below_go ?_ (by with_reducible assumption)) | (with_reducible refine below_then (by with_reducible assumption) ?_ ?_) | go_size)))⟩
  case round =>
    obtain ⟨k, hk, rfl, HS, Hb⟩ := hrel
    rename World => wr
    by_cases hlt : k < m
    · obtain ⟨b1, o1, x, hA, _, hx, hcx⟩ := (HB.out.below Hb.out (Nat.le_refl _)).at_str (k := k) (by rw [HMn.out]; exact hlt)
      subst hA
      have hxz := HM.out x (List.mem_of_getElem? hx)
      have HTK := Lib.hid (take_succ_some hx)
      have HLE := Lib.hid (show (M.take k).length ≤ 16777216 by rw [List.length_take]; omega)
      clear hx
      go_wp2_with (first | (at_mapUpdate; go_must ((refine wpList_setx_add rfl (.tmp 18) (.tmp 19) (.const (.bool true)) 110 rfl KS Tryz.underlying110 Tryz.underlying9 Tryz.underlying4 rfl HS.out HLE.out rfl rfl hxz ?_; intro w8 hm8 hg8))))
      go_roundw
      case rel => exact ⟨k + 1, by omega, by go_num, Lib.hid (by rw [HTK.out]; exact hm8), Lib.hid (Hb.out.grown hg8 Hb.out.size (fun j hj => by injection hj with hj; omega))⟩
      case measure => simp [intOf]; omega
    · obtain rfl : k = m := by omega
      have hI : ¬ (k : Int) < (k : Int) := by omega
      have HS2 : Hid (SetX Tryz.prog (wr.alloc (.cells #[] 9)) 9 4 w.heap.size M) := Lib.hid (by
        have h1 := HS.out
        rw [List.take_of_length_le (by rw [HMn.out]; omega)] at h1
        exact h1.alloc _)
      have HE := Lib.hid (Owned.empty (base := w.heap.size) (E := 9) strE_len wr Hb.out.size)
      have HB2 : Hid (Below w.heap.size w (wr.alloc (.cells #[] 9))) := Lib.hid (by have h1 := Hb.out; (repeat' (first | (with_reducible exact Below.refl _ _) | (with_reducible assumption) | (with_reducible refine below_drewN ?_ _) | (with_reducible refine Below.drew ?_) | (with_reducible refine below_alloc ?_ _) | (with_reducible refine Below.alloc ?_ ?_ _) | (with_reducible refine Below.setCell ?_ ?_ _) | (with_reducible refine below_go ?_ (by with_reducible assumption)) | (with_reducible refine below_then (by with_reducible assumption) ?_ ?_) | go_size)))
      clear HS Hb HB HM HMn
      go_wp2
      go_loopw [8, 24] (fun v i wq => ∃ (j q : Nat) (A' : Option Addr) (c' : Nat), j ≤ n ∧ i = .int .i64 j ∧ v = .slice A' q c' ∧ q ≤ j ∧ Hid (Owned strE 1 9 wq w.heap.size A' q c' (meetL (L.take j) M)) ∧ Hid (SetX Tryz.prog wq 9 4 w.heap.size M) ∧ Hid (Below w.heap.size w wq)) (fun _ i _ => n - (intOf i).toNat)
      case atStart => exact ⟨0, 0, _, _, Nat.zero_le _, rfl, rfl, Nat.le_refl _, HE, HS2, HB2⟩
      case round =>
        obtain ⟨j, q, A4, c4, hj, rfl, rfl, hqj, HO, HS, Hb⟩ := hrel
        rename World => wq
        have hszq := Hb.out.size
        by_cases hjt : j < n
        · obtain ⟨b1, o1, x, hA, _, hx, hcx⟩ := (HA.out.below Hb.out (Nat.le_refl _)).at_str (k := j) (by rw [HLn.out]; exact hjt)
          subst hA
          have hxz := HL.out x (List.mem_of_getElem? hx)
          have HMS := Lib.hid (meetL_succ (M := M) hx)
          have lk := HS.out.look (t := 110) KS Tryz.underlying110 Tryz.underlying9 Tryz.underlying4 (by kernel_rfl) hxz
          clear hx
          rcases hin : inL M x
          · have e1 := Lib.hid (show meetL (L.take (j + 1)) M = meetL (L.take j) M by rw [HMS.out, hin]; simp)
            rw [hin] at lk
            go_wp2
            go_roundw
            case rel => exact ⟨j + 1, q, A4, c4, by omega, by go_num, rfl, by omega, Lib.hid (by rw [e1.out]; exact HO.out), HS, Hb⟩
            case measure => simp [intOf]; omega
          · have e1 := Lib.hid (show meetL (L.take (j + 1)) M = meetL (L.take j) M ++ [x] by rw [HMS.out, hin]; simp)
            rw [hin] at lk
            have HO5 := Lib.hid (HO.out.alloc (.cells ⟨[Value.string x]⟩ 9))
            have HS5 := Lib.hid (HS.out.alloc (.cells ⟨[Value.string x]⟩ 9))
            go_wp2_with (first | (at_builtin; go_must ((refine wpList_append_recs Tryz.elStr strE_one rfl (.tmp 31) (.tmp 33) rfl rfl HO5.out rfl (own_lit1_at' strE_len _ 9 x rfl (Nat.le_refl _)).recs rfl ?_ (by decide) ?_ ?_; (focus (first | omega | (simp only [World.size_alloc]; done) | (simp only [World.size_alloc]; omega) | (simp; done) | (simp; omega))); (focus (first | omega | (simp only [World.size_alloc]; done) | (simp only [World.size_alloc]; omega) | (simp; done) | (simp; omega))); intro A6 c6 w6 ho6 hg6 hl6))))
            have hb6 : Below w.heap.size w w6 := (Hb.out.alloc hszq _).trans (grown_base hg6 (by simp; omega) (fun z hz => (HO.out.range z hz).1))
            have hs6 := HS5.out.kept hg6 (setx_own HO5.out HS5.out)
            go_roundw
            case rel => exact ⟨j + 1, q + 1, A6, c6, by omega, by go_num, rfl, by omega, Lib.hid (by rw [e1.out]; exact ho6), Lib.hid hs6, Lib.hid hb6⟩
            case measure => simp [intOf]; omega
        · obtain rfl : j = n := by omega
          have hJ : ¬ (j : Int) < (j : Int) := by omega
          have e1 := Lib.hid (show meetL (L.take j) M = meetL L M by rw [List.take_of_length_le (by rw [HLn.out]; omega)])
          go_wp2
          go_ret
          refine ⟨_, _, _, rfl, by rw [← e1.out]; exact HO.out, hqj, Hb.out⟩
set_option maxHeartbeats 2000000 in
set_option maxRecDepth 100000 in
theorem impl_SharedRows {A : Option Addr} {n c st : Nat} {nm : ByteArray} {l : List ByteArray} {f : ByteArray} {w : World} (hn : l.length = n) (h : Strs w A l) (hz : n ≤ 1048576) (hs : ∀ s ∈ l, s.size ≤ 16777216) (hnm : nm.size ≤ 16777216) (h9 : st ≤ 1000) (hf : f.size ≤ 16777216) :
    Calls Tryz.prog 24 #[.agg #[.string nm, .int .i64 st, .slice A n c], .string f] w fun e w' => ∃ A' m c', e = .returned (.tuple #[.slice A' m c', .bool (fhOk nm st l f)]) ∧ Owned strE 1 9 w' w.heap.size A' m c' (shV nm st l f) ∧ m ≤ 40 ∧ Below w.heap.size w w' := by
  have b0 : Below w.heap.size w (w.alloc (.cells ⟨[.string nm, .int .i64 st, .slice A n c]⟩ 25)) := by (repeat' (first | (with_reducible exact Below.refl _ _) | (with_reducible assumption) | (with_reducible refine below_drewN ?_ _) | (with_reducible refine Below.drew ?_) | (with_reducible refine below_alloc ?_ _) | (with_reducible refine Below.alloc ?_ ?_ _) | (with_reducible refine Below.setCell ?_ ?_ _) | (with_reducible refine below_go ?_ (by with_reducible assumption)) | (with_reducible refine below_then (by with_reducible assumption) ?_ ?_) | go_size))
  have K0 := Blk.at_ w 25 [.string nm, .int .i64 st, .slice A n c] (b := w.heap.size) rfl
  have H0 := h.up b0
  have HS := Lib.hid hs
  have hI : I64 (st : Int) := ⟨by omega, by omega⟩
  have HO : Hid (fhOk nm st l f = (goodM nm (st : Int) l && (goodRow f && (f.size == st)))) := Lib.hid rfl
  have HF : Hid (fhOk nm st l f = false → shV nm st l f = []) := Lib.hid (fun e => by rw [shV, if_neg (by rw [e]; simp)])
  have HT : Hid (fhOk nm st l f = true → shV nm st l f = meetL (leadL st l) ((leadL st l).map (timesS f))) := Lib.hid (fun e => by rw [shV, if_pos e])
  go_in
  go_wp2_with fail
  refine (impl_GoodMethod hn H0 hz hs hnm hI).mono ?_; rintro e w1 ⟨rfl, hb1⟩
  have K1 := K0.up hb1
  have H1 := H0.up hb1
  have B1 := below_go b0 hb1
  clear K0 H0 h b0 hb1
  rcases hg : goodM nm (st : Int) l
  · have e0 := Lib.hid (show fhOk nm st l f = false by rw [HO.out, hg]; rfl)
    go_wp2
    go_ret2
    rw [HF.out e0.out, e0.out]
    exact ⟨none, 0, 0, rfl, Owned.nil strE_len _ _ _, by omega, B1⟩
  · have k0 := K1.cell 0; have k1 := K1.cell 1; have k2 := K1.cell 2
    simp only [List.getElem?_cons_zero, List.getElem?_cons_succ] at k0 k1 k2
    go_wp2_with fail
    refine (impl_isRowOf (n := st) hf).mono ?_; rintro e w' ⟨rfl, rfl⟩
    rcases hr : (goodRow f && (f.size == st))
    · have e0 := Lib.hid (show fhOk nm st l f = false by rw [HO.out, hr, Bool.and_false])
      go_wp2
      go_ret2
      rw [HF.out e0.out, e0.out]
      exact ⟨none, 0, 0, rfl, Owned.nil strE_len _ _ _, by omega, B1⟩
    · have e0 := Lib.hid (show fhOk nm st l f = true by rw [HO.out, hr, hg]; rfl)
      have ht := fhOk_t e0.out
      have h38 := ht.2.2.1
      have hfN := ht.2.1
      have HGV := Lib.hid (goodM_valid hg)
      have hn40 : n ≤ 40 := by have := goodM_st hg; omega
      have hr8 : (roundsS st).size ≤ 8 := by rw [rounds_size st (by omega)]; exact h38.2
      have hf8 : f.size ≤ 8 := by rw [hfN.2]; exact h38.2
      have HR := leadL_row h38.1 h38.2 l
      have HLZ := Lib.hid (fun s (hs : s ∈ leadL st l) => show s.size ≤ 16777216 from by have h1 := (HR s hs).2; omega)
      have HMZ := Lib.hid (fun s (hs : s ∈ (leadL st l).map (timesS f)) => show s.size ≤ 16777216 from by
        obtain ⟨x, hx, rfl⟩ := List.mem_map.1 hs
        have h1 := (hfN.times (HR x hx)).2; omega)
      have HLn := Lib.hid (show (leadL st l).length = n by rw [leadL_len]; exact hn)
      have HMn := Lib.hid (show ((leadL st l).map (timesS f)).length = n by rw [List.length_map, leadL_len]; exact hn)
      have HL1 := Lib.hid (leadL_n (st := st) hn)
      have HM1 := Lib.hid (show rowsL f l n = (leadL st l).map (timesS f) by rw [rowsL_times hfN, ← leadL_n hn])
      have carry : Hid (∀ u : World, Below w1.heap.size w1 u → u.cell? ⟨w.heap.size, 0, none⟩ = some (.string nm) ∧ u.cell? ⟨w.heap.size, 1, none⟩ = some (.int .i64 (st : Int)) ∧ u.cell? ⟨w.heap.size, 2, none⟩ = some (.slice A n c)) := Lib.hid (fun u hu => by
        have L0 := K1.up hu
        exact ⟨by simpa using L0.cell 0, by simpa using L0.cell 1, by simpa using L0.cell 2⟩)
      clear hr HR ht hfN K1 k0 k1 k2
      have k0 := (carry.out _ (Below.refl _ _)).1; have k1 := (carry.out _ (Below.refl _ _)).2.1; have k2 := (carry.out _ (Below.refl _ _)).2.2
      go_upto_region 3 with fail
      go_region_held3 (fun u => u.cell? ⟨w.heap.size, 0, none⟩ = some (.string nm) ∧ u.cell? ⟨w.heap.size, 1, none⟩ = some (.int .i64 (st : Int)) ∧ u.cell? ⟨w.heap.size, 2, none⟩ = some (.slice A n c)) (first | exact carry.out _ hbW | exact carry.out _ hbZ | exact carry.out _ hbY | exact carry.out _ (Below.refl _ _).drew | exact carry.out _ (Below.refl _ _)) (first
        | (go_at_call 105; refine (impl_rounds h38.2).mono ?_; rintro e w' ⟨rfl, rfl⟩)
        | (go_at_call 104; with_reducible refine (impl_leadRows (a := f) hf8 hn HR2.out hz HS.out HGV.out).mono ?_; rintro e w5 ⟨A5, c5, rfl, ho5, hbd⟩; have hbZ := below_go hbY hbd; have RL := Lib.hid (RLa.out.up hbd); have RM := Lib.hid (show Strs w5 A5 ((leadL st l).map (timesS f)) by rw [← HM1.out]; exact ho5))
        | (go_at_call 104; with_reducible refine (impl_leadRows (a := roundsS st) hr8 hn HF2.out hz HS.out HGV.out).mono ?_; rintro e w5 ⟨A5, c5, rfl, ho5, hbd⟩; have hbZ := below_go hbY hbd; have RM := Lib.hid (RMa.out.up hbd); have RL := Lib.hid (show Strs w5 A5 (leadL st l) by rw [HL1.out]; exact ho5))
        | (go_at_call 104; with_reducible refine (impl_leadRows (a := roundsS st) hr8 hn H1.drew hz HS.out HGV.out).mono ?_; rintro e w4 ⟨A4, c4, rfl, ho4, hbd⟩; have hbY := below_of_drew hbd; have HR2 := Lib.hid (H1.up hbY); have RLa := Lib.hid (show Strs w4 A4 (leadL st l) by rw [HL1.out]; exact ho4))
        | (go_at_call 104; with_reducible refine (impl_leadRows (a := f) hf8 hn H1.drew hz HS.out HGV.out).mono ?_; rintro e w4 ⟨A4, c4, rfl, ho4, hbd⟩; have hbY := below_of_drew hbd; have HF2 := Lib.hid (H1.up hbY); have RMa := Lib.hid (show Strs w4 A4 ((leadL st l).map (timesS f)) by rw [← HM1.out]; exact ho4))
        | (go_at_call 103; with_reducible refine (impl_meeting HLn.out RL.out HMn.out RM.out (by omega) (by omega) HLZ.out HMZ.out).mono ?_; rintro e w6 ⟨A6, m6, c6, rfl, ho6, hm6, hb6⟩; have hbW := below_go hbZ hb6))
      all_goals
        go_wp2
        go_ret2
        rw [HT.out e0.out, e0.out]
        exact ⟨_, _, _, rfl, ho6.base_le (Nat.le_trans B1.size hbZ.size), by omega, below_go B1 hbW⟩
set_option maxHeartbeats 1000000 in
set_option maxRecDepth 100000 in
theorem impl_SameFalse {A B : Option Addr} {n c st n2 c2 sb : Nat} {nm nb : ByteArray} {l lb : List ByteArray} {w : World} (hn : l.length = n) (h : Strs w A l) (hz : n ≤ 1048576) (hs : ∀ s ∈ l, s.size ≤ 16777216) (hnm : nm.size ≤ 16777216) (h9 : st ≤ 1000) (hn2 : lb.length = n2) (g : Strs w B lb) (hz2 : n2 ≤ 1048576) (hs2 : ∀ s ∈ lb, s.size ≤ 16777216) (hnb : nb.size ≤ 16777216) (h92 : sb ≤ 1000) :
    Calls Tryz.prog 31 #[.agg #[.string nm, .int .i64 st, .slice A n c], .agg #[.string nb, .int .i64 sb, .slice B n2 c2]] w fun e w' => e = .returned (.tuple #[.bool (sfV nm st l nb sb lb), .bool (sfOk nm st l nb sb lb)]) ∧ Below w.heap.size w w' := by
  have b0 : Below w.heap.size w ((w.alloc (.cells ⟨[.string nm, .int .i64 st, .slice A n c]⟩ 25)).alloc (.cells ⟨[.string nb, .int .i64 sb, .slice B n2 c2]⟩ 25)) := by (repeat' (first | (with_reducible exact Below.refl _ _) | (with_reducible assumption) | (with_reducible refine below_drewN ?_ _) | (with_reducible refine Below.drew ?_) | (with_reducible refine below_alloc ?_ _) | (with_reducible refine Below.alloc ?_ ?_ _) | (with_reducible refine Below.setCell ?_ ?_ _) | (with_reducible refine below_go ?_ (by with_reducible assumption)) | (with_reducible refine below_then (by with_reducible assumption) ?_ ?_) | go_size))
  have K0 := (Blk.at_ w 25 [.string nm, .int .i64 st, .slice A n c] (b := w.heap.size) rfl).alloc (.cells ⟨[.string nb, .int .i64 sb, .slice B n2 c2]⟩ 25)
  have J0 := Blk.at_ (w.alloc (.cells ⟨[.string nm, .int .i64 st, .slice A n c]⟩ 25)) 25 [.string nb, .int .i64 sb, .slice B n2 c2] (b := w.heap.size + 1) (by simp)
  have H0 := h.up b0
  have G0 := g.up b0
  have HO : Hid (sfOk nm st l nb sb lb = ((fhsOk nm st l && fhsOk nb sb lb) && decide (st = sb))) := Lib.hid rfl
  have HV : Hid (sfV nm st l nb sb lb = (sfOk nm st l nb sb lb && decide (falS (leadL st l) = falS (leadL sb lb)))) := Lib.hid rfl
  have HF1 : Hid (fhsOk nm st l = true → fhsV nm st l = falS (leadL st l)) := Lib.hid (fun e => by rw [fhsV, if_pos e])
  have HF2 : Hid (fhsOk nb sb lb = true → fhsV nb sb lb = falS (leadL sb lb)) := Lib.hid (fun e => by rw [fhsV, if_pos e])
  go_in
  go_wp2_with fail
  refine (impl_FalseHeads (nm := nm) (st := st) hn H0 hz hs hnm h9).mono ?_; rintro e w1 ⟨A1, m1, c1, rfl, ho1, hm1, hb1⟩
  have K1 := K0.up hb1
  have J1 := J0.up hb1
  have G1 := G0.up hb1
  have B1 := below_go b0 hb1
  have j0 := J1.cell 0; have j1 := J1.cell 1; have j2 := J1.cell 2
  simp only [List.getElem?_cons_zero, List.getElem?_cons_succ] at j0 j1 j2
  clear K0 J0 H0 G0 h g b0 hb1
  go_wp2_with fail
  refine (impl_FalseHeads (nm := nb) (st := sb) hn2 G1 hz2 hs2 hnb h92).mono ?_; rintro e w2 ⟨A2, m2, d2, rfl, ho2, hm2, hb2⟩
  have K2 := K1.up hb2
  have J2 := J1.up hb2
  have B2 := below_go B1 hb2
  have R1 := ho1.recs.up hb2
  have R2 := ho2.recs
  have k1 := K2.cell 1; have j1' := J2.cell 1
  simp only [List.getElem?_cons_zero, List.getElem?_cons_succ] at k1 j1'
  have HL1 := Lib.hid ho1.len
  have HL2 := Lib.hid ho2.len
  clear K1 J1 G1 B1 hb2 j0 j1 j2 ho1 ho2
  rcases hf1 : fhsOk nm st l
  · have e0 := Lib.hid (show sfOk nm st l nb sb lb = false by rw [HO.out, hf1]; rfl)
    have e1 := Lib.hid (show sfV nm st l nb sb lb = false by rw [HV.out, e0.out]; rfl)
    go_wp2
    go_ret2
    rw [e1.out, e0.out]
    exact ⟨rfl, B2⟩
  · rcases hf2 : fhsOk nb sb lb
    · have e0 := Lib.hid (show sfOk nm st l nb sb lb = false by rw [HO.out, hf2, Bool.and_false]; rfl)
      have e1 := Lib.hid (show sfV nm st l nb sb lb = false by rw [HV.out, e0.out]; rfl)
      go_wp2
      go_ret2
      rw [e1.out, e0.out]
      exact ⟨rfl, B2⟩
    · by_cases hst : st = sb
      · have e0 := Lib.hid (show sfOk nm st l nb sb lb = true by rw [HO.out, hf1, hf2, decide_eq_true hst]; rfl)
        have e1 := Lib.hid (show sfV nm st l nb sb lb = decide (fhsV nm st l = fhsV nb sb lb) by rw [HV.out, e0.out, HF1.out hf1, HF2.out hf2]; rfl)
        have hbe : ((st : Int) != (sb : Int)) = false := by simp; omega
        clear hst
        go_wp2_with fail
        refine (equal_strs A1 A2 m1 m2 c1 d2 _ _ w2 HL1.out HL2.out R1 R2 (by omega) (by omega)).mono ?_; rintro e w3 ⟨rfl, hb3⟩
        go_wp2
        go_ret2
        rw [e1.out, e0.out]
        exact ⟨rfl, below_go B2 hb3⟩
      · have e0 := Lib.hid (show sfOk nm st l nb sb lb = false by rw [HO.out, decide_eq_false hst, Bool.and_false])
        have e1 := Lib.hid (show sfV nm st l nb sb lb = false by rw [HV.out, e0.out]; rfl)
        have hbe : ((st : Int) != (sb : Int)) = true := by simp; omega
        go_wp2
        go_ret2
        rw [e1.out, e0.out]
        exact ⟨rfl, B2⟩
set_option maxHeartbeats 1000000 in
theorem spec_SameFalse {A B : Option Addr} {n c st n2 c2 sb : Nat} {nm nb : ByteArray} {l lb : List ByteArray} {w : World} (hn : l.length = n) (h : Strs w A l) (hz : n ≤ 1048576) (hs : ∀ s ∈ l, s.size ≤ 16777216) (hnm : nm.size ≤ 16777216) (h9 : st ≤ 1000) (hn2 : lb.length = n2) (g : Strs w B lb) (hz2 : n2 ≤ 1048576) (hs2 : ∀ s ∈ lb, s.size ≤ 16777216) (hnb : nb.size ≤ 16777216) (h92 : sb ≤ 1000) :
    Calls Tryz.prog 32 #[.agg #[.string nm, .int .i64 st, .slice A n c], .agg #[.string nb, .int .i64 sb, .slice B n2 c2]] w fun e w' => e = .returned (.tuple #[.bool (sfV nm st l nb sb lb), .bool (sfOk nm st l nb sb lb)]) ∧ Below w.heap.size w w' := by
  have b0 : Below w.heap.size w ((w.alloc (.cells ⟨[.string nm, .int .i64 st, .slice A n c]⟩ 25)).alloc (.cells ⟨[.string nb, .int .i64 sb, .slice B n2 c2]⟩ 25)) := by (repeat' (first | (with_reducible exact Below.refl _ _) | (with_reducible assumption) | (with_reducible refine below_drewN ?_ _) | (with_reducible refine Below.drew ?_) | (with_reducible refine below_alloc ?_ _) | (with_reducible refine Below.alloc ?_ ?_ _) | (with_reducible refine Below.setCell ?_ ?_ _) | (with_reducible refine below_go ?_ (by with_reducible assumption)) | (with_reducible refine below_then (by with_reducible assumption) ?_ ?_) | go_size))
  have K0 := (Blk.at_ w 25 [.string nm, .int .i64 st, .slice A n c] (b := w.heap.size) rfl).alloc (.cells ⟨[.string nb, .int .i64 sb, .slice B n2 c2]⟩ 25)
  have J0 := Blk.at_ (w.alloc (.cells ⟨[.string nm, .int .i64 st, .slice A n c]⟩ 25)) 25 [.string nb, .int .i64 sb, .slice B n2 c2] (b := w.heap.size + 1) (by simp)
  have H0 := h.up b0
  have G0 := g.up b0
  have HO : Hid (sfOk nm st l nb sb lb = ((fhsOk nm st l && fhsOk nb sb lb) && decide (st = sb))) := Lib.hid rfl
  have HV : Hid (sfV nm st l nb sb lb = (sfOk nm st l nb sb lb && decide (falS (leadL st l) = falS (leadL sb lb)))) := Lib.hid rfl
  have HF1 : Hid (fhsOk nm st l = true → fhsV nm st l = falS (leadL st l)) := Lib.hid (fun e => by rw [fhsV, if_pos e])
  have HF2 : Hid (fhsOk nb sb lb = true → fhsV nb sb lb = falS (leadL sb lb)) := Lib.hid (fun e => by rw [fhsV, if_pos e])
  go_in
  go_wp2_with fail
  refine (spec_FalseHeads (nm := nm) (st := st) hn H0 hz hs hnm h9).mono ?_; rintro e w1 ⟨A1, m1, c1, rfl, ho1, hm1, hb1⟩
  have K1 := K0.up hb1
  have J1 := J0.up hb1
  have G1 := G0.up hb1
  have B1 := below_go b0 hb1
  have j0 := J1.cell 0; have j1 := J1.cell 1; have j2 := J1.cell 2
  simp only [List.getElem?_cons_zero, List.getElem?_cons_succ] at j0 j1 j2
  clear K0 J0 H0 G0 h g b0 hb1
  go_wp2_with fail
  refine (spec_FalseHeads (nm := nb) (st := sb) hn2 G1 hz2 hs2 hnb h92).mono ?_; rintro e w2 ⟨A2, m2, d2, rfl, ho2, hm2, hb2⟩
  have K2 := K1.up hb2
  have J2 := J1.up hb2
  have B2 := below_go B1 hb2
  have R1 := ho1.recs.up hb2
  have R2 := ho2.recs
  have k1 := K2.cell 1; have j1' := J2.cell 1
  simp only [List.getElem?_cons_zero, List.getElem?_cons_succ] at k1 j1'
  have HL1 := Lib.hid ho1.len
  have HL2 := Lib.hid ho2.len
  clear K1 J1 G1 B1 hb2 j0 j1 j2 ho1 ho2
  rcases hf1 : fhsOk nm st l
  · have e0 := Lib.hid (show sfOk nm st l nb sb lb = false by rw [HO.out, hf1]; rfl)
    have e1 := Lib.hid (show sfV nm st l nb sb lb = false by rw [HV.out, e0.out]; rfl)
    go_wp2
    go_ret2
    rw [e1.out, e0.out]
    exact ⟨rfl, B2⟩
  · rcases hf2 : fhsOk nb sb lb
    · have e0 := Lib.hid (show sfOk nm st l nb sb lb = false by rw [HO.out, hf2, Bool.and_false]; rfl)
      have e1 := Lib.hid (show sfV nm st l nb sb lb = false by rw [HV.out, e0.out]; rfl)
      go_wp2
      go_ret2
      rw [e1.out, e0.out]
      exact ⟨rfl, B2⟩
    · by_cases hst : st = sb
      · have e0 := Lib.hid (show sfOk nm st l nb sb lb = true by rw [HO.out, hf1, hf2, decide_eq_true hst]; rfl)
        have e1 := Lib.hid (show sfV nm st l nb sb lb = decide (fhsV nm st l = fhsV nb sb lb) by rw [HV.out, e0.out, HF1.out hf1, HF2.out hf2]; rfl)
        have hbe : ((st : Int) != (sb : Int)) = false := by simp; omega
        clear hst
        go_wp2_with fail
        refine (spec_sameS A1 A2 m1 m2 c1 d2 _ _ w2 HL1.out HL2.out R1 R2 (by omega) (by omega)).mono ?_; rintro e w3 ⟨rfl, hb3⟩
        go_wp2
        go_ret2
        rw [e1.out, e0.out]
        exact ⟨rfl, below_go B2 hb3⟩
      · have e0 := Lib.hid (show sfOk nm st l nb sb lb = false by rw [HO.out, decide_eq_false hst, Bool.and_false])
        have e1 := Lib.hid (show sfV nm st l nb sb lb = false by rw [HV.out, e0.out]; rfl)
        have hbe : ((st : Int) != (sb : Int)) = true := by simp; omega
        go_wp2
        go_ret2
        rw [e1.out, e0.out]
        exact ⟨rfl, B2⟩
theorem spec_RoundsOf {n : Nat} {w : World} (h3 : 3 ≤ n) (h8 : n ≤ 8) :
    Calls Tryz.prog 34 #[.int .i64 n] w fun e w' => e = .returned (.tuple #[.string (roundsS n), .bool true]) ∧ w = w' := by
  have h1 : inB (n : Int) 3 8 = true := by rw [inB, decide_eq_true_iff]; omega
  go_in
  go_wp2_with (first | (go_at_call 81; refine (spec_l1In _ _ _ _).mono ?_; rw [h1]; rintro e w' ⟨rfl, rfl⟩) | (go_at_call 90; refine (spec_l1Rounds h8).mono ?_; rintro e w' ⟨rfl, rfl⟩))
  go_ret2
  exact ⟨rfl, rfl⟩
theorem spec_TurnRow {a : ByteArray} {w : World} (hg : goodRow a = true) (hz : a.size ≤ 16777216) :
    Calls Tryz.prog 33 #[.string a] w fun e w' => e = .returned (.tuple #[.string (turnS a), .bool true]) ∧ Below w.heap.size w w' := by
  have HG := Lib.hid hg
  go_in
  go_wp2_with fail
  refine (spec_l1Row hz).mono ?_; rw [HG.out]; rintro e w1 ⟨rfl, hb1⟩
  go_wp2_with fail
  refine (spec_l1Turn HG.out).mono ?_; rintro e w2 ⟨rfl, hb2, _⟩
  go_wp2
  go_ret2
  exact ⟨rfl, below_go hb1 hb2⟩
end Go.Proofs.YtidolgonmimicaaGreat
namespace Go.Proofs.YtidolgonmimicaaGreat
open Go.ChangeShapes Go.WideShapes Go.ChangeAt Go.RowKit Go.Deep
open Go.Maps (Keyed string_keyed)
def seaC (nm : ByteArray) (st : Nat) (A : Option Addr) (n c : Nat) (kb ks : ByteArray) (N : Nat) (lt : Bool) (b : Nat) (lf : Int) (tv cv : Value) (ok : Bool) : List Value :=
  [.string nm, .int .i64 (st : Int), .slice A n c, .string kb, .string ks, .int .i64 (N : Int), .bool lt, .map (some b), .int .i64 lf, tv, cv, .bool ok]
set_option maxHeartbeats 1000000 in
theorem impl_goodSearch {A : Option Addr} {n c st : Nat} {nm : ByteArray} {l : List ByteArray} {kb ks : ByteArray} {N : Nat} {w : World} (hn : l.length = n) (h : Strs w A l) (hz : n ≤ 1048576) (hs : ∀ s ∈ l, s.size ≤ 16777216) (hnm : nm.size ≤ 16777216) (h9 : st ≤ 1000) (hkb : kb.size ≤ 16777216) (hks : ks.size ≤ 16777216) (hN : N ≤ 1000) :
    Calls Tryz.prog 74 #[.agg #[.string nm, .int .i64 st, .slice A n c], .agg #[.string kb, .string ks], .int .i64 (N : Int)] w fun e w' => e = .returned (.bool (goodK nm (st : Int) l kb ks && inB (N : Int) 1 6)) ∧ Below w.heap.size w w' := by
  have b0 : Below w.heap.size w ((w.alloc (.cells ⟨[.string nm, .int .i64 st, .slice A n c]⟩ 25)).alloc (.cells ⟨[.string kb, .string ks]⟩ 27)) := by (repeat' (first | (with_reducible exact Below.refl _ _) | (with_reducible assumption) | (with_reducible refine below_drewN ?_ _) | (with_reducible refine Below.drew ?_) | (with_reducible refine below_alloc ?_ _) | (with_reducible refine Below.alloc ?_ ?_ _) | (with_reducible refine Below.setCell ?_ ?_ _) | (with_reducible refine below_go ?_ (by with_reducible assumption)) | (with_reducible refine below_then (by with_reducible assumption) ?_ ?_) | go_size))
  have hI : I64 (st : Int) := ⟨by omega, by omega⟩
  go_in
  go_wp2_with fail
  refine (impl_GoodCalls hn (h.up b0) hz hs hnm hI hkb hks).mono ?_; rintro e w1 ⟨rfl, hb1⟩
  have B1 := below_go b0 hb1
  rcases hk : goodK nm (st : Int) l kb ks
  · have e2 := Lib.hid hk
    go_wp2
    go_ret
    rw [e2.out]
    exact ⟨rfl, B1⟩
  · have e2 := Lib.hid hk
    go_wp2_with fail
    refine (impl_within _ _ _ _).mono ?_; rintro e w2 ⟨rfl, rfl⟩
    go_wp2
    go_ret
    rw [e2.out]
    exact ⟨rfl, B1⟩
set_option maxHeartbeats 4000000 in
set_option maxRecDepth 100000 in
theorem impl_newSearcher {A : Option Addr} {n c st : Nat} {nm : ByteArray} {l : List ByteArray} {kb ks : ByteArray} {N : Nat} {w : World} (hn : l.length = n) (h : Strs w A l) (hz : n ≤ 1048576) (hs : ∀ s ∈ l, s.size ≤ 16777216) (hnm : nm.size ≤ 16777216) (h9 : st ≤ 1000) (hk : goodK nm (st : Int) l kb ks = true) (hN : N ≤ 1000) :
    Calls Tryz.prog 75 #[.agg #[.string nm, .int .i64 st, .slice A n c], .agg #[.string kb, .string ks], .int .i64 (N : Int)] w fun e w' => ∃ B b, e = .returned (.pointer (some ⟨B, 0, none⟩)) ∧ Blk w' B 136 (seaC nm st A n c kb ks N (nodupB (leadL st l)) b 0 (.slice none 0 0) (.slice none 0 0) false) ∧ SetX Tryz.prog w' 9 4 b (falL (leadL st l)) ∧ w.heap.size ≤ b ∧ b < B ∧ Below w.heap.size w w' := by
  have b0 : Below w.heap.size w ((w.alloc (.cells ⟨[.string nm, .int .i64 st, .slice A n c]⟩ 25)).alloc (.cells ⟨[.string kb, .string ks]⟩ 27)) := by (repeat' (first | (with_reducible exact Below.refl _ _) | (with_reducible assumption) | (with_reducible refine below_drewN ?_ _) | (with_reducible refine Below.drew ?_) | (with_reducible refine below_alloc ?_ _) | (with_reducible refine Below.alloc ?_ ?_ _) | (with_reducible refine Below.setCell ?_ ?_ _) | (with_reducible refine below_go ?_ (by with_reducible assumption)) | (with_reducible refine below_then (by with_reducible assumption) ?_ ?_) | go_size))
  have K0 := (Blk.at_ w 25 [.string nm, .int .i64 st, .slice A n c] (b := w.heap.size) rfl).alloc (.cells ⟨[.string kb, .string ks]⟩ 27)
  have J0 := Blk.at_ (w.alloc (.cells ⟨[.string nm, .int .i64 st, .slice A n c]⟩ 25)) 27 [.string kb, .string ks] (b := w.heap.size + 1) (by simp)
  have hGM := (goodK_t hk).1
  go_in
  go_upto_region 1 with fail
  obtain ⟨w0, hw0⟩ : ∃ u, u = ((w.alloc (.cells #[.string nm, .int .i64 st, .slice A n c] 25)).alloc (.cells #[.string kb, .string ks] 27)) := ⟨_, rfl⟩
  rw [← hw0] at b0 K0 J0 ⊢
  clear hw0
  have H0 := Lib.hid (h.up b0)
  have CA : Hid (∀ u : World, Below w0.heap.size w0 u → (u.cell? ⟨w.heap.size, 0, none⟩ = some (.string nm) ∧ u.cell? ⟨w.heap.size, 1, none⟩ = some (.int .i64 st) ∧ u.cell? ⟨w.heap.size, 2, none⟩ = some (.slice A n c)) ∧ u.cell? ⟨w.heap.size + 1, 0, none⟩ = some (.string kb) ∧ u.cell? ⟨w.heap.size + 1, 1, none⟩ = some (.string ks)) := Lib.hid (fun u hu => by
    have L0 := K0.up hu; have L1 := J0.up hu
    exact ⟨⟨by simpa using L0.cell 0, by simpa using L0.cell 1, by simpa using L0.cell 2⟩, by simpa using L1.cell 0, by simpa using L1.cell 1⟩)
  clear h K0 J0
  have C0 : Below w0.heap.size w0 w0.drew := (Below.refl _ _).drew
  refine wp_region_held_drew (S := fun u => (u.cell? ⟨w.heap.size, 0, none⟩ = some (.string nm) ∧ u.cell? ⟨w.heap.size, 1, none⟩ = some (.int .i64 st) ∧ u.cell? ⟨w.heap.size, 2, none⟩ = some (.slice A n c)) ∧ u.cell? ⟨w.heap.size + 1, 0, none⟩ = some (.string kb) ∧ u.cell? ⟨w.heap.size + 1, 1, none⟩ = some (.string ks)) (by kernel_rfl) (CA.out _ C0) (fun hHeld => ?_)
  refine wpAnyH_take (i := 0) (oi := { dst := some 7, op := _, type := _, pos := _, after := _, guard := _ }) (v := ?_) rfl (by kernel_rfl) (by kernel_rfl) (by kernel_rfl) (fun _ _ _ h => h) (Or.inl ⟨by rfl, ?_⟩) (by assumption) ?_
  rotate_left
  · (intro w hSw; (try dsimp only at hSw); go_simp) <;> with_reducible rfl
  (try simp only [Act.put, List.setIfInBounds_toArray, List.set_cons_zero, List.set_cons_succ])
  refine wpAnyH_take (i := 1) (oi := { dst := some 8, op := _, type := _, pos := _, after := _, guard := _ }) (v := ?_) rfl (by kernel_rfl) (by kernel_rfl) (by kernel_rfl) (fun _ _ _ h => h) (Or.inl ⟨by rfl, ?_⟩) (by assumption) ?_
  rotate_left
  · (intro w hSw; (try dsimp only at hSw); go_simp) <;> with_reducible rfl
  (try simp only [Act.put, List.setIfInBounds_toArray, List.set_cons_zero, List.set_cons_succ])
  refine wpAnyH_take (i := 2) (oi := { dst := some 9, op := _, type := _, pos := _, after := _, guard := _ }) (v := ?_) rfl (by kernel_rfl) (by kernel_rfl) (by kernel_rfl) (fun _ _ _ h => h) (Or.inl ⟨by rfl, ?_⟩) (by assumption) ?_
  rotate_left
  · (intro w hSw; (try dsimp only at hSw); go_simp) <;> with_reducible rfl
  (try simp only [Act.put, List.setIfInBounds_toArray, List.set_cons_zero, List.set_cons_succ])
  refine wpAnyH_take (i := 3) (oi := { dst := some 10, op := _, type := _, pos := _, after := _, guard := _ }) (v := ?_) rfl (by kernel_rfl) (by kernel_rfl) (by kernel_rfl) (fun _ _ _ h => h) (Or.inl ⟨by rfl, ?_⟩) (by assumption) ?_
  rotate_left
  · (intro w hSw; (try dsimp only at hSw); go_simp) <;> with_reducible rfl
  (try simp only [Act.put, List.setIfInBounds_toArray, List.set_cons_zero, List.set_cons_succ])
  refine wpAnyH_take (i := 5) (oi := { dst := some 12, op := _, type := _, pos := _, after := _, guard := _ }) (v := ?_) rfl (by kernel_rfl) (by kernel_rfl) (by kernel_rfl) (fun _ _ _ h => h) (Or.inl ⟨by rfl, ?_⟩) (by assumption) ?_
  rotate_left
  · (intro w hSw; (try dsimp only at hSw); go_simp) <;> with_reducible rfl
  (try simp only [Act.put, List.setIfInBounds_toArray, List.set_cons_zero, List.set_cons_succ])
  refine wpAnyH_take (i := 6) (oi := { dst := some 13, op := _, type := _, pos := _, after := _, guard := _ }) (v := ?_) rfl (by kernel_rfl) (by kernel_rfl) (by kernel_rfl) (fun _ _ _ h => h) (Or.inl ⟨by rfl, ?_⟩) (by assumption) ?_
  rotate_left
  · (intro w hSw; (try dsimp only at hSw); go_simp) <;> with_reducible rfl
  (try simp only [Act.put, List.setIfInBounds_toArray, List.set_cons_zero, List.set_cons_succ])
  refine wpAnyH_ready (rs := [4]) (by kernel_rfl) (by simp) ?_
  refine AllReadyH.cons (o := _) rfl (fun K hK => ?_) AllReadyH.nil
  go_simp
  refine (impl_leadTrue (nm := nm) hn (H0.out.up C0) hz hs hnm h9 hGM).mono ?_; rintro e w3 ⟨rfl, hb3⟩
  have C3 := below_go C0 hb3
  try go_wp2_with fail
  refine hK.out _ _ (CA.out _ C3) (fun hHeld => ?_)
  clear hK K
  (try simp only [Act.put, List.setIfInBounds_toArray, List.set_cons_zero, List.set_cons_succ])
  refine wpAnyH_ready (rs := [7]) (by kernel_rfl) (by simp) ?_
  refine AllReadyH.cons (o := _) rfl (fun K hK => ?_) AllReadyH.nil
  go_simp
  refine (impl_falseSet (nm := nm) hn (H0.out.up C3) hz hs hnm h9 hGM).mono ?_; rintro e w4 ⟨b, rfl, hm4, hlo4, hb4⟩
  have C4 := below_go C3 hb4
  have HM4 := Lib.hid hm4
  have hlt4 := hm4.lt
  clear hm4
  try go_wp2_with fail
  refine hK.out _ _ (CA.out _ C4) (fun hHeld => ?_)
  clear hK K
  (try simp only [Act.put, List.setIfInBounds_toArray, List.set_cons_zero, List.set_cons_succ])
  refine wpAnyH_take (i := 8) (oi := { dst := some 15, op := _, type := _, pos := _, after := _, guard := _ }) (v := ?_) rfl (by kernel_rfl) (by kernel_rfl) (by kernel_rfl) (fun _ _ _ h => h) (Or.inl ⟨by rfl, ?_⟩) (by assumption) ?_
  rotate_left
  · (intro w hSw; (try dsimp only at hSw); go_simp) <;> with_reducible rfl
  (try simp only [Act.put, List.setIfInBounds_toArray, List.set_cons_zero, List.set_cons_succ])
  have KB := Blk.at_ w4 136 (seaC nm st A n c kb ks N (nodupB (leadL st l)) b 0 (.slice none 0 0) (.slice none 0 0) false) (b := w4.heap.size) rfl
  have C5 : Below w0.heap.size w0 (w4.alloc (.cells ⟨seaC nm st A n c kb ks N (nodupB (leadL st l)) b 0 (.slice none 0 0) (.slice none 0 0) false⟩ 136)) := C4.alloc C4.size _
  have HM5 := HM4.out.alloc (.cells ⟨seaC nm st A n c kb ks N (nodupB (leadL st l)) b 0 (.slice none 0 0) (.slice none 0 0) false⟩ 136)
  refine wpAnyH_ready (rs := [9]) (by kernel_rfl) (by simp) ?_
  refine AllReadyH.cons (o := _) rfl (fun K hK => ?_) AllReadyH.nil
  go_simp
  refine hK.out _ _ (CA.out _ C5) (fun hHeld => ?_)
  clear hK K
  (try simp only [Act.put, List.setIfInBounds_toArray, List.set_cons_zero, List.set_cons_succ])
  refine wpAnyH_take (i := 10) (oi := { dst := some 6, op := _, type := _, pos := _, after := _, guard := _ }) (v := ?_) rfl (by kernel_rfl) (by kernel_rfl) (by kernel_rfl) (fun _ _ _ h => h) (Or.inl ⟨by rfl, ?_⟩) (by assumption) ?_
  rotate_left
  · (intro w hSw; (try dsimp only at hSw); go_simp) <;> with_reducible rfl
  (try simp only [Act.put, List.setIfInBounds_toArray, List.set_cons_zero, List.set_cons_succ])
  refine wpAnyH_done (by kernel_rfl) ?_ _
  (try simp only [Act.put, List.setIfInBounds_toArray, List.set_cons_zero, List.set_cons_succ])
  have hs0 := b0.size
  have hs3 := C3.size
  go_wp2
  go_ret
  exact ⟨_, b, rfl, KB, HM5, by omega, hlt4, below_go b0 C5⟩
end Go.Proofs.YtidolgonmimicaaGreat
namespace Go.Proofs.YtidolgonmimicaaGreat
open Go.ChangeShapes Go.WideShapes Go.ChangeAt Go.RowKit Go.Deep
open Go.Maps (Keyed string_keyed)
def CutR (cu : Option Cut3) (w : World) (e : Ending) (w' : World) : Prop := ∃ (s : ByteArray) (x y : Int), e = .returned (.tuple #[.agg #[.string s, .int .i64 x, .int .i64 y], .bool cu.isSome]) ∧ (∀ z, cu = some z → z = (s, x, y)) ∧ Below w.heap.size w w'
theorem CutR.mk {cu : Option Cut3} {w w' : World} {e : Ending} (s : ByteArray) (x y : Int) (b : Bool) (he : e = .returned (.tuple #[.agg #[.string s, .int .i64 x, .int .i64 y], .bool b])) (hb : cu = if b = true then some (s, x, y) else none) (h2 : Below w.heap.size w w') : CutR cu w e w' := by
  refine ⟨s, x, y, ?_, ?_, h2⟩
  · rw [he, hb]; cases b <;> rfl
  · intro z hz
    rw [hb] at hz
    cases b
    · simp at hz
    · simp at hz; exact hz.symm
theorem size_zero {p : ByteArray} (h : p.size = 0) : p = ⟨#[]⟩ := by
  apply ByteArray.ext
  exact Array.eq_empty_of_size_eq_zero h
theorem ne_empty {p : ByteArray} (h : ¬ p.size = 0) : (p.toList == ([] : List UInt8)) = false := by
  rw [beq_eq_false_iff_ne]
  intro e
  have := congrArg List.length e
  rw [ByteArray.toList_eq] at this
  simp at this
  exact h (by rw [this]; rfl)
abbrev cut0 : List Value := [.string ⟨#[]⟩, .int .i64 0, .int .i64 0]
set_option maxHeartbeats 4000000 in
set_option maxRecDepth 100000 in
theorem impl_cutOf {A : Option Addr} {n c st : Nat} {nm : ByteArray} {l : List ByteArray} {kb ks : ByteArray} {N B b : Nat} {lf : Int} {tv cv : Value} {ok : Bool} {p : ByteArray} {w : World} (hn : l.length = n) (h : Strs w A l) (hk : goodK nm (st : Int) l kb ks = true) (hK : Blk w B 136 (seaC nm st A n c kb ks N (nodupB (leadL st l)) b lf tv cv ok)) (hm : SetX Tryz.prog w 9 4 b (falL (leadL st l))) (hp : preT p) (hN : N ≤ 1000) :
    Calls Tryz.prog 168 #[.pointer (some ⟨B, 0, none⟩), .string p] w fun e w' => CutR (cutF st l kb ks N p) w e w' := by
  have h38 := (goodK_all hk).1
  have hp60 := hp.1
  have KSS := string_keyed (P := Tryz.prog) (k := 9) Tryz.underlying9
  have KB := hK.alloc (.cells #[.string ⟨#[]⟩, .int .i64 0, .int .i64 0] 29)
  have KD := Blk.at_ w 29 cut0 (b := w.heap.size) rfl
  have b0 : Below w.heap.size w (w.alloc (.cells #[.string ⟨#[]⟩, .int .i64 0, .int .i64 0] 29)) := by (repeat' (first | (with_reducible exact Below.refl _ _) | (with_reducible assumption) | (with_reducible refine below_drewN ?_ _) | (with_reducible refine Below.drew ?_) | (with_reducible refine below_alloc ?_ _) | (with_reducible refine Below.alloc ?_ ?_ _) | (with_reducible refine Below.setCell ?_ ?_ _) | (with_reducible refine below_go ?_ (by with_reducible assumption)) | (with_reducible refine below_then (by with_reducible assumption) ?_ ?_) | go_size))
  have HM := Lib.hid (hm.alloc (.cells #[.string ⟨#[]⟩, .int .i64 0, .int .i64 0] 29))
  have hBw := hK.lt
  go_in
  go_upto_region 1 with fail
  obtain ⟨w0, hw0⟩ : ∃ u, u = (w.alloc (.cells #[.string ⟨#[]⟩, .int .i64 0, .int .i64 0] 29)) := ⟨_, rfl⟩
  rw [← hw0] at b0 KB KD HM ⊢
  clear hw0
  obtain ⟨D, hD⟩ : ∃ u, u = w.heap.size := ⟨_, rfl⟩
  have hDB : ¬ D = B := by omega
  have hBD : ¬ B = D := by omega
  have HS := Lib.hid (h.up b0)
  rw [← hD] at KD ⊢
  have HD := Lib.hid hD
  clear hD
  have CA : Hid (∀ u : World, Below w0.heap.size w0 u → (u.cell? ⟨B, 0, none⟩ = some (.string nm) ∧ u.cell? ⟨B, 1, none⟩ = some (.int .i64 st) ∧ u.cell? ⟨B, 2, none⟩ = some (.slice A n c)) ∧ u.cell? ⟨B, 3, none⟩ = some (.string kb) ∧ u.cell? ⟨B, 4, none⟩ = some (.string ks)) := Lib.hid (fun u hu => by
    have L0 := KB.up hu
    exact ⟨⟨by simpa [seaC] using L0.cell 0, by simpa [seaC] using L0.cell 1, by simpa [seaC] using L0.cell 2⟩, by simpa [seaC] using L0.cell 3, by simpa [seaC] using L0.cell 4⟩)
  clear h hK hm
  have C0 : Below w0.heap.size w0 w0.drew := (Below.refl _ _).drew
  refine wp_region_held_drew (S := fun u => (u.cell? ⟨B, 0, none⟩ = some (.string nm) ∧ u.cell? ⟨B, 1, none⟩ = some (.int .i64 st) ∧ u.cell? ⟨B, 2, none⟩ = some (.slice A n c)) ∧ u.cell? ⟨B, 3, none⟩ = some (.string kb) ∧ u.cell? ⟨B, 4, none⟩ = some (.string ks)) (by kernel_rfl) (CA.out _ C0) (fun hHeld => ?_)
  refine wpAnyH_take (i := 0) (oi := { dst := some 10, op := _, type := _, pos := _, after := _, guard := _ }) (v := ?_) rfl (by kernel_rfl) (by kernel_rfl) (by kernel_rfl) (fun _ _ _ h => h) (Or.inl ⟨by rfl, ?_⟩) (by assumption) ?_
  rotate_left
  · (intro w hSw; (try dsimp only at hSw); go_simp) <;> with_reducible rfl
  (try simp only [Act.put, List.setIfInBounds_toArray, List.set_cons_zero, List.set_cons_succ])
  refine wpAnyH_take (i := 1) (oi := { dst := some 11, op := _, type := _, pos := _, after := _, guard := _ }) (v := ?_) rfl (by kernel_rfl) (by kernel_rfl) (by kernel_rfl) (fun _ _ _ h => h) (Or.inl ⟨by rfl, ?_⟩) (by assumption) ?_
  rotate_left
  · (intro w hSw; (try dsimp only at hSw); go_simp) <;> with_reducible rfl
  (try simp only [Act.put, List.setIfInBounds_toArray, List.set_cons_zero, List.set_cons_succ])
  refine wpAnyH_take (i := 2) (oi := { dst := some 12, op := _, type := _, pos := _, after := _, guard := _ }) (v := ?_) rfl (by kernel_rfl) (by kernel_rfl) (by kernel_rfl) (fun _ _ _ h => h) (Or.inl ⟨by rfl, ?_⟩) (by assumption) ?_
  rotate_left
  · (intro w hSw; (try dsimp only at hSw); go_simp) <;> with_reducible rfl
  (try simp only [Act.put, List.setIfInBounds_toArray, List.set_cons_zero, List.set_cons_succ])
  refine wpAnyH_take (i := 3) (oi := { dst := some 13, op := _, type := _, pos := _, after := _, guard := _ }) (v := ?_) rfl (by kernel_rfl) (by kernel_rfl) (by kernel_rfl) (fun _ _ _ h => h) (Or.inl ⟨by rfl, ?_⟩) (by assumption) ?_
  rotate_left
  · (intro w hSw; (try dsimp only at hSw); go_simp) <;> with_reducible rfl
  (try simp only [Act.put, List.setIfInBounds_toArray, List.set_cons_zero, List.set_cons_succ])
  refine wpAnyH_take (i := 4) (oi := { dst := some 14, op := _, type := _, pos := _, after := _, guard := _ }) (v := ?_) rfl (by kernel_rfl) (by kernel_rfl) (by kernel_rfl) (fun _ _ _ h => h) (Or.inl ⟨by rfl, ?_⟩) (by assumption) ?_
  rotate_left
  · (intro w hSw; (try dsimp only at hSw); go_simp) <;> with_reducible rfl
  (try simp only [Act.put, List.setIfInBounds_toArray, List.set_cons_zero, List.set_cons_succ])
  refine wpAnyH_take (i := 5) (oi := { dst := some 15, op := _, type := _, pos := _, after := _, guard := _ }) (v := ?_) rfl (by kernel_rfl) (by kernel_rfl) (by kernel_rfl) (fun _ _ _ h => h) (Or.inl ⟨by rfl, ?_⟩) (by assumption) ?_
  rotate_left
  · (intro w hSw; (try dsimp only at hSw); go_simp) <;> with_reducible rfl
  (try simp only [Act.put, List.setIfInBounds_toArray, List.set_cons_zero, List.set_cons_succ])
  refine wpAnyH_take (i := 6) (oi := { dst := some 16, op := _, type := _, pos := _, after := _, guard := _ }) (v := ?_) rfl (by kernel_rfl) (by kernel_rfl) (by kernel_rfl) (fun _ _ _ h => h) (Or.inl ⟨by rfl, ?_⟩) (by assumption) ?_
  rotate_left
  · (intro w hSw; (try dsimp only at hSw); go_simp) <;> with_reducible rfl
  (try simp only [Act.put, List.setIfInBounds_toArray, List.set_cons_zero, List.set_cons_succ])
  refine wpAnyH_take (i := 7) (oi := { dst := some 17, op := _, type := _, pos := _, after := _, guard := _ }) (v := ?_) rfl (by kernel_rfl) (by kernel_rfl) (by kernel_rfl) (fun _ _ _ h => h) (Or.inl ⟨by rfl, ?_⟩) (by assumption) ?_
  rotate_left
  · (intro w hSw; (try dsimp only at hSw); go_simp) <;> with_reducible rfl
  (try simp only [Act.put, List.setIfInBounds_toArray, List.set_cons_zero, List.set_cons_succ])
  refine wpAnyH_take (i := 8) (oi := { dst := some 18, op := _, type := _, pos := _, after := _, guard := _ }) (v := ?_) rfl (by kernel_rfl) (by kernel_rfl) (by kernel_rfl) (fun _ _ _ h => h) (Or.inl ⟨by rfl, ?_⟩) (by assumption) ?_
  rotate_left
  · (intro w hSw; (try dsimp only at hSw); go_simp) <;> with_reducible rfl
  (try simp only [Act.put, List.setIfInBounds_toArray, List.set_cons_zero, List.set_cons_succ])
  refine wpAnyH_ready (rs := [9]) (by kernel_rfl) (by simp) ?_
  refine AllReadyH.cons (o := _) rfl (fun K hK => ?_) AllReadyH.nil
  go_simp
  refine (impl_headsP (nm := nm) (t := p) hn (HS.out.up C0) hk hp).mono ?_; rintro e w1 ⟨A1, c1, rfl, ho1, hb1⟩
  have C1 := below_go C0 hb1
  have HO := Lib.hid ho1
  clear ho1
  try go_wp2_with fail
  refine hK.out _ _ (CA.out _ C1) (fun hHeld => ?_)
  clear hK K
  (try simp only [Act.put, List.setIfInBounds_toArray, List.set_cons_zero, List.set_cons_succ])
  refine wpAnyH_take (i := 10) (oi := { dst := some 6, op := _, type := _, pos := _, after := _, guard := _ }) (v := ?_) rfl (by kernel_rfl) (by kernel_rfl) (by kernel_rfl) (fun _ _ _ h => h) (Or.inl ⟨by rfl, ?_⟩) (by assumption) ?_
  rotate_left
  · (intro w hSw; (try dsimp only at hSw); go_simp) <;> with_reducible rfl
  (try simp only [Act.put, List.setIfInBounds_toArray, List.set_cons_zero, List.set_cons_succ])
  refine wpAnyH_done (by kernel_rfl) ?_ _
  (try simp only [Act.put, List.setIfInBounds_toArray, List.set_cons_zero, List.set_cons_succ])
  have hcap1 := HO.out.cap
  obtain ⟨g, rfl, g0, g1, gc, _⟩ := HO.out.at_ (by omega)
  have HGC := Lib.hid (fun (j : Nat) (hj : j < p.size + 1) (u : World) (hu : Below w1.heap.size w1 u) => show u.cell? ⟨g, j, none⟩ = some (.string (hdAt st l kb ks p j)) from by
    have cg := gc j _ 0 _ (hdsL_at hj) rfl
    simp only [Nat.mul_one, Nat.add_zero] at cg
    exact (hu.cell (p := ⟨g, j, none⟩) g1).trans cg)
  have cg := HGC.out p.size (by omega) w1 (Below.refl _ _)
  have HRN := Lib.hid (fun j => hdAt_good h38.1 h38.2 l kb ks p j)
  have K1 := KB.up C1
  have D1 := KD.up C1
  have HM1 := Lib.hid (HM.out.up C1)
  have B1 := below_go b0 C1
  have hcL : (p.size : Int) < (p.size : Int) + 1 := by omega
  have hcM : (p.size : Int) ≤ (p.size : Int) + 1 := by omega
  have hcN : (p.size : Int) ≤ (c1 : Int) := by omega
  have s1 := B1.size
  clear KB KD HM CA C0 C1 hb1 gc
  have kb1 := K1.cell 1; have kb5 := K1.cell 5; have kb6 := K1.cell 6
  simp only [seaC, List.getElem?_cons_zero, List.getElem?_cons_succ] at kb1 kb5 kb6
  have d0 := D1.cell 0; have d1 := D1.cell 1; have d2 := D1.cell 2
  simp only [List.getElem?_cons_zero, List.getElem?_cons_succ] at d0 d1 d2
  have f0 := D1.frozen 0; have f1 := D1.frozen 1; have f2 := D1.frozen 2
  have hDlt := D1.lt
  have fin : Hid (∀ (u : World) (x0 x1 x2 : Value), Below w.heap.size w u → D < u.heap.size → Below w.heap.size w (((u.setCell ⟨D, 0, none⟩ x0).setCell ⟨D, 1, none⟩ x1).setCell ⟨D, 2, none⟩ x2)) := Lib.hid (fun u x0 x1 x2 hu hDu => by
    rw [← HD.out] at hu ⊢
    exact ((hu.setCell (p := ⟨D, 0, none⟩) (by simp) _).setCell (p := ⟨D, 1, none⟩) (by simp) _).setCell (p := ⟨D, 2, none⟩) (by simp) _)
  have CL := Lib.hid (@cut_lead st N l kb ks p)
  have CLF := Lib.hid (@cut_lead' st N l kb ks p)
  have CO := Lib.hid (@cut_open st N l kb ks p)
  have COF := Lib.hid (@cut_open' st N l kb ks p)
  have CC := Lib.hid (@cut_clash st N l kb ks p)
  have CF := Lib.hid (@cut_free st N l kb ks p)
  by_cases hz : p.size = 0
  · have hpe := Lib.hid (size_zero hz)
    have hbe : (p.toList == ([] : List UInt8)) = true := by rw [hpe.out, ByteArray.toList_eq]; rfl
    rcases hl : nodupB (leadL st l)
    · have e2 := Lib.hid ((CLF.out hz hl).trans (show some (p, (1 : Int), (0 : Int)) = some (⟨#[]⟩, 1, 0) by rw [hpe.out]))
      rw [hl] at kb6
      clear hl hz
      go_upto_region 4 with fail
      have V := ((D1.set_ 0 (.string ⟨#[]⟩)).set_ 1 (.int .i64 1)).set_ 2 (.int .i64 0)
      have v0 := V.cell 0; have v1 := V.cell 1; have v2 := V.cell 2
      simp only [List.set_cons_zero, List.set_cons_succ, List.getElem?_cons_zero, List.getElem?_cons_succ] at v0 v1 v2
      clear V
      go_region
      go_wp2_with fail
      refine bodyPost_ret (v := .tuple #[.agg #[.string ⟨#[]⟩, .int .i64 1, .int .i64 0], .bool true]) (by simp [results, Tryz.results168, go_sem, v0, v1, v2]) rfl ?_
      exact CutR.mk _ _ _ true rfl e2.out (by with_reducible (first | exact fin.out _ _ _ _ (by assumption) hDlt | exact below_drewN (fin.out _ _ _ _ (by assumption) hDlt) _ | exact (fin.out _ _ _ _ (by assumption) hDlt).drew))
    · have e2 := Lib.hid (CL.out hz hl)
      rw [hl] at kb6
      clear hl hz
      go_upto_region 4 with fail
      have V := ((D1.set_ 0 (.string ⟨#[]⟩)).set_ 1 (.int .i64 1)).set_ 2 (.int .i64 0)
      have v0 := V.cell 0; have v1 := V.cell 1; have v2 := V.cell 2
      simp only [List.set_cons_zero, List.set_cons_succ, List.getElem?_cons_zero, List.getElem?_cons_succ] at v0 v1 v2
      clear V
      go_region
      go_wp2_with fail
      refine bodyPost_ret (v := .tuple #[.agg #[.string ⟨#[]⟩, .int .i64 1, .int .i64 0], .bool false]) (by simp [results, Tryz.results168, go_sem, v0, v1, v2]) rfl ?_
      exact CutR.mk _ _ _ false rfl e2.out (by with_reducible (first | exact fin.out _ _ _ _ (by assumption) hDlt | exact below_drewN (fin.out _ _ _ _ (by assumption) hDlt) _ | exact (fin.out _ _ _ _ (by assumption) hDlt).drew))
  · have hne := ne_empty hz
    by_cases hpn : p.size = N
    · have hI : ((p.size : Int) == (N : Int)) = true := by rw [hpn]; simp
      by_cases he : hdAt st l kb ks p p.size = roundsS st
      · have e2 := Lib.hid (CO.out hz hpn he)
        have hbe : ((hdAt st l kb ks p p.size).toList == (roundsS st).toList) = true := by rw [he]; simp
        clear he hpn hz
        have V := ((D1.set_ 0 (.string p)).set_ 1 (.int .i64 3)).set_ 2 (.int .i64 0)
        have v0 := V.cell 0; have v1 := V.cell 1; have v2 := V.cell 2
        simp only [List.set_cons_zero, List.set_cons_succ, List.getElem?_cons_zero, List.getElem?_cons_succ] at v0 v1 v2
        clear V
        go_wp2_with (go_at_call 105; refine (impl_rounds h38.2).mono ?_; rintro e w' ⟨rfl, rfl⟩)
        refine bodyPost_ret (v := .tuple #[.agg #[.string p, .int .i64 3, .int .i64 0], .bool false]) (by simp [results, Tryz.results168, go_sem, v0, v1, v2]) rfl ?_
        exact CutR.mk _ _ _ false rfl e2.out (by with_reducible (first | exact fin.out _ _ _ _ (by assumption) hDlt | exact below_drewN (fin.out _ _ _ _ (by assumption) hDlt) _ | exact (fin.out _ _ _ _ (by assumption) hDlt).drew))
      · have e2 := Lib.hid (COF.out hz hpn he)
        have hbe := bytes_ne he
        clear he hpn hz
        have V := ((D1.set_ 0 (.string p)).set_ 1 (.int .i64 3)).set_ 2 (.int .i64 0)
        have v0 := V.cell 0; have v1 := V.cell 1; have v2 := V.cell 2
        simp only [List.set_cons_zero, List.set_cons_succ, List.getElem?_cons_zero, List.getElem?_cons_succ] at v0 v1 v2
        clear V
        go_wp2_with (go_at_call 105; refine (impl_rounds h38.2).mono ?_; rintro e w' ⟨rfl, rfl⟩)
        refine bodyPost_ret (v := .tuple #[.agg #[.string p, .int .i64 3, .int .i64 0], .bool true]) (by simp [results, Tryz.results168, go_sem, v0, v1, v2]) rfl ?_
        exact CutR.mk _ _ _ true rfl e2.out (by with_reducible (first | exact fin.out _ _ _ _ (by assumption) hDlt | exact below_drewN (fin.out _ _ _ _ (by assumption) hDlt) _ | exact (fin.out _ _ _ _ (by assumption) hDlt).drew))
    · have hI : ((p.size : Int) == (N : Int)) = false := by rw [beq_eq_false_iff_ne]; omega
      have HZ := Lib.hid hz
      have HPN := Lib.hid hpn
      have HCL : Hid (∀ i, clsAt st l kb ks p p.size i = inL (falL (leadL st l)) (timesS (turnS (hdAt st l kb ks p i)) (hdAt st l kb ks p p.size))) := Lib.hid (fun i => rfl)
      have HB1 := Lib.hid B1
      have HK1 := Lib.hid K1
      have HD1 := Lib.hid D1
      clear hz hpn B1 K1 D1 d0 d1 d2 f0 f1 f2
      go_wp2
      clear kb1 kb5 kb6
      go_loopw [57] (fun v wr => ∃ k : Nat, k ≤ p.size ∧ v = .int .i64 k ∧ Hid (∀ j, j < k → clsAt st l kb ks p p.size j = false) ∧ Hid (Below w1.heap.size w1 wr)) (fun v _ => p.size - (intOf v).toNat)
      case atStart => exact ⟨0, Nat.zero_le _, rfl, Lib.hid (fun j hj => absurd hj (by omega)), Lib.hid (Below.refl _ _)⟩
      case round =>
        obtain ⟨k, hk1, rfl, HLO, HBR⟩ := hrel
        rename World => wr
        have K1 := HK1.out.up HBR.out
        have D1 := HD1.out.up HBR.out
        have B1 := below_go HB1.out HBR.out
        have hDlt := D1.lt
        have d0 := D1.cell 0; have d1 := D1.cell 1; have d2 := D1.cell 2
        simp only [List.getElem?_cons_zero, List.getElem?_cons_succ] at d0 d1 d2
        have f0 := D1.frozen 0; have f1 := D1.frozen 1; have f2 := D1.frozen 2
        by_cases hlt : k < p.size
        · have hI2 : (k : Int) < (p.size : Int) := by omega
          have cgk := HGC.out k (by omega) wr HBR.out
          have hRk := HRN.out k
          have hRp := HRN.out p.size
          go_upto_region 10 with fail
          have C0 : Below wr.heap.size wr wr.drew := (Below.refl _ _).drew
          have CA : Hid (∀ u : World, Below wr.heap.size wr u → u.cell? ⟨B, 7, none⟩ = some (.map (some b))) := Lib.hid (fun u hu => by
            have L0 := K1.up hu
            simpa [seaC] using L0.cell 7)
          have hhz : (hdAt st l kb ks p k).size ≤ 16777216 := by rw [hRk.2]; omega
          have hpz : (hdAt st l kb ks p p.size).size ≤ 16777216 := by rw [hRp.2]; omega
          refine wp_region_held_drew (S := fun u => u.cell? ⟨B, 7, none⟩ = some (.map (some b))) (by kernel_rfl) (CA.out _ C0) (fun hHeld => ?_)
          refine wpAnyH_take (i := 0) (oi := { dst := some 62, op := _, type := _, pos := _, after := _, guard := _ }) (v := ?_) rfl (by kernel_rfl) (by kernel_rfl) (by kernel_rfl) (fun _ _ _ h => h) (Or.inl ⟨by rfl, ?_⟩) (by assumption) ?_
          rotate_left
          · (intro w hSw; (try dsimp only at hSw); go_simp) <;> with_reducible rfl
          (try simp only [Act.put, List.setIfInBounds_toArray, List.set_cons_zero, List.set_cons_succ])
          refine wpAnyH_take (i := 1) (oi := { dst := some 63, op := _, type := _, pos := _, after := _, guard := _ }) (v := ?_) rfl (by kernel_rfl) (by kernel_rfl) (by kernel_rfl) (fun _ _ _ h => h) (Or.inl ⟨by rfl, ?_⟩) (by assumption) ?_
          rotate_left
          · (intro w hSw; (try dsimp only at hSw); go_simp) <;> with_reducible rfl
          (try simp only [Act.put, List.setIfInBounds_toArray, List.set_cons_zero, List.set_cons_succ])
          refine wpAnyH_take (i := 2) (oi := { dst := some 64, op := _, type := _, pos := _, after := _, guard := _ }) (v := ?_) rfl (by kernel_rfl) (by kernel_rfl) (by kernel_rfl) (fun _ _ _ h => h) (Or.inl ⟨by rfl, ?_⟩) (by assumption) ?_
          rotate_left
          · (intro w hSw; (try dsimp only at hSw); go_simp) <;> with_reducible rfl
          (try simp only [Act.put, List.setIfInBounds_toArray, List.set_cons_zero, List.set_cons_succ])
          refine wpAnyH_take (i := 3) (oi := { dst := some 65, op := _, type := _, pos := _, after := _, guard := _ }) (v := ?_) rfl (by kernel_rfl) (by kernel_rfl) (by kernel_rfl) (fun _ _ _ h => h) (Or.inl ⟨by rfl, ?_⟩) (by assumption) ?_
          rotate_left
          · (intro w hSw; (try dsimp only at hSw); go_simp) <;> with_reducible rfl
          (try simp only [Act.put, List.setIfInBounds_toArray, List.set_cons_zero, List.set_cons_succ])
          refine wpAnyH_take (i := 4) (oi := { dst := some 66, op := _, type := _, pos := _, after := _, guard := _ }) (v := ?_) rfl (by kernel_rfl) (by kernel_rfl) (by kernel_rfl) (fun _ _ _ h => h) (Or.inl ⟨by rfl, ?_⟩) (by assumption) ?_
          rotate_left
          · (intro w hSw; (try dsimp only at hSw); go_simp) <;> with_reducible rfl
          (try simp only [Act.put, List.setIfInBounds_toArray, List.set_cons_zero, List.set_cons_succ])
          refine wpAnyH_take (i := 6) (oi := { dst := some 68, op := _, type := _, pos := _, after := _, guard := _ }) (v := ?_) rfl (by kernel_rfl) (by kernel_rfl) (by kernel_rfl) (fun _ _ _ h => h) (Or.inl ⟨by rfl, ?_⟩) (by assumption) ?_
          rotate_left
          · (intro w hSw; (try dsimp only at hSw); go_simp) <;> with_reducible rfl
          (try simp only [Act.put, List.setIfInBounds_toArray, List.set_cons_zero, List.set_cons_succ])
          refine wpAnyH_ready (rs := [5]) (by kernel_rfl) (by simp) ?_
          refine AllReadyH.cons (o := _) rfl (fun K hK => ?_) AllReadyH.nil
          go_simp
          refine (impl_turned hRk.1).mono ?_; rintro e w3 ⟨rfl, hb3, hrt⟩
          have C1 := below_go C0 hb3
          rw [hRk.2] at hrt
          have hft := rowN_fits hrt hRp
          have htz : (turnS (hdAt st l kb ks p k)).size ≤ 16777216 := by rw [hrt.2]; omega
          try go_wp2_with fail
          refine hK.out _ _ (CA.out _ C1) (fun hHeld => ?_)
          clear hK K
          (try simp only [Act.put, List.setIfInBounds_toArray, List.set_cons_zero, List.set_cons_succ])
          refine wpAnyH_ready (rs := [7]) (by kernel_rfl) (by simp) ?_
          refine AllReadyH.cons (o := _) rfl (fun K hK => ?_) AllReadyH.nil
          go_simp
          refine (impl_times htz hpz hft).mono ?_; rintro e w4 ⟨rfl, hb4⟩
          have C2 := below_go C1 hb4
          try go_wp2_with fail
          refine hK.out _ _ (CA.out _ C2) (fun hHeld => ?_)
          clear hK K
          (try simp only [Act.put, List.setIfInBounds_toArray, List.set_cons_zero, List.set_cons_succ])
          have hyz : (timesS (turnS (hdAt st l kb ks p k)) (hdAt st l kb ks p p.size)).size ≤ 16777216 := by rw [(hrt.times hRp).2]; omega
          have lk := (HM1.out.up (HBR.out.trans (C2.mono HBR.out.size))).look (t := 110) KSS Tryz.underlying110 Tryz.underlying9 Tryz.underlying4 (by kernel_rfl) hyz
          obtain ⟨q, hq⟩ : ∃ u, u = inL (falL (leadL st l)) (timesS (turnS (hdAt st l kb ks p k)) (hdAt st l kb ks p p.size)) := ⟨_, rfl⟩
          rw [← hq] at lk
          have HQ := Lib.hid hq
          clear hq
          refine wpAnyH_ready (rs := [8]) (by kernel_rfl) (by simp) ?_
          refine AllReadyH.cons (o := _) rfl (fun K hK => ?_) AllReadyH.nil
          go_simp
          refine hK.out _ _ (CA.out _ C2) (fun hHeld => ?_)
          clear hK K lk
          (try simp only [Act.put, List.setIfInBounds_toArray, List.set_cons_zero, List.set_cons_succ])
          refine wpAnyH_done (by kernel_rfl) ?_ _
          (try simp only [Act.put, List.setIfInBounds_toArray, List.set_cons_zero, List.set_cons_succ])
          have B2 := below_go B1 C2
          rcases q
          · have HL2 := Lib.hid (show ∀ j, j < k + 1 → clsAt st l kb ks p p.size j = false from fun j hj => by
              rcases Nat.lt_or_ge j k with z | z
              · exact HLO.out j z
              · obtain rfl : j = k := by omega
                rw [HCL.out, ← HQ.out])
            have HB2 := Lib.hid (HBR.out.trans (C2.mono HBR.out.size))
            go_wp2
            go_roundw
            case rel => exact ⟨k + 1, by omega, by go_num, HL2, HB2⟩
            case measure => simp [intOf]; omega
          · have e2 := Lib.hid (show cutF st l kb ks N p = some (p, 2, (k : Int)) from CC.out HZ.out HPN.out hlt HLO.out (by rw [HCL.out, ← HQ.out]))
            have D1 := D1.up C2
            have hDlt := D1.lt
            have d0 := D1.cell 0; have d1 := D1.cell 1; have d2 := D1.cell 2
            simp only [List.getElem?_cons_zero, List.getElem?_cons_succ] at d0 d1 d2
            have f0 := D1.frozen 0; have f1 := D1.frozen 1; have f2 := D1.frozen 2
            have V := ((D1.set_ 0 (.string p)).set_ 1 (.int .i64 2)).set_ 2 (.int .i64 (k : Int))
            have v0 := V.cell 0; have v1 := V.cell 1; have v2 := V.cell 2
            simp only [List.set_cons_zero, List.set_cons_succ, List.getElem?_cons_zero, List.getElem?_cons_succ] at v0 v1 v2
            clear V
            go_wp2_with fail
            refine bodyPost_ret (v := .tuple #[.agg #[.string p, .int .i64 2, .int .i64 (k : Int)], .bool true]) (by simp [results, Tryz.results168, go_sem, v0, v1, v2]) rfl ?_
            exact CutR.mk _ _ _ true rfl e2.out (by with_reducible (first | exact fin.out _ _ _ _ (by assumption) hDlt | exact below_drewN (fin.out _ _ _ _ (by assumption) hDlt) _ | exact (fin.out _ _ _ _ (by assumption) hDlt).drew))
        · obtain rfl : k = p.size := by omega
          have hI2 : ¬ (p.size : Int) < (p.size : Int) := by omega
          have e2 := Lib.hid (CF.out HZ.out HPN.out HLO.out)
          have V := ((D1.set_ 0 (.string ⟨#[]⟩)).set_ 1 (.int .i64 0)).set_ 2 (.int .i64 0)
          have v0 := V.cell 0; have v1 := V.cell 1; have v2 := V.cell 2
          simp only [List.set_cons_zero, List.set_cons_succ, List.getElem?_cons_zero, List.getElem?_cons_succ] at v0 v1 v2
          clear V
          go_wp2_with fail
          refine bodyPost_ret (v := .tuple #[.agg #[.string ⟨#[]⟩, .int .i64 0, .int .i64 0], .bool false]) (by simp [results, Tryz.results168, go_sem, v0, v1, v2]) rfl ?_
          exact CutR.mk _ _ _ false rfl e2.out (by with_reducible (first | exact fin.out _ _ _ _ (by assumption) hDlt | exact below_drewN (fin.out _ _ _ _ (by assumption) hDlt) _ | exact (fin.out _ _ _ _ (by assumption) hDlt).drew))
end Go.Proofs.YtidolgonmimicaaGreat
namespace Go.Proofs.YtidolgonmimicaaGreat
open Go.ChangeShapes Go.WideShapes Go.ChangeAt Go.RowKit Go.Deep
open Go.Maps (Keyed string_keyed)
def pfxB (N : Nat) (p : ByteArray) : Bool := decide (p.size ≤ N) && (List.range p.size).all (callB p)
def jusB (cut : ByteArray → Option Cut3) (N : Nat) (c : Cut3) : Bool := pfxB N c.1 && decide (cut c.1 = some c)
theorem jus_f {cut : ByteArray → Option Cut3} {N : Nat} {c : Cut3} (h : pfxB N c.1 = false) : jusB cut N c = false := by rw [jusB, h]; rfl
theorem jus_none {cut : ByteArray → Option Cut3} {N : Nat} {c : Cut3} (h : cut c.1 = none) : jusB cut N c = false := by rw [jusB, h]; simp
theorem jus_some {cut : ByteArray → Option Cut3} {N : Nat} {s t : ByteArray} {x y a b : Int} (h : pfxB N s = true) (g : cut s = some (t, a, b)) (e : t = s) : jusB cut N (s, x, y) = ((x == a) && (y == b)) := by
  subst e
  rw [jusB, h, g, Bool.true_and, Bool.eq_iff_iff, decide_eq_true_iff, Bool.and_eq_true, beq_iff_eq, beq_iff_eq]
  constructor
  · intro q; injection q with q; injection q with _ q; injection q with q1 q2; exact ⟨q1.symm, q2.symm⟩
  · rintro ⟨rfl, rfl⟩; rfl
theorem pfx_pre {N : Nat} {p : ByteArray} (h : pfxB N p = true) (hN : N ≤ 60) : preT p ∧ p.size ≤ N := by
  rw [pfxB, Bool.and_eq_true, decide_eq_true_iff, List.all_eq_true] at h
  exact ⟨⟨by omega, fun k hk => h.2 k (List.mem_range.2 hk)⟩, h.1⟩
set_option maxHeartbeats 4000000 in
set_option maxRecDepth 100000 in
theorem impl_justified {A : Option Addr} {n c st : Nat} {nm : ByteArray} {l : List ByteArray} {kb ks : ByteArray} {N B b : Nat} {lf : Int} {tv cv : Value} {ok : Bool} {s : ByteArray} {x y : Int} {w : World} (hn : l.length = n) (h : Strs w A l) (hk : goodK nm (st : Int) l kb ks = true) (hK : Blk w B 136 (seaC nm st A n c kb ks N (nodupB (leadL st l)) b lf tv cv ok)) (hm : SetX Tryz.prog w 9 4 b (falL (leadL st l))) (hs : s.size ≤ 16777216) (hN : N ≤ 60) :
    Calls Tryz.prog 76 #[.pointer (some ⟨B, 0, none⟩), .agg #[.string s, .int .i64 x, .int .i64 y]] w fun e w' => e = .returned (.bool (jusB (cutF st l kb ks N) N (s, x, y))) ∧ Below w.heap.size w w' := by
  have KB := hK.alloc (.cells #[.string s, .int .i64 x, .int .i64 y] 29)
  have KD := Blk.at_ w 29 [.string s, .int .i64 x, .int .i64 y] (b := w.heap.size) rfl
  have b0 : Below w.heap.size w (w.alloc (.cells #[.string s, .int .i64 x, .int .i64 y] 29)) := by (repeat' (first | (with_reducible exact Below.refl _ _) | (with_reducible assumption) | (with_reducible refine below_drewN ?_ _) | (with_reducible refine Below.drew ?_) | (with_reducible refine below_alloc ?_ _) | (with_reducible refine Below.alloc ?_ ?_ _) | (with_reducible refine Below.setCell ?_ ?_ _) | (with_reducible refine below_go ?_ (by with_reducible assumption)) | (with_reducible refine below_then (by with_reducible assumption) ?_ ?_) | go_size))
  have HM := Lib.hid (hm.alloc (.cells #[.string s, .int .i64 x, .int .i64 y] 29))
  have HPF : Hid (pfxB N s = (decide (s.size ≤ N) && (List.range s.size).all (callB s))) := Lib.hid rfl
  have hBw := hK.lt
  go_in
  go_upto_region 1 with fail
  obtain ⟨w0, hw0⟩ : ∃ u, u = (w.alloc (.cells #[.string s, .int .i64 x, .int .i64 y] 29)) := ⟨_, rfl⟩
  rw [← hw0] at b0 KB KD HM ⊢
  clear hw0
  have HS := Lib.hid (h.up b0)
  obtain ⟨D, hD⟩ : ∃ u, u = w.heap.size := ⟨_, rfl⟩
  rw [← hD] at KD ⊢
  have HD := Lib.hid hD
  clear hD
  have CA : Hid (∀ u : World, Below w0.heap.size w0 u → (u.cell? ⟨D, 0, none⟩ = some (.string s) ∧ u.cell? ⟨D, 1, none⟩ = some (.int .i64 x) ∧ u.cell? ⟨D, 2, none⟩ = some (.int .i64 y)) ∧ u.cell? ⟨B, 5, none⟩ = some (.int .i64 (N : Int))) := Lib.hid (fun u hu => by
    have L0 := KD.up hu; have L1 := KB.up hu
    exact ⟨⟨by simpa using L0.cell 0, by simpa using L0.cell 1, by simpa using L0.cell 2⟩, by simpa [seaC] using L1.cell 5⟩)
  clear h hK hm
  have C0 : Below w0.heap.size w0 w0.drew := (Below.refl _ _).drew
  by_cases hle : s.size ≤ N
  · have hI : ¬ (N : Int) < (s.size : Int) := by omega
    have HLE := Lib.hid hle
    clear hle
    rcases hc : (List.range s.size).all (callB s)
    · have e2 := Lib.hid (show jusB (cutF st l kb ks N) N (s, x, y) = false from jus_f (show pfxB N s = false by rw [HPF.out, hc, Bool.and_false]))
      have HC := Lib.hid hc
      clear hc
      refine wp_region_held_drew (S := fun u => (u.cell? ⟨D, 0, none⟩ = some (.string s) ∧ u.cell? ⟨D, 1, none⟩ = some (.int .i64 x) ∧ u.cell? ⟨D, 2, none⟩ = some (.int .i64 y)) ∧ u.cell? ⟨B, 5, none⟩ = some (.int .i64 (N : Int))) (by kernel_rfl) (CA.out _ C0) (fun hHeld => ?_)
      refine wpAnyH_take (i := 0) (oi := { dst := some 7, op := _, type := _, pos := _, after := _, guard := _ }) (v := ?_) rfl (by kernel_rfl) (by kernel_rfl) (by kernel_rfl) (fun _ _ _ h => h) (Or.inl ⟨by rfl, ?_⟩) (by assumption) ?_
      rotate_left
      · (intro w hSw; (try dsimp only at hSw); go_simp) <;> with_reducible rfl
      (try simp only [Act.put, List.setIfInBounds_toArray, List.set_cons_zero, List.set_cons_succ])
      refine wpAnyH_take (i := 1) (oi := { dst := some 8, op := _, type := _, pos := _, after := _, guard := _ }) (v := ?_) rfl (by kernel_rfl) (by kernel_rfl) (by kernel_rfl) (fun _ _ _ h => h) (Or.inl ⟨by rfl, ?_⟩) (by assumption) ?_
      rotate_left
      · (intro w hSw; (try dsimp only at hSw); go_simp) <;> with_reducible rfl
      (try simp only [Act.put, List.setIfInBounds_toArray, List.set_cons_zero, List.set_cons_succ])
      refine wpAnyH_take (i := 2) (oi := { dst := some 9, op := _, type := _, pos := _, after := _, guard := _ }) (v := ?_) rfl (by kernel_rfl) (by kernel_rfl) (by kernel_rfl) (fun _ _ _ h => h) (Or.inl ⟨by rfl, ?_⟩) (by assumption) ?_
      rotate_left
      · (intro w hSw; (try dsimp only at hSw); go_simp) <;> with_reducible rfl
      (try simp only [Act.put, List.setIfInBounds_toArray, List.set_cons_zero, List.set_cons_succ])
      refine wpAnyH_take (i := 3) (oi := { dst := some 10, op := _, type := _, pos := _, after := _, guard := _ }) (v := ?_) rfl (by kernel_rfl) (by kernel_rfl) (by kernel_rfl) (fun _ _ _ h => h) (Or.inl ⟨by rfl, ?_⟩) (by assumption) ?_
      rotate_left
      · (intro w hSw; (try dsimp only at hSw); go_simp) <;> with_reducible rfl
      (try simp only [Act.put, List.setIfInBounds_toArray, List.set_cons_zero, List.set_cons_succ])
      refine wpAnyH_take (i := 4) (oi := { dst := some 11, op := _, type := _, pos := _, after := _, guard := _ }) (v := ?_) rfl (by kernel_rfl) (by kernel_rfl) (by kernel_rfl) (fun _ _ _ h => h) (Or.inl ⟨by rfl, ?_⟩) (by assumption) ?_
      rotate_left
      · (intro w hSw; (try dsimp only at hSw); go_simp) <;> with_reducible rfl
      (try simp only [Act.put, List.setIfInBounds_toArray, List.set_cons_zero, List.set_cons_succ])
      refine wpAnyH_take (i := 5) (oi := { dst := some 12, op := _, type := _, pos := _, after := _, guard := _ }) (v := ?_) rfl (by kernel_rfl) (by kernel_rfl) (by kernel_rfl) (fun _ _ _ h => h) (Or.inl ⟨by rfl, ?_⟩) (by assumption) ?_
      rotate_left
      · (intro w hSw; (try dsimp only at hSw); go_simp) <;> with_reducible rfl
      (try simp only [Act.put, List.setIfInBounds_toArray, List.set_cons_zero, List.set_cons_succ])
      refine wpAnyH_take (i := 6) (oi := { dst := some 13, op := _, type := _, pos := _, after := _, guard := _ }) (v := ?_) rfl (by kernel_rfl) (by kernel_rfl) (by kernel_rfl) (fun _ _ _ h => h) (Or.inl ⟨by rfl, ?_⟩) (by assumption) ?_
      rotate_left
      · (intro w hSw; (try dsimp only at hSw); go_simp) <;> with_reducible rfl
      (try simp only [Act.put, List.setIfInBounds_toArray, List.set_cons_zero, List.set_cons_succ])
      refine wpAnyH_take (i := 7) (oi := { dst := some 14, op := _, type := _, pos := _, after := _, guard := _ }) (v := ?_) rfl (by kernel_rfl) (by kernel_rfl) (by kernel_rfl) (fun _ _ _ h => h) (Or.inl ⟨by rfl, ?_⟩) (by assumption) ?_
      rotate_left
      · (intro w hSw; (try dsimp only at hSw); go_simp) <;> with_reducible rfl
      (try simp only [Act.put, List.setIfInBounds_toArray, List.set_cons_zero, List.set_cons_succ])
      refine wpAnyH_take (i := 8) (oi := { dst := some 15, op := _, type := _, pos := _, after := _, guard := _ }) (v := ?_) rfl (by kernel_rfl) (by kernel_rfl) (by kernel_rfl) (fun _ _ _ h => h) (Or.inl ⟨by rfl, ?_⟩) (by assumption) ?_
      rotate_left
      · (intro w hSw; (try dsimp only at hSw); go_simp) <;> with_reducible rfl
      (try simp only [Act.put, List.setIfInBounds_toArray, List.set_cons_zero, List.set_cons_succ])
      refine wpAnyH_take (i := 9) (oi := { dst := some 16, op := _, type := _, pos := _, after := _, guard := _ }) (v := ?_) rfl (by kernel_rfl) (by kernel_rfl) (by kernel_rfl) (fun _ _ _ h => h) (Or.inl ⟨by rfl, ?_⟩) (by assumption) ?_
      rotate_left
      · (intro w hSw; (try dsimp only at hSw); go_simp) <;> with_reducible rfl
      (try simp only [Act.put, List.setIfInBounds_toArray, List.set_cons_zero, List.set_cons_succ])
      refine wpAnyH_take (i := 10) (oi := { dst := some 17, op := _, type := _, pos := _, after := _, guard := _ }) (v := ?_) rfl (by kernel_rfl) (by kernel_rfl) (by kernel_rfl) (fun _ _ _ h => h) (Or.inl ⟨by rfl, ?_⟩) (by assumption) ?_
      rotate_left
      · (intro w hSw; (try dsimp only at hSw); go_simp) <;> with_reducible rfl
      (try simp only [Act.put, List.setIfInBounds_toArray, List.set_cons_zero, List.set_cons_succ])
      refine wpAnyH_ready (rs := [11]) (by kernel_rfl) (by simp) ?_
      refine AllReadyH.cons (o := _) rfl (fun K hK => ?_) AllReadyH.nil
      go_simp
      refine (impl_areCalls hs).mono ?_; rw [HC.out]; rintro e w1 ⟨rfl, hw1⟩
      have C1 : Below w0.heap.size w0 w1 := by rw [← hw1]; exact C0
      try go_wp2_with fail
      refine hK.out _ _ (CA.out _ C1) (fun hHeld => ?_)
      clear hK K
      (try simp only [Act.put, List.setIfInBounds_toArray, List.set_cons_zero, List.set_cons_succ])
      refine wpAnyH_take (i := 12) (oi := { dst := some 19, op := _, type := _, pos := _, after := _, guard := _ }) (v := ?_) rfl (by kernel_rfl) (by kernel_rfl) (by kernel_rfl) (fun _ _ _ h => h) (Or.inl ⟨by rfl, ?_⟩) (by assumption) ?_
      rotate_left
      · (intro w hSw; (try dsimp only at hSw); go_simp) <;> with_reducible rfl
      (try simp only [Act.put, List.setIfInBounds_toArray, List.set_cons_zero, List.set_cons_succ])
      refine wpAnyH_take (i := 13) (oi := { dst := some 20, op := _, type := _, pos := _, after := _, guard := _ }) (v := ?_) rfl (by kernel_rfl) (by kernel_rfl) (by kernel_rfl) (fun _ _ _ h => h) (Or.inl ⟨by rfl, ?_⟩) (by assumption) ?_
      rotate_left
      · (intro w hSw; (try dsimp only at hSw); go_simp) <;> with_reducible rfl
      (try simp only [Act.put, List.setIfInBounds_toArray, List.set_cons_zero, List.set_cons_succ])
      refine wpAnyH_done (by kernel_rfl) ?_ _
      (try simp only [Act.put, List.setIfInBounds_toArray, List.set_cons_zero, List.set_cons_succ])
      go_wp2
      go_ret
      rw [e2.out]
      exact ⟨rfl, below_go b0 C1⟩
    · have HP := Lib.hid (show pfxB N s = true by rw [HPF.out, hc, decide_eq_true HLE.out]; rfl)
      have HC := Lib.hid hc
      clear hc
      refine wp_region_held_drew (S := fun u => (u.cell? ⟨D, 0, none⟩ = some (.string s) ∧ u.cell? ⟨D, 1, none⟩ = some (.int .i64 x) ∧ u.cell? ⟨D, 2, none⟩ = some (.int .i64 y)) ∧ u.cell? ⟨B, 5, none⟩ = some (.int .i64 (N : Int))) (by kernel_rfl) (CA.out _ C0) (fun hHeld => ?_)
      refine wpAnyH_take (i := 0) (oi := { dst := some 7, op := _, type := _, pos := _, after := _, guard := _ }) (v := ?_) rfl (by kernel_rfl) (by kernel_rfl) (by kernel_rfl) (fun _ _ _ h => h) (Or.inl ⟨by rfl, ?_⟩) (by assumption) ?_
      rotate_left
      · (intro w hSw; (try dsimp only at hSw); go_simp) <;> with_reducible rfl
      (try simp only [Act.put, List.setIfInBounds_toArray, List.set_cons_zero, List.set_cons_succ])
      refine wpAnyH_take (i := 1) (oi := { dst := some 8, op := _, type := _, pos := _, after := _, guard := _ }) (v := ?_) rfl (by kernel_rfl) (by kernel_rfl) (by kernel_rfl) (fun _ _ _ h => h) (Or.inl ⟨by rfl, ?_⟩) (by assumption) ?_
      rotate_left
      · (intro w hSw; (try dsimp only at hSw); go_simp) <;> with_reducible rfl
      (try simp only [Act.put, List.setIfInBounds_toArray, List.set_cons_zero, List.set_cons_succ])
      refine wpAnyH_take (i := 2) (oi := { dst := some 9, op := _, type := _, pos := _, after := _, guard := _ }) (v := ?_) rfl (by kernel_rfl) (by kernel_rfl) (by kernel_rfl) (fun _ _ _ h => h) (Or.inl ⟨by rfl, ?_⟩) (by assumption) ?_
      rotate_left
      · (intro w hSw; (try dsimp only at hSw); go_simp) <;> with_reducible rfl
      (try simp only [Act.put, List.setIfInBounds_toArray, List.set_cons_zero, List.set_cons_succ])
      refine wpAnyH_take (i := 3) (oi := { dst := some 10, op := _, type := _, pos := _, after := _, guard := _ }) (v := ?_) rfl (by kernel_rfl) (by kernel_rfl) (by kernel_rfl) (fun _ _ _ h => h) (Or.inl ⟨by rfl, ?_⟩) (by assumption) ?_
      rotate_left
      · (intro w hSw; (try dsimp only at hSw); go_simp) <;> with_reducible rfl
      (try simp only [Act.put, List.setIfInBounds_toArray, List.set_cons_zero, List.set_cons_succ])
      refine wpAnyH_take (i := 4) (oi := { dst := some 11, op := _, type := _, pos := _, after := _, guard := _ }) (v := ?_) rfl (by kernel_rfl) (by kernel_rfl) (by kernel_rfl) (fun _ _ _ h => h) (Or.inl ⟨by rfl, ?_⟩) (by assumption) ?_
      rotate_left
      · (intro w hSw; (try dsimp only at hSw); go_simp) <;> with_reducible rfl
      (try simp only [Act.put, List.setIfInBounds_toArray, List.set_cons_zero, List.set_cons_succ])
      refine wpAnyH_take (i := 5) (oi := { dst := some 12, op := _, type := _, pos := _, after := _, guard := _ }) (v := ?_) rfl (by kernel_rfl) (by kernel_rfl) (by kernel_rfl) (fun _ _ _ h => h) (Or.inl ⟨by rfl, ?_⟩) (by assumption) ?_
      rotate_left
      · (intro w hSw; (try dsimp only at hSw); go_simp) <;> with_reducible rfl
      (try simp only [Act.put, List.setIfInBounds_toArray, List.set_cons_zero, List.set_cons_succ])
      refine wpAnyH_take (i := 6) (oi := { dst := some 13, op := _, type := _, pos := _, after := _, guard := _ }) (v := ?_) rfl (by kernel_rfl) (by kernel_rfl) (by kernel_rfl) (fun _ _ _ h => h) (Or.inl ⟨by rfl, ?_⟩) (by assumption) ?_
      rotate_left
      · (intro w hSw; (try dsimp only at hSw); go_simp) <;> with_reducible rfl
      (try simp only [Act.put, List.setIfInBounds_toArray, List.set_cons_zero, List.set_cons_succ])
      refine wpAnyH_take (i := 7) (oi := { dst := some 14, op := _, type := _, pos := _, after := _, guard := _ }) (v := ?_) rfl (by kernel_rfl) (by kernel_rfl) (by kernel_rfl) (fun _ _ _ h => h) (Or.inl ⟨by rfl, ?_⟩) (by assumption) ?_
      rotate_left
      · (intro w hSw; (try dsimp only at hSw); go_simp) <;> with_reducible rfl
      (try simp only [Act.put, List.setIfInBounds_toArray, List.set_cons_zero, List.set_cons_succ])
      refine wpAnyH_take (i := 8) (oi := { dst := some 15, op := _, type := _, pos := _, after := _, guard := _ }) (v := ?_) rfl (by kernel_rfl) (by kernel_rfl) (by kernel_rfl) (fun _ _ _ h => h) (Or.inl ⟨by rfl, ?_⟩) (by assumption) ?_
      rotate_left
      · (intro w hSw; (try dsimp only at hSw); go_simp) <;> with_reducible rfl
      (try simp only [Act.put, List.setIfInBounds_toArray, List.set_cons_zero, List.set_cons_succ])
      refine wpAnyH_take (i := 9) (oi := { dst := some 16, op := _, type := _, pos := _, after := _, guard := _ }) (v := ?_) rfl (by kernel_rfl) (by kernel_rfl) (by kernel_rfl) (fun _ _ _ h => h) (Or.inl ⟨by rfl, ?_⟩) (by assumption) ?_
      rotate_left
      · (intro w hSw; (try dsimp only at hSw); go_simp) <;> with_reducible rfl
      (try simp only [Act.put, List.setIfInBounds_toArray, List.set_cons_zero, List.set_cons_succ])
      refine wpAnyH_take (i := 10) (oi := { dst := some 17, op := _, type := _, pos := _, after := _, guard := _ }) (v := ?_) rfl (by kernel_rfl) (by kernel_rfl) (by kernel_rfl) (fun _ _ _ h => h) (Or.inl ⟨by rfl, ?_⟩) (by assumption) ?_
      rotate_left
      · (intro w hSw; (try dsimp only at hSw); go_simp) <;> with_reducible rfl
      (try simp only [Act.put, List.setIfInBounds_toArray, List.set_cons_zero, List.set_cons_succ])
      refine wpAnyH_ready (rs := [11]) (by kernel_rfl) (by simp) ?_
      refine AllReadyH.cons (o := _) rfl (fun K hK => ?_) AllReadyH.nil
      go_simp
      refine (impl_areCalls hs).mono ?_; rw [HC.out]; rintro e w1 ⟨rfl, hw1⟩
      have C1 : Below w0.heap.size w0 w1 := by rw [← hw1]; exact C0
      try go_wp2_with fail
      refine hK.out _ _ (CA.out _ C1) (fun hHeld => ?_)
      clear hK K
      (try simp only [Act.put, List.setIfInBounds_toArray, List.set_cons_zero, List.set_cons_succ])
      refine wpAnyH_take (i := 12) (oi := { dst := some 19, op := _, type := _, pos := _, after := _, guard := _ }) (v := ?_) rfl (by kernel_rfl) (by kernel_rfl) (by kernel_rfl) (fun _ _ _ h => h) (Or.inl ⟨by rfl, ?_⟩) (by assumption) ?_
      rotate_left
      · (intro w hSw; (try dsimp only at hSw); go_simp) <;> with_reducible rfl
      (try simp only [Act.put, List.setIfInBounds_toArray, List.set_cons_zero, List.set_cons_succ])
      refine wpAnyH_take (i := 13) (oi := { dst := some 20, op := _, type := _, pos := _, after := _, guard := _ }) (v := ?_) rfl (by kernel_rfl) (by kernel_rfl) (by kernel_rfl) (fun _ _ _ h => h) (Or.inl ⟨by rfl, ?_⟩) (by assumption) ?_
      rotate_left
      · (intro w hSw; (try dsimp only at hSw); go_simp) <;> with_reducible rfl
      (try simp only [Act.put, List.setIfInBounds_toArray, List.set_cons_zero, List.set_cons_succ])
      refine wpAnyH_done (by kernel_rfl) ?_ _
      (try simp only [Act.put, List.setIfInBounds_toArray, List.set_cons_zero, List.set_cons_succ])
      have K1 := KB.up C1
      have D1 := KD.up C1
      have HM1 := Lib.hid (HM.out.up C1)
      have HS1 := Lib.hid (HS.out.up C1)
      have hpp := pfx_pre HP.out hN
      have HJN := Lib.hid (fun hq => @jus_none (cutF st l kb ks N) N (s, x, y) hq)
      have HJS := Lib.hid (fun (t : ByteArray) (a b : Int) hq => @jus_some (cutF st l kb ks N) N s t x y a b HP.out hq (cut_fst s _ hq))
      obtain ⟨cu, hcu⟩ : ∃ u, u = cutF st l kb ks N s := ⟨_, rfl⟩
      have HCU := Lib.hid hcu
      have d0 := D1.cell 0; have d1 := D1.cell 1; have d2 := D1.cell 2
      simp only [List.getElem?_cons_zero, List.getElem?_cons_succ] at d0 d1 d2
      clear hcu
      go_wp2_with fail
      refine (impl_cutOf hn HS1.out hk K1 HM1.out hpp.1 (by omega)).mono ?_; rw [← HCU.out]; intro e w2 hx
      obtain ⟨s2, x2, y2, rfl, hz2, hb2⟩ := hx
      have C2 := below_go C1 hb2
      have D2 := D1.up hb2
      have HZ2 := Lib.hid hz2
      clear hz2 d0 d1 d2 D1
      have d0 := D2.cell 0; have d1 := D2.cell 1; have d2 := D2.cell 2
      simp only [List.getElem?_cons_zero, List.getElem?_cons_succ] at d0 d1 d2
      have hDlt := D2.lt
      have hDne : ¬ D = w2.heap.size := by omega
      have D3 := D2.alloc (.cells #[.string s2, .int .i64 x2, .int .i64 y2] 29)
      have c0 := D3.cell 0; have c1 := D3.cell 1; have c2 := D3.cell 2
      simp only [List.getElem?_cons_zero, List.getElem?_cons_succ] at c0 c1 c2
      have b3 : Below w2.heap.size w2 (w2.alloc (.cells #[.string s2, .int .i64 x2, .int .i64 y2] 29)) := by (repeat' (first | (with_reducible exact Below.refl _ _) | (with_reducible assumption) | (with_reducible refine below_drewN ?_ _) | (with_reducible refine Below.drew ?_) | (with_reducible refine below_alloc ?_ _) | (with_reducible refine Below.alloc ?_ ?_ _) | (with_reducible refine Below.setCell ?_ ?_ _) | (with_reducible refine below_go ?_ (by with_reducible assumption)) | (with_reducible refine below_then (by with_reducible assumption) ?_ ?_) | go_size))
      have C3 := below_go C2 b3
      have B3 := below_go b0 C3
      rcases cu with _ | ⟨t, a, b⟩
      · have e2 := Lib.hid (HJN.out HCU.out.symm)
        go_wp2
        go_ret
        rw [e2.out]
        exact ⟨rfl, B3⟩
      · have e3 := HZ2.out _ rfl
        injection e3 with e3 e4
        injection e4 with e4 e5
        subst e3 e4 e5
        have e2 := Lib.hid (HJS.out t a b HCU.out.symm)
        obtain rfl : t = s := cut_fst s _ HCU.out.symm
        by_cases h1 : x = a
        · have i1 : (x == a) = true := beq_iff_eq.2 h1
          by_cases h2 : y = b
          · have i2 : (y == b) = true := beq_iff_eq.2 h2
            have I1 := Lib.hid i1; have I2 := Lib.hid i2
            subst h1 h2
            clear i1 i2
            go_wp2
            go_ret
            rw [e2.out, I1.out, I2.out]
            exact ⟨rfl, B3⟩
          · have i2 : (y == b) = false := beq_eq_false_iff_ne.2 h2
            have I1 := Lib.hid i1; have I2 := Lib.hid i2
            subst h1
            clear i1
            go_wp2
            go_ret
            rw [e2.out, I1.out, I2.out]
            exact ⟨rfl, B3⟩
        · have i1 : (x == a) = false := beq_eq_false_iff_ne.2 h1
          have I1 := Lib.hid i1
          go_wp2
          go_ret
          rw [e2.out, I1.out]
          exact ⟨rfl, B3⟩
  · have hI : (N : Int) < (s.size : Int) := by omega
    have e2 := Lib.hid (show jusB (cutF st l kb ks N) N (s, x, y) = false from jus_f (show pfxB N s = false by rw [HPF.out, decide_eq_false hle]; rfl))
    clear hle
    refine wp_region_held_drew (S := fun u => (u.cell? ⟨D, 0, none⟩ = some (.string s) ∧ u.cell? ⟨D, 1, none⟩ = some (.int .i64 x) ∧ u.cell? ⟨D, 2, none⟩ = some (.int .i64 y)) ∧ u.cell? ⟨B, 5, none⟩ = some (.int .i64 (N : Int))) (by kernel_rfl) (CA.out _ C0) (fun hHeld => ?_)
    refine wpAnyH_take (i := 0) (oi := { dst := some 7, op := _, type := _, pos := _, after := _, guard := _ }) (v := ?_) rfl (by kernel_rfl) (by kernel_rfl) (by kernel_rfl) (fun _ _ _ h => h) (Or.inl ⟨by rfl, ?_⟩) (by assumption) ?_
    rotate_left
    · (intro w hSw; (try dsimp only at hSw); go_simp) <;> with_reducible rfl
    (try simp only [Act.put, List.setIfInBounds_toArray, List.set_cons_zero, List.set_cons_succ])
    refine wpAnyH_take (i := 1) (oi := { dst := some 8, op := _, type := _, pos := _, after := _, guard := _ }) (v := ?_) rfl (by kernel_rfl) (by kernel_rfl) (by kernel_rfl) (fun _ _ _ h => h) (Or.inl ⟨by rfl, ?_⟩) (by assumption) ?_
    rotate_left
    · (intro w hSw; (try dsimp only at hSw); go_simp) <;> with_reducible rfl
    (try simp only [Act.put, List.setIfInBounds_toArray, List.set_cons_zero, List.set_cons_succ])
    refine wpAnyH_take (i := 2) (oi := { dst := some 9, op := _, type := _, pos := _, after := _, guard := _ }) (v := ?_) rfl (by kernel_rfl) (by kernel_rfl) (by kernel_rfl) (fun _ _ _ h => h) (Or.inl ⟨by rfl, ?_⟩) (by assumption) ?_
    rotate_left
    · (intro w hSw; (try dsimp only at hSw); go_simp) <;> with_reducible rfl
    (try simp only [Act.put, List.setIfInBounds_toArray, List.set_cons_zero, List.set_cons_succ])
    refine wpAnyH_take (i := 3) (oi := { dst := some 10, op := _, type := _, pos := _, after := _, guard := _ }) (v := ?_) rfl (by kernel_rfl) (by kernel_rfl) (by kernel_rfl) (fun _ _ _ h => h) (Or.inl ⟨by rfl, ?_⟩) (by assumption) ?_
    rotate_left
    · (intro w hSw; (try dsimp only at hSw); go_simp) <;> with_reducible rfl
    (try simp only [Act.put, List.setIfInBounds_toArray, List.set_cons_zero, List.set_cons_succ])
    refine wpAnyH_take (i := 4) (oi := { dst := some 11, op := _, type := _, pos := _, after := _, guard := _ }) (v := ?_) rfl (by kernel_rfl) (by kernel_rfl) (by kernel_rfl) (fun _ _ _ h => h) (Or.inl ⟨by rfl, ?_⟩) (by assumption) ?_
    rotate_left
    · (intro w hSw; (try dsimp only at hSw); go_simp) <;> with_reducible rfl
    (try simp only [Act.put, List.setIfInBounds_toArray, List.set_cons_zero, List.set_cons_succ])
    refine wpAnyH_take (i := 5) (oi := { dst := some 12, op := _, type := _, pos := _, after := _, guard := _ }) (v := ?_) rfl (by kernel_rfl) (by kernel_rfl) (by kernel_rfl) (fun _ _ _ h => h) (Or.inl ⟨by rfl, ?_⟩) (by assumption) ?_
    rotate_left
    · (intro w hSw; (try dsimp only at hSw); go_simp) <;> with_reducible rfl
    (try simp only [Act.put, List.setIfInBounds_toArray, List.set_cons_zero, List.set_cons_succ])
    refine wpAnyH_take (i := 6) (oi := { dst := some 13, op := _, type := _, pos := _, after := _, guard := _ }) (v := ?_) rfl (by kernel_rfl) (by kernel_rfl) (by kernel_rfl) (fun _ _ _ h => h) (Or.inl ⟨by rfl, ?_⟩) (by assumption) ?_
    rotate_left
    · (intro w hSw; (try dsimp only at hSw); go_simp) <;> with_reducible rfl
    (try simp only [Act.put, List.setIfInBounds_toArray, List.set_cons_zero, List.set_cons_succ])
    refine wpAnyH_take (i := 7) (oi := { dst := some 14, op := _, type := _, pos := _, after := _, guard := _ }) (v := ?_) rfl (by kernel_rfl) (by kernel_rfl) (by kernel_rfl) (fun _ _ _ h => h) (Or.inl ⟨by rfl, ?_⟩) (by assumption) ?_
    rotate_left
    · (intro w hSw; (try dsimp only at hSw); go_simp) <;> with_reducible rfl
    (try simp only [Act.put, List.setIfInBounds_toArray, List.set_cons_zero, List.set_cons_succ])
    refine wpAnyH_take (i := 8) (oi := { dst := some 15, op := _, type := _, pos := _, after := _, guard := _ }) (v := ?_) rfl (by kernel_rfl) (by kernel_rfl) (by kernel_rfl) (fun _ _ _ h => h) (Or.inl ⟨by rfl, ?_⟩) (by assumption) ?_
    rotate_left
    · (intro w hSw; (try dsimp only at hSw); go_simp) <;> with_reducible rfl
    (try simp only [Act.put, List.setIfInBounds_toArray, List.set_cons_zero, List.set_cons_succ])
    refine wpAnyH_take (i := 9) (oi := { dst := some 16, op := _, type := _, pos := _, after := _, guard := _ }) (v := undef) rfl (by kernel_rfl) (by kernel_rfl) (by kernel_rfl) (fun _ _ _ h => h) (Or.inr ⟨by rfl, rfl⟩) (by assumption) ?_
    (try simp only [Act.put, List.setIfInBounds_toArray, List.set_cons_zero, List.set_cons_succ])
    refine wpAnyH_take (i := 10) (oi := { dst := some 17, op := _, type := _, pos := _, after := _, guard := _ }) (v := undef) rfl (by kernel_rfl) (by kernel_rfl) (by kernel_rfl) (fun _ _ _ h => h) (Or.inr ⟨by rfl, rfl⟩) (by assumption) ?_
    (try simp only [Act.put, List.setIfInBounds_toArray, List.set_cons_zero, List.set_cons_succ])
    refine wpAnyH_ready (rs := [11]) (by kernel_rfl) (by simp) ?_
    refine AllReadyH.cons (o := _) rfl (fun K hK => ?_) AllReadyH.nil
    go_simp
    refine hK.out _ _ (CA.out _ C0) (fun hHeld => ?_)
    clear hK K
    (try simp only [Act.put, List.setIfInBounds_toArray, List.set_cons_zero, List.set_cons_succ])
    refine wpAnyH_take (i := 12) (oi := { dst := some 19, op := _, type := _, pos := _, after := _, guard := _ }) (v := undef) rfl (by kernel_rfl) (by kernel_rfl) (by kernel_rfl) (fun _ _ _ h => h) (Or.inr ⟨by rfl, rfl⟩) (by assumption) ?_
    (try simp only [Act.put, List.setIfInBounds_toArray, List.set_cons_zero, List.set_cons_succ])
    refine wpAnyH_take (i := 13) (oi := { dst := some 20, op := _, type := _, pos := _, after := _, guard := _ }) (v := ?_) rfl (by kernel_rfl) (by kernel_rfl) (by kernel_rfl) (fun _ _ _ h => h) (Or.inl ⟨by rfl, ?_⟩) (by assumption) ?_
    rotate_left
    · (intro w hSw; (try dsimp only at hSw); go_simp) <;> with_reducible rfl
    (try simp only [Act.put, List.setIfInBounds_toArray, List.set_cons_zero, List.set_cons_succ])
    refine wpAnyH_done (by kernel_rfl) ?_ _
    (try simp only [Act.put, List.setIfInBounds_toArray, List.set_cons_zero, List.set_cons_succ])
    go_wp2
    go_ret
    rw [e2.out]
    exact ⟨rfl, below_go b0 C0⟩
end Go.Proofs.YtidolgonmimicaaGreat
namespace Go.Proofs.YtidolgonmimicaaGreat
open Go.ChangeShapes Go.WideShapes Go.ChangeAt Go.RowKit Go.Deep
open Go.Maps (Keyed string_keyed)
def askS (nm : ByteArray) (st : Nat) (l : List ByteArray) (kb ks : ByteArray) (N : Nat) : Bool := goodK nm (st : Int) l kb ks && inB (N : Int) 1 6
theorem askS_t {nm : ByteArray} {st : Nat} {l : List ByteArray} {kb ks : ByteArray} {N : Nat} (h : askS nm st l kb ks N = true) : goodK nm (st : Int) l kb ks = true ∧ 1 ≤ N ∧ N ≤ 6 := by
  rw [askS, Bool.and_eq_true] at h
  have := inB_t h.2
  exact ⟨h.1, by omega, by omega⟩
noncomputable def icV (nm : ByteArray) (st : Nat) (l : List ByteArray) (kb ks : ByteArray) (N : Nat) (c : Cut3) : Bool := askS nm st l kb ks N && jusB (cutF st l kb ks N) N c
set_option maxHeartbeats 4000000 in
set_option maxRecDepth 100000 in
theorem impl_IsCut {A : Option Addr} {n c st : Nat} {nm : ByteArray} {l : List ByteArray} {kb ks s : ByteArray} {N : Nat} {x y : Int} {w : World} (hn : l.length = n) (h : Strs w A l) (hz : n ≤ 1048576) (hs : ∀ s ∈ l, s.size ≤ 16777216) (hnm : nm.size ≤ 16777216) (h9 : st ≤ 1000) (hkb : kb.size ≤ 16777216) (hks : ks.size ≤ 16777216) (hN : N ≤ 1000) (hsz : s.size ≤ 16777216) :
    Calls Tryz.prog 10 #[.agg #[.string nm, .int .i64 st, .slice A n c], .agg #[.string kb, .string ks], .int .i64 (N : Int), .agg #[.string s, .int .i64 x, .int .i64 y]] w fun e w' => e = .returned (.tuple #[.bool (icV nm st l kb ks N (s, x, y)), .bool (askS nm st l kb ks N)]) ∧ Below w.heap.size w w' := by
  have HQ : Hid (icV nm st l kb ks N (s, x, y) = (askS nm st l kb ks N && jusB (cutF st l kb ks N) N (s, x, y))) := Lib.hid rfl
  have HA : Hid (askS nm st l kb ks N = (goodK nm (st : Int) l kb ks && inB (N : Int) 1 6)) := Lib.hid rfl
  have HT := Lib.hid (@askS_t nm st l kb ks N)
  have b0 : Below w.heap.size w (((w.alloc (.cells ⟨[.string nm, .int .i64 st, .slice A n c]⟩ 25)).alloc (.cells ⟨[.string kb, .string ks]⟩ 27)).alloc (.cells #[.string s, .int .i64 x, .int .i64 y] 29)) := by (repeat' (first | (with_reducible exact Below.refl _ _) | (with_reducible assumption) | (with_reducible refine below_drewN ?_ _) | (with_reducible refine Below.drew ?_) | (with_reducible refine below_alloc ?_ _) | (with_reducible refine Below.alloc ?_ ?_ _) | (with_reducible refine Below.setCell ?_ ?_ _) | (with_reducible refine below_go ?_ (by with_reducible assumption)) | (with_reducible refine below_then (by with_reducible assumption) ?_ ?_) | go_size))
  have K0 := ((Blk.at_ w 25 [.string nm, .int .i64 st, .slice A n c] (b := w.heap.size) rfl).alloc (.cells ⟨[.string kb, .string ks]⟩ 27)).alloc (.cells #[.string s, .int .i64 x, .int .i64 y] 29)
  have J0 := (Blk.at_ (w.alloc (.cells ⟨[.string nm, .int .i64 st, .slice A n c]⟩ 25)) 27 [.string kb, .string ks] (b := w.heap.size + 1) (by simp)).alloc (.cells #[.string s, .int .i64 x, .int .i64 y] 29)
  have D0 := Blk.at_ ((w.alloc (.cells ⟨[.string nm, .int .i64 st, .slice A n c]⟩ 25)).alloc (.cells ⟨[.string kb, .string ks]⟩ 27)) 29 [.string s, .int .i64 x, .int .i64 y] (b := w.heap.size + 1 + 1) (by simp)
  have H0 := h.up b0
  clear h
  go_in
  go_wp2_with fail
  refine (impl_goodSearch (nm := nm) hn H0 hz hs hnm h9 hkb hks hN).mono ?_; rw [← HA.out]; rintro e w1 ⟨rfl, hb1⟩
  have K1 := K0.up hb1
  have J1 := J0.up hb1
  have D1 := D0.up hb1
  have H1 := Lib.hid (H0.up hb1)
  have B1 := below_go b0 hb1
  clear K0 J0 D0 H0 b0 hb1
  rcases hg : askS nm st l kb ks N
  · have e2 := Lib.hid hg
    go_wp2
    go_ret2
    rw [HQ.out, e2.out]
    exact ⟨rfl, B1⟩
  · have e2 := Lib.hid hg
    obtain ⟨hk, hN1, hN6⟩ := HT.out hg
    clear hg
    go_upto_region 3 with fail
    have C0 : Below w1.heap.size w1 w1.drew := (Below.refl _ _).drew
    have CA : Hid (∀ u : World, Below w1.heap.size w1 u → (u.cell? ⟨w.heap.size, 0, none⟩ = some (.string nm) ∧ u.cell? ⟨w.heap.size, 1, none⟩ = some (.int .i64 st) ∧ u.cell? ⟨w.heap.size, 2, none⟩ = some (.slice A n c)) ∧ (u.cell? ⟨w.heap.size + 1, 0, none⟩ = some (.string kb) ∧ u.cell? ⟨w.heap.size + 1, 1, none⟩ = some (.string ks)) ∧ u.cell? ⟨w.heap.size + 1 + 1, 0, none⟩ = some (.string s) ∧ u.cell? ⟨w.heap.size + 1 + 1, 1, none⟩ = some (.int .i64 x) ∧ u.cell? ⟨w.heap.size + 1 + 1, 2, none⟩ = some (.int .i64 y)) := Lib.hid (fun u hu => by
      have L0 := K1.up hu; have L1 := J1.up hu; have L2 := D1.up hu
      exact ⟨⟨by simpa using L0.cell 0, by simpa using L0.cell 1, by simpa using L0.cell 2⟩, ⟨by simpa using L1.cell 0, by simpa using L1.cell 1⟩, by simpa using L2.cell 0, by simpa using L2.cell 1, by simpa using L2.cell 2⟩)
    refine wp_region_held_drew (S := fun u => (u.cell? ⟨w.heap.size, 0, none⟩ = some (.string nm) ∧ u.cell? ⟨w.heap.size, 1, none⟩ = some (.int .i64 st) ∧ u.cell? ⟨w.heap.size, 2, none⟩ = some (.slice A n c)) ∧ (u.cell? ⟨w.heap.size + 1, 0, none⟩ = some (.string kb) ∧ u.cell? ⟨w.heap.size + 1, 1, none⟩ = some (.string ks)) ∧ u.cell? ⟨w.heap.size + 1 + 1, 0, none⟩ = some (.string s) ∧ u.cell? ⟨w.heap.size + 1 + 1, 1, none⟩ = some (.int .i64 x) ∧ u.cell? ⟨w.heap.size + 1 + 1, 2, none⟩ = some (.int .i64 y)) (by kernel_rfl) (CA.out _ C0) (fun hHeld => ?_)
    refine wpAnyH_take (i := 0) (oi := { dst := some 15, op := _, type := _, pos := _, after := _, guard := _ }) (v := ?_) rfl (by kernel_rfl) (by kernel_rfl) (by kernel_rfl) (fun _ _ _ h => h) (Or.inl ⟨by rfl, ?_⟩) (by assumption) ?_
    rotate_left
    · (intro w hSw; (try dsimp only at hSw); go_simp) <;> with_reducible rfl
    (try simp only [Act.put, List.setIfInBounds_toArray, List.set_cons_zero, List.set_cons_succ])
    refine wpAnyH_take (i := 1) (oi := { dst := some 16, op := _, type := _, pos := _, after := _, guard := _ }) (v := ?_) rfl (by kernel_rfl) (by kernel_rfl) (by kernel_rfl) (fun _ _ _ h => h) (Or.inl ⟨by rfl, ?_⟩) (by assumption) ?_
    rotate_left
    · (intro w hSw; (try dsimp only at hSw); go_simp) <;> with_reducible rfl
    (try simp only [Act.put, List.setIfInBounds_toArray, List.set_cons_zero, List.set_cons_succ])
    refine wpAnyH_take (i := 2) (oi := { dst := some 17, op := _, type := _, pos := _, after := _, guard := _ }) (v := ?_) rfl (by kernel_rfl) (by kernel_rfl) (by kernel_rfl) (fun _ _ _ h => h) (Or.inl ⟨by rfl, ?_⟩) (by assumption) ?_
    rotate_left
    · (intro w hSw; (try dsimp only at hSw); go_simp) <;> with_reducible rfl
    (try simp only [Act.put, List.setIfInBounds_toArray, List.set_cons_zero, List.set_cons_succ])
    refine wpAnyH_take (i := 4) (oi := { dst := some 19, op := _, type := _, pos := _, after := _, guard := _ }) (v := ?_) rfl (by kernel_rfl) (by kernel_rfl) (by kernel_rfl) (fun _ _ _ h => h) (Or.inl ⟨by rfl, ?_⟩) (by assumption) ?_
    rotate_left
    · (intro w hSw; (try dsimp only at hSw); go_simp) <;> with_reducible rfl
    (try simp only [Act.put, List.setIfInBounds_toArray, List.set_cons_zero, List.set_cons_succ])
    refine wpAnyH_ready (rs := [3]) (by kernel_rfl) (by simp) ?_
    refine AllReadyH.cons (o := _) rfl (fun K hK => ?_) AllReadyH.nil
    go_simp
    refine (impl_newSearcher (nm := nm) hn (H1.out.up C0) hz hs hnm h9 hk hN).mono ?_; rintro e w3 ⟨B, b, rfl, hKB, hm3, hb, hbB, hb3⟩
    have C1 := below_go C0 hb3
    try go_wp2_with fail
    refine hK.out _ _ (CA.out _ C1) (fun hHeld => ?_)
    clear hK K
    (try simp only [Act.put, List.setIfInBounds_toArray, List.set_cons_zero, List.set_cons_succ])
    refine wpAnyH_ready (rs := [5]) (by kernel_rfl) (by simp) ?_
    refine AllReadyH.cons (o := _) rfl (fun K hK => ?_) AllReadyH.nil
    go_simp
    refine (impl_justified (s := s) (x := x) (y := y) hn (H1.out.up C1) hk hKB hm3 hsz (by omega)).mono ?_; rintro e w4 ⟨rfl, hb4⟩
    have C2 := below_go C1 hb4
    try go_wp2_with fail
    refine hK.out _ _ (CA.out _ C2) (fun hHeld => ?_)
    clear hK K
    (try simp only [Act.put, List.setIfInBounds_toArray, List.set_cons_zero, List.set_cons_succ])
    refine wpAnyH_take (i := 6) (oi := { dst := some 8, op := _, type := _, pos := _, after := _, guard := _ }) (v := ?_) rfl (by kernel_rfl) (by kernel_rfl) (by kernel_rfl) (fun _ _ _ h => h) (Or.inl ⟨by rfl, ?_⟩) (by assumption) ?_
    rotate_left
    · (intro w hSw; (try dsimp only at hSw); go_simp) <;> with_reducible rfl
    (try simp only [Act.put, List.setIfInBounds_toArray, List.set_cons_zero, List.set_cons_succ])
    refine wpAnyH_take (i := 7) (oi := { dst := some 9, op := _, type := _, pos := _, after := _, guard := _ }) (v := ?_) rfl (by kernel_rfl) (by kernel_rfl) (by kernel_rfl) (fun _ _ _ h => h) (Or.inl ⟨by rfl, ?_⟩) (by assumption) ?_
    rotate_left
    · (intro w hSw; (try dsimp only at hSw); go_simp) <;> with_reducible rfl
    (try simp only [Act.put, List.setIfInBounds_toArray, List.set_cons_zero, List.set_cons_succ])
    refine wpAnyH_done (by kernel_rfl) ?_ _
    (try simp only [Act.put, List.setIfInBounds_toArray, List.set_cons_zero, List.set_cons_succ])
    go_wp2
    go_ret2
    rw [HQ.out, e2.out, Bool.true_and]
    exact ⟨rfl, below_go B1 C2⟩
set_option maxHeartbeats 1000000 in
theorem spec_l13Asked {A : Option Addr} {n c st : Nat} {nm : ByteArray} {l : List ByteArray} {kb ks : ByteArray} {N : Nat} {w : World} (hn : l.length = n) (h : Strs w A l) (hz : n ≤ 1048576) (hs : ∀ s ∈ l, s.size ≤ 16777216) (hnm : nm.size ≤ 16777216) (h9 : st ≤ 1000) (hkb : kb.size ≤ 16777216) (hks : ks.size ≤ 16777216) (hN : N ≤ 1000) :
    Calls Tryz.prog 77 #[.agg #[.string nm, .int .i64 st, .slice A n c], .agg #[.string kb, .string ks], .int .i64 (N : Int)] w fun e w' => e = .returned (.bool (askS nm st l kb ks N)) ∧ Below w.heap.size w w' := by
  have HA : Hid (askS nm st l kb ks N = (goodK nm (st : Int) l kb ks && inB (N : Int) 1 6)) := Lib.hid rfl
  have b0 : Below w.heap.size w ((w.alloc (.cells ⟨[.string nm, .int .i64 st, .slice A n c]⟩ 25)).alloc (.cells ⟨[.string kb, .string ks]⟩ 27)) := by (repeat' (first | (with_reducible exact Below.refl _ _) | (with_reducible assumption) | (with_reducible refine below_drewN ?_ _) | (with_reducible refine Below.drew ?_) | (with_reducible refine below_alloc ?_ _) | (with_reducible refine Below.alloc ?_ ?_ _) | (with_reducible refine Below.setCell ?_ ?_ _) | (with_reducible refine below_go ?_ (by with_reducible assumption)) | (with_reducible refine below_then (by with_reducible assumption) ?_ ?_) | go_size))
  have hI : I64 (st : Int) := ⟨by omega, by omega⟩
  go_in
  go_wp2_with fail
  refine (spec_l8Good hn (h.up b0) hz hs hnm hI hkb hks).mono ?_; rintro e w1 ⟨rfl, hb1⟩
  have B1 := below_go b0 hb1
  rcases hk : goodK nm (st : Int) l kb ks
  · have e2 := Lib.hid hk
    go_wp2
    go_ret
    rw [HA.out, e2.out]
    exact ⟨rfl, B1⟩
  · have e2 := Lib.hid hk
    go_wp2_with fail
    refine (spec_l1In _ _ _ _).mono ?_; rintro e w2 ⟨rfl, rfl⟩
    go_wp2
    go_ret
    rw [HA.out, e2.out]
    exact ⟨rfl, B1⟩
set_option maxRecDepth 100000 in
theorem spec_l13Prefix {t : ByteArray} {N : Nat} {w : World} (hz : t.size ≤ 16777216) (hN : N ≤ 1000) :
    Calls Tryz.prog 169 #[.string t, .int .i64 (N : Int)] w fun e w' => e = .returned (.bool (pfxB N t)) ∧ w = w' := by
  have gb := PlainAid.get_bt t
  have HQ : Hid (pfxB N t = (decide (t.size ≤ N) && (List.range t.size).all (callB t))) := Lib.hid rfl
  go_in
  go_wp2
  go_loopw [5] (fun i wr => ∃ k : Nat, k ≤ t.size ∧ i = .int .i64 k ∧ Hid (∀ j, j < k → callB t j = true) ∧ w = wr) (fun i _ => t.size - (intOf i).toNat)
  case atStart => exact ⟨0, Nat.zero_le _, rfl, Lib.hid (fun j hj => absurd hj (by omega)), rfl⟩
  case round =>
    obtain ⟨k, hk, rfl, HK, rfl⟩ := hrel
    by_cases hlt : k < t.size
    · go_wp2_with fail
      refine (spec_l8Call (s := letter t k)).mono ?_; rintro e w' ⟨rfl, rfl⟩
      have E := Lib.hid (isCl_letter hlt)
      rcases hg : isCl (letter t k)
      · have e1 := Lib.hid (show pfxB N t = false by
          rw [HQ.out, show (List.range t.size).all (callB t) = false from by rw [List.all_eq_false]; exact ⟨k, List.mem_range.2 hlt, by rw [← E.out, hg]; simp⟩, Bool.and_false])
        go_wp2
        go_ret
        rw [e1.out]
        exact ⟨rfl, rfl⟩
      · have e1 := Lib.hid (show callB t k = true by rw [← E.out, hg])
        go_wp2
        go_roundw
        case rel => exact ⟨k + 1, by omega, by go_num, Lib.hid (upto_succ HK.out e1.out), trivial⟩
        case measure => simp [intOf]; omega
    · obtain rfl : k = t.size := by omega
      have e1 := Lib.hid (show pfxB N t = decide (t.size ≤ N) by rw [HQ.out, show (List.range t.size).all (callB t) = true from by rw [List.all_eq_true]; exact fun j hj => HK.out j (List.mem_range.1 hj), Bool.and_true])
      by_cases hle : t.size ≤ N
      · have hI : (t.size : Int) ≤ (N : Int) := by omega
        have e3 := Lib.hid (decide_eq_true hle)
        clear hle
        go_wp2
        go_ret
        rw [e1.out, e3.out]
        exact ⟨rfl, rfl⟩
      · have hI : ¬ (t.size : Int) ≤ (N : Int) := by omega
        have e3 := Lib.hid (decide_eq_false hle)
        clear hle
        go_wp2
        go_ret
        rw [e1.out, e3.out]
        exact ⟨rfl, rfl⟩
end Go.Proofs.YtidolgonmimicaaGreat
