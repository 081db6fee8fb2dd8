/- Texts 3 of 8 that the claim leans on: plain laws and the walks' contracts, in order. -/
import Derived.Test.YtidolgonmimicaaGreatMCuts2
import Derived.Deep.RegionHeld3
import Derived.Test.YtidolgonmimicaaGreatRows
import Derived.StillTailTactics
import Derived.Laws.BytesArg
set_option linter.unusedVariables false
set_option linter.unusedSimpArgs false
namespace Go.Proofs.YtidolgonmimicaaGreat
open Go.ChangeShapes Go.WideShapes Go.ChangeAt Go.RowKit Go.Deep
open Go.Maps (Keyed string_keyed int_keyed)
open Go.Maps (keyOf_int_mk)
def preT (t : ByteArray) : Prop := t.size ≤ 60 ∧ ∀ k, k < t.size → callB t k = true
theorem goodT.pre {t : ByteArray} (h : goodT t = true) : preT t := (goodT_t h).2
set_option maxHeartbeats 40000000 in
set_option maxRecDepth 100000 in
theorem impl_headsP {A : Option Addr} {n c st : Nat} {nm : ByteArray} {l : List ByteArray} {kb ks : ByteArray} {t : ByteArray} {w : World} (hn : l.length = n) (h : Strs w A l) (hk : goodK nm (st : Int) l kb ks = true) (hg : preT t) :
    Calls Tryz.prog 131 #[.agg #[.string nm, .int .i64 st, .slice A n c], .agg #[.string kb, .string ks], .string t] w fun e w' => ∃ A' c', e = .returned (.slice A' (t.size + 1) c') ∧ Owned strE 1 9 w' w.heap.size A' (t.size + 1) c' (hdsL st l kb ks t (t.size + 1)) ∧ Below w.heap.size w w' := by
  have b0 : Below w.heap.size w ((w.alloc (.cells ⟨[.string nm, .int .i64 st, .slice A n c]⟩ 25)).alloc (.cells ⟨[.string kb, .string ks]⟩ 27)) := by (repeat' (first | (with_reducible exact Below.refl _ _) | (with_reducible assumption) | (with_reducible refine below_drewN ?_ _) | (with_reducible refine Below.drew ?_) | (with_reducible refine below_alloc ?_ _) | (with_reducible refine Below.alloc ?_ ?_ _) | (with_reducible refine Below.setCell ?_ ?_ _) | (with_reducible refine below_go ?_ (by with_reducible assumption)) | (with_reducible refine below_then (by with_reducible assumption) ?_ ?_) | go_size))
  have K0 := (Blk.at_ w 25 [.string nm, .int .i64 st, .slice A n c] (b := w.heap.size) rfl).alloc (.cells ⟨[.string kb, .string ks]⟩ 27)
  have K1 := Blk.at_ (w.alloc (.cells ⟨[.string nm, .int .i64 st, .slice A n c]⟩ 25)) 27 [.string kb, .string ks] (b := w.heap.size + 1) (by simp)
  have hmm := @run_makeMap Tryz.prog
  have KU := int_keyed (P := Tryz.prog) (k := 5) Tryz.underlying5
  go_in
  go_upto_region 1 with fail
  obtain ⟨w0, hw0⟩ : ∃ u, u = ((w.alloc (.cells #[.string nm, .int .i64 st, .slice A n c] 25)).alloc (.cells #[.string kb, .string ks] 27)) := ⟨_, rfl⟩
  rw [← hw0] at b0 K0 K1 ⊢
  clear hw0
  have H0 := Lib.hid (h.up b0)
  have carry : Hid (∀ u : World, Below w0.heap.size w0 u → (u.cell? ⟨w.heap.size, 0, none⟩ = some (.string nm) ∧ u.cell? ⟨w.heap.size, 1, none⟩ = some (.int .i64 st) ∧ u.cell? ⟨w.heap.size, 2, none⟩ = some (.slice A n c)) ∧ u.cell? ⟨w.heap.size + 1, 0, none⟩ = some (.string kb) ∧ u.cell? ⟨w.heap.size + 1, 1, none⟩ = some (.string ks)) := Lib.hid (fun u hu => by
    have L0 := K0.up hu; have L1 := K1.up hu
    exact ⟨⟨by simpa using L0.cell 0, by simpa using L0.cell 1, by simpa using L0.cell 2⟩, by simpa using L1.cell 0, by simpa using L1.cell 1⟩)
  clear h K0 K1
  have cf := Lib.hid (fun (u : World) (s : ByteArray) (hb : Below w0.heap.size w0 u) => impl_callHead (c := c) (s := s) hn (H0.out.up hb) hk)
  have C0 : Below w0.heap.size w0 w0.drew := (Below.refl _ _).drew
  have PG := Lib.hid (callHd_good hk)
  have PS := Lib.hid (fun s => show (callHd st l kb ks s).size ≤ 16777216 from by rw [(PG.out s).2]; have := (goodK_all hk).1; omega)
  obtain ⟨T, I, PP, PQ, PR, hC, hTI, HIP, HIQ, HIR, HUP, HUQ, HUR, hM, hU, hP, hQ, hR, hT⟩ := heads_kit (P := Tryz.prog) w0 KU Tryz.underlying171 Tryz.underlying9 Tryz.underlying5 (PS.out ⟨#[112]⟩) (PS.out ⟨#[98]⟩) (PS.out ⟨#[115]⟩)
  have HC := Lib.hid hC; have TI := Lib.hid hTI; have TM := Lib.hid hM; have TU := Lib.hid hU; have TP := Lib.hid hP; have TQ := Lib.hid hQ; have TR := Lib.hid hR; have TT := Lib.hid hT
  clear hC hTI hM hU hP hQ hR hT
  have N0 := TU.out _ _ _ _ _ _ (TM.out w0 (Below.refl _ _)) (Below.refl _ _).drew
  have M0 := TI.out _ _ _ _ _ N0
  go_cut [7] (fun s7 wx => ∃ b, s7 = .map (some b) ∧ T wx b true true true)
  case first =>
    go_region_held3 (fun u => (u.cell? ⟨w.heap.size, 0, none⟩ = some (.string nm) ∧ u.cell? ⟨w.heap.size, 1, none⟩ = some (.int .i64 st) ∧ u.cell? ⟨w.heap.size, 2, none⟩ = some (.slice A n c)) ∧ u.cell? ⟨w.heap.size + 1, 0, none⟩ = some (.string kb) ∧ u.cell? ⟨w.heap.size + 1, 1, none⟩ = some (.string ks)) (first | exact carry.out _ (by first | assumption | (apply HC.out; repeat (with_reducible first | assumption | apply HIP | apply HIQ | apply HIR)))) (first
      | (go_at_call 124; ((with_reducible refine (cf.out _ _ (by first | assumption | (apply HC.out; repeat (with_reducible first | assumption | apply HIP | apply HIQ | apply HIR)))).mono ?_); rintro e w1 ⟨rfl, hb1⟩; (first | (have N := TU.out _ _ _ _ _ _ (by assumption) hb1) | (have N := TU.out _ _ _ _ _ _ (TP.out _ _ _ _ _ (by assumption)) hb1) | (have N := TU.out _ _ _ _ _ _ (TQ.out _ _ _ _ _ (by assumption)) hb1) | (have N := TU.out _ _ _ _ _ _ (TQ.out _ _ _ _ _ (TP.out _ _ _ _ _ (by assumption))) hb1) | (have N := TU.out _ _ _ _ _ _ (TP.out _ _ _ _ _ (TQ.out _ _ _ _ _ (by assumption))) hb1) | (have C := Below.step (w0 := w0) (by assumption) hb1; have N := TM.out _ C)); have M := TI.out _ _ _ _ _ N; have MP := HIP _ _ M; have MQ := HIQ _ _ M; have MR := HIR _ _ M)))
    all_goals
      go_wp2_with fail
      go_meet
      refine ⟨_, rfl, ?_⟩
      repeat (with_reducible first | assumption | apply TP.out | apply TQ.out | apply TR.out)
  case rest =>
    obtain ⟨b, rfl, hT0⟩ := hcut
    have hT := TT.out _ _ _ _ _ hT0
    clear hT0 HIP HIQ HIR HUP HUQ HUR N0 M0
    rename World => w1
    obtain ⟨⟨k0, k1, k2⟩, q0, q1⟩ := carry.out _ hT.c
    have hB1 := b0.trans (hT.c.mono b0.size)
    obtain ⟨h8, h40, _⟩ := goodK_all hk
    have gb := PlainAid.get_bt t
    obtain ⟨ht60, htl⟩ := hg
    have HL := Lib.hid htl
    have HD := Lib.hid (fun k => hdAt_good h8.1 h8.2 l kb ks t k)
    have H1 : Hid (Owned strE 1 9 (w1.alloc (.cells #[.string (roundsS st)] 9)) w1.heap.size (some ⟨w1.heap.size, 0, none⟩) 1 1 (hdsL st l kb ks t 1)) := Lib.hid ⟨strE_len, by simp [hdsL], by simpa [hdsL, hdAt, strE] using World.ownsRow_lit (e := 9) (base := w1.heap.size) (size := 1) w1 #[.string (roundsS st)] 1 (Nat.le_refl _) (by decide) (by simp)⟩
    clear htl hmm
    go_wp2_with fail
    refine (impl_rounds h8.2).mono ?_; rintro e w' ⟨rfl, rfl⟩
    go_wp2
    go_loopw [8, 9, 29] (fun r v i wr => ∃ (k : Nat) (A' : Option Addr) (m c' : Nat), k ≤ t.size ∧ i = .int .i64 k ∧ r = .string (hdAt st l kb ks t k) ∧ v = .slice A' m c' ∧ m = k + 1 ∧ Owned strE 1 9 wr w1.heap.size A' m c' (hdsL st l kb ks t (k + 1)) ∧ Below w1.heap.size w1 wr) (fun _ _ i _ => t.size - (intOf i).toNat)
    case atStart => exact ⟨0, _, _, _, Nat.zero_le _, rfl, rfl, rfl, rfl, H1.out, by (repeat' (first | (with_reducible exact Below.refl _ _) | (with_reducible assumption) | (with_reducible refine below_drewN ?_ _) | (with_reducible refine Below.drew ?_) | (with_reducible refine below_alloc ?_ _) | (with_reducible refine Below.alloc ?_ ?_ _) | (with_reducible refine Below.setCell ?_ ?_ _) | (with_reducible refine below_go ?_ (by with_reducible assumption)) | (with_reducible refine below_then (by with_reducible assumption) ?_ ?_) | go_size))⟩
    case round =>
      obtain ⟨k, A', m, c', hk1, rfl, rfl, rfl, rfl, ho, hb⟩ := hrel
      have HO := Lib.hid ho
      have hsz := hb.size
      clear ho
      by_cases hlt : k < t.size
      · have hLK := (hT.up hb).get KU Tryz.underlying171 Tryz.underlying9 (by kernel_rfl) (keyOf_int_mk Tryz.underlying5 (by decide)) (keyOf_int_mk Tryz.underlying5 (by decide)) (keyOf_int_mk Tryz.underlying5 (by decide))
        have LK : Sem.run Tryz.prog (Instr.lookup 171 (.map (some b)) (.int .u8 (PlainAid.bt t k)) false) wr = .ok (.string (callHd st l kb ks (letter t k))) wr := by
          have hcb := HL.out k hlt
          by_cases f1 : PlainAid.bt t k = 112
          · rw [f1, letter_p hlt f1]; exact hLK.1
          · by_cases f2 : PlainAid.bt t k = 98
            · rw [f2, letter_b hlt f2]; exact hLK.2.1
            · have f3 : PlainAid.bt t k = 115 := by
                rw [callB] at hcb
                simpa [f1, f2] using hcb
              rw [f3, letter_s hlt f3]; exact hLK.2.2
        clear hLK
        have p1 := PG.out (letter t k)
        have p2 := HD.out k
        have z1 : (hdAt st l kb ks t k).size ≤ 16777216 := by rw [p2.2]; omega
        have z2 : (callHd st l kb ks (letter t k)).size ≤ 16777216 := by rw [p1.2]; omega
        have hf : fits (hdAt st l kb ks t k) (callHd st l kb ks (letter t k)) := fits_good p1.1 (by rw [p1.2, p2.2])
        have E := Lib.hid (show timesS (hdAt st l kb ks t k) (callHd st l kb ks (letter t k)) = hdAt st l kb ks t (k + 1) from rfl)
        have HT := Lib.hid (hdsL_succ st l kb ks t (k + 1))
        clear p1 p2
        go_wp2_with (first | (go_at_call 123; refine (impl_times z1 z2 hf).mono ?_; rw [E.out]; rintro e w2 ⟨rfl, hb2⟩; have HO1 := Lib.hid (HO.out.up hb2); have hsz1 := hb2.size) | (at_builtin; go_must ((refine wpList_append_rec Tryz.elStr rfl (.tmp 39) (.tmp 41) rfl rfl (HO1.out.alloc _) (hdAt st l kb ks t (k + 1)) rfl (Box.at_ _ [.string (hdAt st l kb ks t (k + 1))] _ ?_) (strE_one _) ?_ (by decide) ?_ ?_; (focus (first | omega | (simp only [World.size_alloc]; done) | (simp only [World.size_alloc]; omega) | (simp; done) | (simp; omega))); (focus (first | omega | (simp only [World.size_alloc]; done) | (simp only [World.size_alloc]; omega) | (simp; done) | (simp; omega))); (focus (first | omega | (simp only [World.size_alloc]; done) | (simp only [World.size_alloc]; omega) | (simp; done) | (simp; omega))); intro A2 c2 w3 ho3 hg3 hb3))))
        go_roundw
        case rel => exact ⟨k + 1, A2, k + 1 + 1, c2, by omega, by go_num, rfl, by go_num, rfl, by rw [HT.out]; exact ho3, ((hb.trans (hb2.mono hsz)).alloc (by omega) _).trans hb3⟩
        case measure => simp [intOf]; omega
      · obtain rfl : k = t.size := by omega
        go_wp2
        go_ret
        exact ⟨_, _, rfl, HO.out.base_le hB1.size, below_go hB1 hb⟩
set_option maxHeartbeats 2000000 in
set_option maxRecDepth 100000 in
theorem spec_l9HeadsP {A : Option Addr} {n c st : Nat} {nm : ByteArray} {l : List ByteArray} {kb ks : ByteArray} {t : ByteArray} {w : World} (hn : l.length = n) (h : Strs w A l) (hk : goodK nm (st : Int) l kb ks = true) (hg : preT t) (hcap : n ≤ c) :
    Calls Tryz.prog 178 #[.agg #[.string nm, .int .i64 st, .slice A n c], .agg #[.string kb, .string ks], .string t] w fun e w' => ∃ A' c', e = .returned (.slice A' (t.size + 1) c') ∧ Owned strE 1 9 w' w.heap.size A' (t.size + 1) c' (hdsL st l kb ks t (t.size + 1)) ∧ Below w.heap.size w w' := by
  have b0 : Below w.heap.size w ((w.alloc (.cells ⟨[.string nm, .int .i64 st, .slice A n c]⟩ 25)).alloc (.cells ⟨[.string kb, .string ks]⟩ 27)) := by (repeat' (first | (with_reducible exact Below.refl _ _) | (with_reducible assumption) | (with_reducible refine below_drewN ?_ _) | (with_reducible refine Below.drew ?_) | (with_reducible refine below_alloc ?_ _) | (with_reducible refine Below.alloc ?_ ?_ _) | (with_reducible refine Below.setCell ?_ ?_ _) | (with_reducible refine below_go ?_ (by with_reducible assumption)) | (with_reducible refine below_then (by with_reducible assumption) ?_ ?_) | go_size))
  have K0 := (Blk.at_ w 25 [.string nm, .int .i64 st, .slice A n c] (b := w.heap.size) rfl).alloc (.cells ⟨[.string kb, .string ks]⟩ 27)
  have K1 := Blk.at_ (w.alloc (.cells ⟨[.string nm, .int .i64 st, .slice A n c]⟩ 25)) 27 [.string kb, .string ks] (b := w.heap.size + 1) (by simp)
  obtain ⟨h8, h40, _⟩ := goodK_all hk
  obtain ⟨ht60, _⟩ := hg
  have gb := PlainAid.get_bt t
  go_in
  go_wp2_with fail
  obtain ⟨w1, hw1⟩ : ∃ u, u = ((w.alloc (.cells #[.string nm, .int .i64 st, .slice A n c] 25)).alloc (.cells #[.string kb, .string ks] 27)) := ⟨_, rfl⟩
  rw [← hw1] at b0 K0 K1 ⊢
  clear hw1
  have H0 := Lib.hid (h.up b0)
  have carry : Hid (∀ u : World, Below w1.heap.size w1 u → (u.cell? ⟨w.heap.size, 0, none⟩ = some (.string nm) ∧ u.cell? ⟨w.heap.size, 1, none⟩ = some (.int .i64 st) ∧ u.cell? ⟨w.heap.size, 2, none⟩ = some (.slice A n c)) ∧ u.cell? ⟨w.heap.size + 1, 0, none⟩ = some (.string kb) ∧ u.cell? ⟨w.heap.size + 1, 1, none⟩ = some (.string ks)) := Lib.hid (fun u hu => by
    have L0 := K0.up hu; have L1 := K1.up hu
    exact ⟨⟨by simpa using L0.cell 0, by simpa using L0.cell 1, by simpa using L0.cell 2⟩, by simpa using L1.cell 0, by simpa using L1.cell 1⟩)
  clear h K0 K1
  have PG := Lib.hid (callHd_good hk)
  have HD := Lib.hid (fun k => hdAt_good h8.1 h8.2 l kb ks t k)
  have H1 : Hid (Owned strE 1 9 (w1.alloc (.cells #[.string (roundsS st)] 9)) w1.heap.size (some ⟨w1.heap.size, 0, none⟩) 1 1 (hdsL st l kb ks t 1)) := Lib.hid ⟨strE_len, by simp [hdsL], by simpa [hdsL, hdAt, strE] using World.ownsRow_lit (e := 9) (base := w1.heap.size) (size := 1) w1 #[.string (roundsS st)] 1 (Nat.le_refl _) (by decide) (by simp)⟩
  refine (spec_l1Rounds h8.2).mono ?_; rintro e w' ⟨rfl, rfl⟩
  go_wp2
  go_loopw [7, 8, 9] (fun r v i wr => ∃ (k : Nat) (A' : Option Addr) (m c' : Nat), k ≤ t.size ∧ i = .int .i64 k ∧ r = .string (hdAt st l kb ks t k) ∧ v = .slice A' m c' ∧ m = k + 1 ∧ Owned strE 1 9 wr w1.heap.size A' m c' (hdsL st l kb ks t (k + 1)) ∧ Below w1.heap.size w1 wr) (fun _ _ i _ => t.size - (intOf i).toNat)
  case atStart => exact ⟨0, _, _, _, Nat.zero_le _, rfl, rfl, rfl, rfl, H1.out, by (repeat' (first | (with_reducible exact Below.refl _ _) | (with_reducible assumption) | (with_reducible refine below_drewN ?_ _) | (with_reducible refine Below.drew ?_) | (with_reducible refine below_alloc ?_ _) | (with_reducible refine Below.alloc ?_ ?_ _) | (with_reducible refine Below.setCell ?_ ?_ _) | (with_reducible refine below_go ?_ (by with_reducible assumption)) | (with_reducible refine below_then (by with_reducible assumption) ?_ ?_) | go_size))⟩
  case round =>
    obtain ⟨k, A', m, c', hk1, rfl, rfl, rfl, rfl, ho, hb⟩ := hrel
    have HO := Lib.hid ho
    have hsz := hb.size
    clear ho
    by_cases hlt : k < t.size
    · have p1 := PG.out (letter t k)
      have p2 := HD.out k
      have z1 : (hdAt st l kb ks t k).size ≤ 16777216 := by rw [p2.2]; omega
      have z2 : (callHd st l kb ks (letter t k)).size ≤ 16777216 := by rw [p1.2]; omega
      have hf : fits (hdAt st l kb ks t k) (callHd st l kb ks (letter t k)) := fits_good p1.1 (by rw [p1.2, p2.2])
      have E := Lib.hid (show timesS (hdAt st l kb ks t k) (callHd st l kb ks (letter t k)) = hdAt st l kb ks t (k + 1) from rfl)
      have HT := Lib.hid (hdsL_succ st l kb ks t (k + 1))
      clear p1 p2
      have hwk : IntKind.i64.wrap ((k : Int) + 1) = (k : Int) + 1 := wrap_id (by omega)
      have hb0 := hb
      have hle1 : (k : Int) + 1 ≤ (t.size : Int) := by omega
      have hle2 : (k : Int) ≤ (k : Int) + 1 := by omega
      have hle3 : (0 : Int) ≤ (k : Int) := by omega
      have HB := Lib.hid hb
      go_wp2_with fail
      go_region_held3 (fun u => (u.cell? ⟨w.heap.size, 0, none⟩ = some (.string nm) ∧ u.cell? ⟨w.heap.size, 1, none⟩ = some (.int .i64 st) ∧ u.cell? ⟨w.heap.size, 2, none⟩ = some (.slice A n c)) ∧ u.cell? ⟨w.heap.size + 1, 0, none⟩ = some (.string kb) ∧ u.cell? ⟨w.heap.size + 1, 1, none⟩ = some (.string ks)) (first | exact carry.out _ C2 | exact carry.out _ HB.out | exact carry.out _ HB.out.drew) (first | (go_at_call 118; refine (spec_l1Times z1 z2 hf).mono ?_; rw [E.out]; rintro e w' ⟨rfl, rfl⟩) | (go_at_call 201; refine (spec_l8Head (s := letter t k) hn ((H0.out.below HB.out (Nat.le_refl _)).drew) hk hcap).mono ?_; rintro e w2 ⟨rfl, hbd2⟩; have hb2 := below_of_drew hbd2; have C2 := HB.out.trans (hb2.mono HB.out.size); have HO1 := Lib.hid (HO.out.up hb2); have hsz1 := hb2.size))
      go_wp2_with (first | (at_builtin; go_must ((refine wpList_append_rec Tryz.elStr rfl (.tmp 31) (.tmp 33) rfl rfl (HO1.out.alloc _) (hdAt st l kb ks t (k + 1)) rfl (Box.at_ _ [.string (hdAt st l kb ks t (k + 1))] _ ?_) (strE_one _) ?_ (by decide) ?_ ?_; (focus (first | omega | (simp only [World.size_alloc]; done) | (simp only [World.size_alloc]; omega) | (simp; done) | (simp; omega))); (focus (first | omega | (simp only [World.size_alloc]; done) | (simp only [World.size_alloc]; omega) | (simp; done) | (simp; omega))); (focus (first | omega | (simp only [World.size_alloc]; done) | (simp only [World.size_alloc]; omega) | (simp; done) | (simp; omega))); intro A2 c2 w3 ho3 hg3 hb3))))
      go_roundw
      case rel => exact ⟨k + 1, A2, k + 1 + 1, c2, by omega, by go_num, rfl, by go_num, rfl, by rw [HT.out]; exact ho3, ((HB.out.trans (hb2.mono hsz)).alloc (by omega) _).trans hb3⟩
      case measure => simp [intOf]; omega
    · obtain rfl : k = t.size := by omega
      go_wp2
      go_ret
      exact ⟨_, _, rfl, HO.out.base_le b0.size, below_go b0 hb⟩
set_option maxHeartbeats 1000000 in
theorem spec_l13Heads {A : Option Addr} {n c st : Nat} {nm : ByteArray} {l : List ByteArray} {kb ks : ByteArray} {t : ByteArray} {w : World} (hn : l.length = n) (h : Strs w A l) (hk : goodK nm (st : Int) l kb ks = true) (hg : preT t) (hcap : n ≤ c) :
    Calls Tryz.prog 207 #[.agg #[.string nm, .int .i64 st, .slice A n c], .agg #[.string kb, .string ks], .string t] w fun e w' => ∃ A' c', e = .returned (.slice A' (t.size + 1) c') ∧ Owned strE 1 9 w' w.heap.size A' (t.size + 1) c' (hdsL st l kb ks t (t.size + 1)) ∧ Below w.heap.size w w' := by
  have b0 : Below w.heap.size w ((w.alloc (.cells ⟨[.string nm, .int .i64 st, .slice A n c]⟩ 25)).alloc (.cells ⟨[.string kb, .string ks]⟩ 27)) := by (repeat' (first | (with_reducible exact Below.refl _ _) | (with_reducible assumption) | (with_reducible refine below_drewN ?_ _) | (with_reducible refine Below.drew ?_) | (with_reducible refine below_alloc ?_ _) | (with_reducible refine Below.alloc ?_ ?_ _) | (with_reducible refine Below.setCell ?_ ?_ _) | (with_reducible refine below_go ?_ (by with_reducible assumption)) | (with_reducible refine below_then (by with_reducible assumption) ?_ ?_) | go_size))
  go_in
  go_wp2_with fail
  refine (spec_l9HeadsP hn (h.up b0) hk hg hcap).mono ?_; rintro e w1 ⟨A1, c1, rfl, ho, hb1⟩
  have HO := Lib.hid ho
  clear ho
  go_wp2
  go_ret
  exact ⟨_, _, rfl, HO.out.base_le b0.size, below_go b0 hb1⟩
end Go.Proofs.YtidolgonmimicaaGreat
namespace Go.Proofs.YtidolgonmimicaaGreat
open Go.ChangeShapes Go.WideShapes Go.ChangeAt Go.RowKit Go.Deep
def RowN (n : Nat) (s : ByteArray) : Prop := goodRow s = true ∧ s.size = n
theorem RowN.times {n : Nat} {a b : ByteArray} (h : RowN n a) (g : RowN n b) : RowN n (timesS a b) :=
  ⟨good_times h.1 g.1 (by rw [h.2, g.2]), by rw [timesS, strOfNums_size, timesL_len, g.2]⟩
theorem RowN.st {n : Nat} {a : ByteArray} (h : RowN n a) : 3 ≤ n ∧ n ≤ 8 := by have := goodRow_n h.1; rw [h.2] at this; exact this
theorem rowN_rounds {n : Nat} (h3 : 3 ≤ n) (h8 : n ≤ 8) : RowN n (roundsS n) := ⟨good_rounds n (by omega) h3, rounds_size n (by omega)⟩
theorem rowN_fits {n : Nat} {a b : ByteArray} (h : RowN n a) (g : RowN n b) : fits a b := fits_good g.1 (by rw [h.2, g.2])
theorem rowN_inj {n : Nat} {a b : ByteArray} (h : RowN n a) (g : RowN n b) (e : place a = place b) : a = b := place_inj h.1 g.1 (by rw [h.2, g.2]) e
theorem rowN_place {n : Nat} {a : ByteArray} (h : RowN n a) : place a < fact n := by have := place_lt a; rwa [h.2] at this
theorem fact_le8 : ∀ {n : Nat}, n ≤ 8 → fact n ≤ 40320 := fun {n} h => by
  have : ∀ n, n < 9 → fact n ≤ 40320 := of_decide_eq_true (by kernel_rfl)
  exact this n (by omega)
theorem rows_le {n : Nat} {l : List ByteArray} (hn : l.Nodup) (hg : ∀ s ∈ l, RowN n s) : l.length ≤ fact n := by
  have h1 : (l.map place).Nodup := by
    rw [List.nodup_iff_pairwise_ne, List.pairwise_map]
    rw [List.nodup_iff_pairwise_ne] at hn
    exact hn.imp_of_mem fun {x y} hx hy hne e => hne (rowN_inj (hg x hx) (hg y hy) e)
  have h2 := h1.length_le_of_subset (l₂ := List.range (fact n)) (fun p hp => by
    obtain ⟨s, hs, rfl⟩ := List.mem_map.1 hp
    exact List.mem_range.2 (rowN_place (hg s hs)))
  rw [List.length_map, List.length_range] at h2
  exact h2
theorem rows_all {n : Nat} {l : List ByteArray} (hn : l.Nodup) (hg : ∀ s ∈ l, RowN n s) (hl : fact n ≤ l.length) {x : ByteArray} (hx : RowN n x) : x ∈ l := by
  rcases Classical.em (x ∈ l) with h | h
  · exact h
  · have := rows_le (n := n) (l := x :: l) (List.nodup_cons.2 ⟨h, hn⟩) (fun s hs => by
      rcases List.mem_cons.1 hs with rfl | hs
      · exact hx
      · exact hg s hs)
    rw [List.length_cons] at this
    omega
def inL (L : List ByteArray) (s : ByteArray) : Bool := L.any fun y => decide (y = s)
theorem inL_iff {L : List ByteArray} {s : ByteArray} : inL L s = true ↔ s ∈ L := by
  rw [inL, List.any_eq_true]
  constructor
  · rintro ⟨y, hy, e⟩
    rw [← of_decide_eq_true e]; exact hy
  · intro h
    exact ⟨s, h, decide_eq_true rfl⟩
def clAdd (x : ByteArray) (L : List ByteArray) (g : ByteArray) : List ByteArray := if inL L (timesS x g) = true then L else L ++ [timesS x g]
theorem clAdd_in {x g : ByteArray} {L : List ByteArray} (h : timesS x g ∈ L) : clAdd x L g = L := by rw [clAdd, if_pos (inL_iff.2 h)]
theorem clAdd_new {x g : ByteArray} {L : List ByteArray} (h : timesS x g ∉ L) : clAdd x L g = L ++ [timesS x g] := by rw [clAdd, if_neg (fun e => h (inL_iff.1 e))]
def clPart (gs : List ByteArray) (x : ByteArray) (j : Nat) (L : List ByteArray) : List ByteArray := (gs.take j).foldl (clAdd x) L
theorem clPart_0 (gs : List ByteArray) (x : ByteArray) (L : List ByteArray) : clPart gs x 0 L = L := rfl
theorem clPart_succ {gs : List ByteArray} {x g : ByteArray} {j : Nat} (L : List ByteArray) (h : gs[j]? = some g) : clPart gs x (j + 1) L = clAdd x (clPart gs x j L) g := by
  rw [clPart, take_succ_some h, List.foldl_append]; rfl
def clAt (gs : List ByteArray) (r : ByteArray) : Nat → List ByteArray
  | 0 => [r]
  | k + 1 => match (clAt gs r k)[k]? with
    | some x => clPart gs x gs.length (clAt gs r k)
    | none => clAt gs r k
theorem clAt_more {gs : List ByteArray} {r x : ByteArray} {k : Nat} (h : (clAt gs r k)[k]? = some x) : clAt gs r (k + 1) = clPart gs x gs.length (clAt gs r k) := by rw [clAt, h]
theorem clAt_stop {gs : List ByteArray} {r : ByteArray} {k : Nat} (h : (clAt gs r k).length ≤ k) : clAt gs r (k + 1) = clAt gs r k := by
  rw [clAt, List.getElem?_eq_none_iff.2 h]
def clF (n : Nat) (gs : List ByteArray) : List ByteArray := clAt gs (roundsS n) (fact n)
theorem clAdd_pre (x g : ByteArray) (L : List ByteArray) : L <+: clAdd x L g := by
  by_cases h : timesS x g ∈ L
  · rw [clAdd_in h]; exact List.prefix_refl _
  · rw [clAdd_new h]; exact List.prefix_append _ _
theorem foldl_pre (x : ByteArray) : ∀ (gs L : List ByteArray), L <+: gs.foldl (clAdd x) L
  | [], L => List.prefix_refl _
  | g :: gs, L => (clAdd_pre x g L).trans (foldl_pre x gs _)
theorem clPart_pre (gs : List ByteArray) (x : ByteArray) (j : Nat) (L : List ByteArray) : L <+: clPart gs x j L := foldl_pre x _ L
theorem clPart_step (gs : List ByteArray) (x : ByteArray) (L : List ByteArray) (j : Nat) : clPart gs x j L <+: clPart gs x (j + 1) L := by
  rcases h : gs[j]? with _ | g
  · rw [clPart, clPart, List.take_of_length_le (by rw [List.getElem?_eq_none_iff] at h; omega), List.take_of_length_le (by rw [List.getElem?_eq_none_iff] at h; omega)]
    exact List.prefix_refl _
  · rw [clPart_succ L h]; exact clAdd_pre _ _ _
theorem clPart_mono (gs : List ByteArray) (x : ByteArray) (L : List ByteArray) (i : Nat) : ∀ d, clPart gs x i L <+: clPart gs x (i + d) L
  | 0 => List.prefix_refl _
  | d + 1 => (clPart_mono gs x L i d).trans (clPart_step gs x L (i + d))
theorem clAt_step (gs : List ByteArray) (r : ByteArray) (k : Nat) : clAt gs r k <+: clAt gs r (k + 1) := by
  rcases h : (clAt gs r k)[k]? with _ | x
  · rw [clAt_stop (List.getElem?_eq_none_iff.1 h)]; exact List.prefix_refl _
  · rw [clAt_more h]; exact clPart_pre _ _ _ _
theorem clAt_mono (gs : List ByteArray) (r : ByteArray) (k : Nat) : ∀ d, clAt gs r k <+: clAt gs r (k + d)
  | 0 => List.prefix_refl _
  | d + 1 => (clAt_mono gs r k d).trans (clAt_step gs r (k + d))
theorem clAt_stays {gs : List ByteArray} {r : ByteArray} {k : Nat} (h : (clAt gs r k).length ≤ k) : ∀ d, clAt gs r (k + d) = clAt gs r k
  | 0 => rfl
  | d + 1 => by
    have e := clAt_stays h d
    rw [← Nat.add_assoc, clAt_stop (by rw [e]; omega), e]
def ClOk (n : Nat) (L : List ByteArray) : Prop := L.Nodup ∧ ∀ s ∈ L, RowN n s
theorem ClOk.add {n : Nat} {x g : ByteArray} {L : List ByteArray} (h : ClOk n L) (hx : RowN n x) (hg : RowN n g) : ClOk n (clAdd x L g) := by
  by_cases e : timesS x g ∈ L
  · rw [clAdd_in e]; exact h
  · rw [clAdd_new e]
    refine ⟨List.nodup_append.2 ⟨h.1, by simp, fun a ha b hb he => e (by rw [← List.mem_singleton.1 hb, ← he]; exact ha)⟩, fun s hs => ?_⟩
    rcases List.mem_append.1 hs with hs | hs
    · exact h.2 s hs
    · rw [List.mem_singleton.1 hs]; exact hx.times hg
theorem ClOk.fold {n : Nat} {x : ByteArray} (hx : RowN n x) : ∀ (gs L : List ByteArray), (∀ g ∈ gs, RowN n g) → ClOk n L → ClOk n (gs.foldl (clAdd x) L)
  | [], _, _, h => h
  | g :: gs, L, hg, h => ClOk.fold hx gs _ (fun y hy => hg y (List.mem_cons_of_mem _ hy)) (h.add hx (hg g (List.mem_cons_self ..)))
theorem ClOk.part {n : Nat} {x : ByteArray} {gs L : List ByteArray} (h : ClOk n L) (hx : RowN n x) (hg : ∀ g ∈ gs, RowN n g) (j : Nat) : ClOk n (clPart gs x j L) := ClOk.fold hx _ _ (fun g h => hg g (List.mem_of_mem_take h)) h
theorem clAt_ok {n : Nat} {gs : List ByteArray} {r : ByteArray} (hr : RowN n r) (hg : ∀ g ∈ gs, RowN n g) : ∀ k, ClOk n (clAt gs r k)
  | 0 => ⟨by simp [clAt], fun s hs => by rw [List.mem_singleton.1 hs]; exact hr⟩
  | k + 1 => by
    have h := clAt_ok hr hg k
    rcases e : (clAt gs r k)[k]? with _ | x
    · rw [clAt_stop (List.getElem?_eq_none_iff.1 e)]; exact h
    · rw [clAt_more e]
      exact h.part (h.2 x (List.mem_of_getElem? e)) hg _
theorem ClOk.le {n : Nat} {L : List ByteArray} (h : ClOk n L) : L.length ≤ fact n := rows_le h.1 h.2
section
variable {n : Nat} {gs : List ByteArray} {r : ByteArray}
theorem clF_ok (h3 : 3 ≤ n) (h8 : n ≤ 8) (hg : ∀ g ∈ gs, RowN n g) : ClOk n (clF n gs) := clAt_ok (rowN_rounds h3 h8) hg _
theorem clF_end (h3 : 3 ≤ n) (h8 : n ≤ 8) (hg : ∀ g ∈ gs, RowN n g) {k : Nat} (h : (clAt gs (roundsS n) k).length = k) : clF n gs = clAt gs (roundsS n) k := by
  have h1 : k ≤ fact n := by have := (clAt_ok (rowN_rounds h3 h8) hg k).le; omega
  obtain ⟨d, e⟩ : ∃ d, fact n = k + d := ⟨fact n - k, by omega⟩
  rw [clF, e, clAt_stays (by omega)]
theorem clF_pre (h3 : 3 ≤ n) (h8 : n ≤ 8) (hg : ∀ g ∈ gs, RowN n g) (k : Nat) : clAt gs (roundsS n) k <+: clF n gs := by
  by_cases h1 : k ≤ fact n
  · obtain ⟨d, e⟩ : ∃ d, fact n = k + d := ⟨fact n - k, by omega⟩
    rw [clF, e]
    exact clAt_mono _ _ _ _
  · obtain ⟨d, e⟩ : ∃ d, k = fact n + d := ⟨k - fact n, by omega⟩
    rw [e, clAt_stays (clAt_ok (rowN_rounds h3 h8) hg _).le]
    exact List.prefix_refl _
theorem clPart_F (h3 : 3 ≤ n) (h8 : n ≤ 8) (hg : ∀ g ∈ gs, RowN n g) {k : Nat} {x : ByteArray} (hx : (clAt gs (roundsS n) k)[k]? = some x) {j : Nat} (hj : j ≤ gs.length) : clPart gs x j (clAt gs (roundsS n) k) <+: clF n gs := by
  obtain ⟨d, e⟩ : ∃ d, gs.length = j + d := ⟨gs.length - j, by omega⟩
  have h1 := clPart_mono gs x (clAt gs (roundsS n) k) j d
  rw [← e, ← clAt_more hx] at h1
  exact h1.trans (clF_pre h3 h8 hg _)
theorem clAt_first (k : Nat) : (clAt gs r k)[0]? = some r := by
  have := clAt_mono gs r 0 k
  rw [Nat.zero_add] at this
  obtain ⟨t, ht⟩ := this
  rw [← ht]; rfl
theorem clAt_pos (k : Nat) : 0 < (clAt gs r k).length := (List.getElem?_eq_some_iff.1 (clAt_first (gs := gs) (r := r) k)).1
end
end Go.Proofs.YtidolgonmimicaaGreat
namespace Go.Proofs.YtidolgonmimicaaGreat
open Go.ChangeShapes Go.WideShapes Go.ChangeAt Go.RowKit Go.Deep
theorem nodup_of {α : Type} {l : List α} (h : ∀ i j, i < j → j < l.length → l[i]? ≠ l[j]?) : l.Nodup :=
  List.pairwise_iff_getElem.2 fun i j hi hj hij e => h i j hij hj (by rw [List.getElem?_eq_getElem hi, List.getElem?_eq_getElem hj, e])
def TurnOf (a : ByteArray) (m : List Int) : Prop := m.length = a.size ∧ ∀ i, i < a.size → m[(PlainAid.bt a i - 49).toNat]? = some (49 + (i : Int))
theorem row_at {a : ByteArray} (h : goodRow a = true) {i : Nat} (hi : i < a.size) : 49 ≤ PlainAid.bt a i ∧ PlainAid.bt a i ≤ 48 + (a.size : Int) := by
  have := (goodRow_list h).2 _ (List.mem_of_getElem? (nums_at hi))
  rwa [nums_len] at this
theorem row_inj {a : ByteArray} (h : goodRow a = true) {i j : Nat} (hi : i < a.size) (hj : j < a.size) (e : PlainAid.bt a i = PlainAid.bt a j) : i = j := by
  have hn := (goodRow_list h).1
  have h1 := nums_at hi
  have h2 := nums_at hj
  rw [e] at h1
  exact (List.getElem?_inj (by rw [nums_len]; exact hi) hn).1 (h1.trans h2.symm)
theorem row_hit {a : ByteArray} (h : goodRow a = true) {j : Nat} (hj : j < a.size) : ∃ i, i < a.size ∧ PlainAid.bt a i = 49 + (j : Int) := by
  have hm : (49 + (j : Int)) ∈ nums a := (isRowL_mem (goodRow_list h)).2 (by rw [nums_len]; omega)
  obtain ⟨i, hi⟩ := List.getElem?_of_mem hm
  have hl := (List.getElem?_eq_some_iff.1 hi).1
  rw [nums_len] at hl
  rw [nums_at hl] at hi
  injection hi with hi
  exact ⟨i, hl, hi⟩
theorem TurnOf.uniq {a : ByteArray} {m l : List Int} (h : goodRow a = true) (hm : TurnOf a m) (hl : TurnOf a l) : m = l := by
  refine eq_of_upto (k := a.size) (fun j hj => ?_) hm.1 hl.1
  obtain ⟨i, hi, e⟩ := row_hit h hj
  have h1 := hm.2 i hi
  have h2 := hl.2 i hi
  rw [e, show ((49 : Int) + (j : Int) - 49).toNat = j by omega] at h1 h2
  rw [h1, h2]
noncomputable def turnS (a : ByteArray) : ByteArray := by
  classical exact if h : ∃ m, TurnOf a m then strOfNums h.choose else ByteArray.empty
theorem turn_eq {a : ByteArray} {m : List Int} (h : goodRow a = true) (hm : TurnOf a m) : turnS a = strOfNums m := by
  have he : ∃ m, TurnOf a m := ⟨m, hm⟩
  rw [turnS, dif_pos he, TurnOf.uniq h he.choose_spec hm]
theorem turn_row {a : ByteArray} {m : List Int} (h : goodRow a = true) (hm : TurnOf a m) : RowN a.size (turnS a) := by
  have hn := goodRow_n h
  have hv : ∀ j, j < a.size → ∃ i, i < a.size ∧ PlainAid.bt a i = 49 + (j : Int) ∧ m[j]? = some (49 + (i : Int)) := fun j hj => by
    obtain ⟨i, hi, e⟩ := row_hit h hj
    have h1 := hm.2 i hi
    rw [e, show ((49 : Int) + (j : Int) - 49).toNat = j by omega] at h1
    exact ⟨i, hi, e, h1⟩
  have hr : isRowL m := by
    constructor
    · refine nodup_of ?_
      intro i j hij hj hc
      rw [hm.1] at hj
      obtain ⟨p, _, ep, e1⟩ := hv i (by omega)
      obtain ⟨q, _, eq, e2⟩ := hv j hj
      rw [e1, e2] at hc
      injection hc with hc
      have : p = q := by omega
      subst this
      omega
    · intro z hz
      obtain ⟨j, hj⟩ := List.getElem?_of_mem hz
      have hl := (List.getElem?_eq_some_iff.1 hj).1
      rw [hm.1] at hl
      obtain ⟨p, hp, _, e1⟩ := hv j hl
      rw [e1] at hj
      injection hj with hj
      rw [hm.1]; omega
  have hb := rowL_bytes hr (by rw [hm.1]; omega)
  have hs : (strOfNums m).size = a.size := by rw [strOfNums_size, hm.1]
  rw [turn_eq h hm]
  exact ⟨goodRow_of (by rw [hs]; omega) (by rw [nums_strOf hb]; exact hr), hs⟩
theorem times_at {a b : ByteArray} {n k : Nat} (ha : RowN n a) (hb : RowN n b) (hk : k < n) : PlainAid.bt (timesS a b) k = PlainAid.bt a (PlainAid.bt b k - 49).toNat := by
  have h1 := timesL_at (a := a) (b := b) (k := k) (by rw [hb.2]; exact hk)
  rw [← nums_times ha.1 hb.1 (by rw [ha.2, hb.2]), nums_at (by rw [(ha.times hb).2]; exact hk)] at h1
  injection h1
theorem row_ext {a b : ByteArray} (e : a.size = b.size) (h : ∀ k, k < a.size → PlainAid.bt a k = PlainAid.bt b k) : a = b := by
  refine nums_inj (eq_of_upto (k := a.size) (fun j hj => ?_) (nums_len a) (by rw [nums_len, e]))
  rw [nums_at hj, nums_at (by rw [← e]; exact hj), h j hj]
theorem times_cancel {x y q : ByteArray} {n : Nat} (hx : RowN n x) (hy : RowN n y) (hq : RowN n q) (e : timesS x q = timesS y q) : x = y := by
  refine row_ext (by rw [hx.2, hy.2]) fun k hk => ?_
  rw [hx.2, ← hq.2] at hk
  obtain ⟨i, hi, e1⟩ := row_hit hq.1 hk
  rw [hq.2] at hi
  have h1 := times_at hx hq hi
  have h2 := times_at hy hq hi
  rw [e1, show ((49 : Int) + (k : Int) - 49).toNat = k by omega] at h1 h2
  rw [← h1, ← h2, e]
theorem rounds_bt {n k : Nat} (h8 : n < 9) (hk : k < n) : PlainAid.bt (roundsS n) k = 49 + (k : Int) := by
  have h1 := nums_at (s := roundsS n) (k := k) (by rw [rounds_size _ h8]; exact hk)
  rw [rowV_nil _ h8] at h1
  have h2 : (rowV n [])[k]? = some (49 + (k : Int)) := by
    rw [rowV, List.getElem?_map, List.getElem?_range hk]
    simp [cval]
    try omega
  rw [h2] at h1
  injection h1 with h1
  exact h1.symm
theorem rounds_times {q : ByteArray} {n : Nat} (hq : RowN n q) : timesS (roundsS n) q = q := by
  have hs := hq.st
  have hr := rowN_rounds hs.1 hs.2
  refine row_ext (by rw [(hr.times hq).2, hq.2]) fun k hk => ?_
  rw [(hr.times hq).2] at hk
  have h1 := row_at hq.1 (i := k) (by rw [hq.2]; exact hk)
  rw [hq.2] at h1
  rw [times_at hr hq hk, rounds_bt (by omega) (by omega)]
  omega
def pwS (n : Nat) (q : ByteArray) : Nat → ByteArray
  | 0 => roundsS n
  | k + 1 => timesS (pwS n q k) q
theorem pw_row {n : Nat} {q : ByteArray} (hq : RowN n q) : ∀ k, RowN n (pwS n q k)
  | 0 => rowN_rounds hq.st.1 hq.st.2
  | k + 1 => (pw_row hq k).times hq
theorem pw_one {n : Nat} {q : ByteArray} (hq : RowN n q) : pwS n q 1 = q := rounds_times hq
theorem pw_eq {n : Nat} {q : ByteArray} (hq : RowN n q) : ∀ i d, pwS n q i = pwS n q (i + d) → pwS n q d = roundsS n
  | 0, d, h => by rw [Nat.zero_add] at h; exact h.symm
  | i + 1, d, h => by
    rw [Nat.add_right_comm] at h
    exact pw_eq hq i d (times_cancel (pw_row hq i) (pw_row hq (i + d)) hq h)
def pwL (n : Nat) (q : ByteArray) (m : Nat) : List ByteArray := (List.range m).map (pwS n q)
theorem pwL_len (n : Nat) (q : ByteArray) (m : Nat) : (pwL n q m).length = m := by simp [pwL]
theorem pwL_succ (n : Nat) (q : ByteArray) (m : Nat) : pwL n q (m + 1) = pwL n q m ++ [pwS n q m] := by rw [pwL, List.range_succ, List.map_append]; rfl
theorem pwL_le {n m : Nat} {q : ByteArray} (hq : RowN n q) (h : ∀ k, 1 ≤ k → k < m → pwS n q k ≠ roundsS n) : m ≤ fact n := by
  have h1 : (pwL n q m).Nodup := by
    rw [pwL]; refine nodup_of ?_
    intro i j hij hj hc
    rw [List.length_map, List.length_range] at hj
    rw [List.getElem?_map, List.getElem?_map, List.getElem?_range (by omega), List.getElem?_range hj] at hc
    injection hc with hc
    refine h (j - i) (by omega) (by omega) (pw_eq hq i (j - i) ?_)
    rw [hc, show i + (j - i) = j by omega]
  have h2 := rows_le h1 (n := n) (fun s hs => by
    rw [pwL, List.mem_map] at hs
    obtain ⟨k, _, rfl⟩ := hs
    exact pw_row hq k)
  rwa [pwL_len] at h2
def closedB (q : ByteArray) (B : List ByteArray) : Bool := B.all fun h => inL B (timesS h q)
theorem closed_pw {n : Nat} {q : ByteArray} {B : List ByteArray} (hq : RowN n q) (hB : ∀ h ∈ B, RowN n h) (hc : closedB q B = true) {h : ByteArray} (hh : h ∈ B) : ∀ k, timesS h (pwS n q k) ∈ B
  | 0 => by
    have h1 := times_rounds (hB h hh).1
    rw [(hB h hh).2] at h1
    rw [pwS, h1]; exact hh
  | k + 1 => by
    have ih := closed_pw hq hB hc hh k
    have hp := pw_row hq k
    rw [pwS, times_assoc (hB h hh).1 hp.1 hq.1 (by rw [(hB h hh).2, hp.2]) (by rw [hp.2, hq.2])]
    exact inL_iff.1 (List.all_eq_true.1 hc _ ih)
theorem closed_of {n m : Nat} {q : ByteArray} {B : List ByteArray} (hq : RowN n q) (hB : ∀ h ∈ B, RowN n h) (hm : 1 ≤ m) (hr : pwS n q m = roundsS n) (h : ∀ x ∈ B, ∀ k, k < m → timesS x (pwS n q k) ∈ B) : closedB q B = true := by
  rw [closedB, List.all_eq_true]
  intro x hx
  rw [inL_iff]
  by_cases h1 : 1 < m
  · have := h x hx 1 h1
    rwa [pw_one hq] at this
  · obtain rfl : m = 1 := by omega
    have h2 := times_rounds (hB x hx).1
    rw [(hB x hx).2] at h2
    rw [← pw_one hq, hr, h2]; exact hx
def rowsInB (G B : List ByteArray) : Bool := B.all (inL G) && incB B
theorem inc_srt {B : List ByteArray} (h : incB B = true) : Srt B := by
  have h1 : ∀ i, i + 1 < B.length → ∀ x y, B[i]? = some x → B[i + 1]? = some y → less x y = true := fun i hi x y hx hy => by
    have := List.all_eq_true.1 h (i + 1) (List.mem_range.2 hi)
    simpa [okInc, List.getD, hx, hy] using this
  have h2 : ∀ (d i : Nat) (x y : ByteArray), B[i]? = some x → B[i + d + 1]? = some y → less x y = true := by
    intro d
    induction d with
    | zero => intro i x y hx hy; exact h1 i (List.getElem?_eq_some_iff.1 hy).1 x y hx hy
    | succ d ih =>
      intro i x y hx hy
      have hl := (List.getElem?_eq_some_iff.1 hy).1
      obtain ⟨z, hz⟩ : ∃ z, B[i + d + 1]? = some z := ⟨_, List.getElem?_eq_getElem (by omega)⟩
      exact less_trans (ih i x z hx hz) (h1 (i + d + 1) (by omega) z y hz hy)
  rw [Srt, List.pairwise_iff_getElem]
  intro i j hi hj hij
  have := h2 (j - i - 1) i _ _ (List.getElem?_eq_getElem hi) (by rw [show i + (j - i - 1) + 1 = j by omega]; exact List.getElem?_eq_getElem hj)
  rw [leS]
  rcases hc : less B[j] B[i] with _ | _
  · rfl
  · have := less_trans this hc
    rw [less_irr] at this; cases this
end Go.Proofs.YtidolgonmimicaaGreat
namespace Go.Proofs.YtidolgonmimicaaGreat
open Go.ChangeShapes Go.WideShapes Go.ChangeAt Go.RowKit Go.Deep
theorem turn_ex {a : ByteArray} (h : goodRow a = true) : ∃ m, TurnOf a m := by
  refine ⟨(List.range a.size).map fun (j : Nat) => (49 : Int) + (((nums a).idxOf (49 + (j : Int)) : Nat) : Int), by simp, fun i hi => ?_⟩
  have h1 := row_at h hi
  rw [List.getElem?_map, List.getElem?_range (by omega)]
  have h2 := nums_at hi
  have hl : i < (nums a).length := by rw [nums_len]; exact hi
  have h3 : (nums a).idxOf (PlainAid.bt a i) = i := by
    rw [List.getElem?_eq_getElem hl] at h2
    injection h2 with h2
    rw [← h2]
    exact (goodRow_list h).1.idxOf_getElem i hl
  simp only [Option.map_some]
  rw [show (49 : Int) + ((PlainAid.bt a i - 49).toNat : Nat) = PlainAid.bt a i by omega, h3]
theorem turn_rowN {a : ByteArray} {n : Nat} (h : RowN n a) : RowN n (turnS a) := by
  obtain ⟨m, hm⟩ := turn_ex h.1
  have := turn_row h.1 hm
  rwa [h.2] at this
theorem times_turn {a : ByteArray} {n : Nat} (h : RowN n a) : timesS a (turnS a) = roundsS n := by
  have ht := turn_rowN h
  have hs := h.st
  obtain ⟨m, hm⟩ := turn_ex h.1
  have hr := turn_row h.1 hm
  have hb : ∀ x ∈ m, 0 ≤ x ∧ x < 256 := by
    intro x hx
    obtain ⟨j, hj⟩ := List.getElem?_of_mem hx
    have hl := (List.getElem?_eq_some_iff.1 hj).1
    rw [hm.1] at hl
    obtain ⟨i, hi, e⟩ := row_hit h.1 hl
    have h1 := hm.2 i hi
    rw [e, show ((49 : Int) + (j : Int) - 49).toNat = j by omega, hj] at h1
    injection h1 with h1
    rw [h.2] at hi
    omega
  refine row_ext (by rw [(h.times ht).2, rounds_size n (by omega)]) fun k hk => ?_
  rw [(h.times ht).2] at hk
  rw [times_at h ht hk, rounds_bt (by omega) hk]
  obtain ⟨i, hi, e⟩ := row_hit h.1 (j := k) (by rw [h.2]; exact hk)
  have h1 := hm.2 i hi
  rw [e, show ((49 : Int) + (k : Int) - 49).toNat = k by omega] at h1
  have h2 := nums_at (s := turnS a) (k := k) (by rw [ht.2]; exact hk)
  rw [turn_eq h.1 hm, nums_strOf hb, h1] at h2
  injection h2 with h2
  rw [turn_eq h.1 hm, ← h2, show ((49 : Int) + (i : Int) - 49).toNat = i by omega, e]
theorem times_back {x b : ByteArray} {n : Nat} (hx : RowN n x) (hb : RowN n b) : timesS (timesS x b) (turnS b) = x := by
  have ht := turn_rowN hb
  rw [← times_assoc hx.1 hb.1 ht.1 (by rw [hx.2, hb.2]) (by rw [hb.2, ht.2]), times_turn hb]
  have := times_rounds hx.1
  rwa [hx.2] at this
end Go.Proofs.YtidolgonmimicaaGreat
namespace Go.Proofs.YtidolgonmimicaaGreat
open Go.ChangeShapes Go.WideShapes Go.ChangeAt Go.RowKit Go.Deep
def leadL (st : Nat) (l : List ByteArray) : List ByteArray := rowsL (roundsS st) l l.length
theorem leadL_len (st : Nat) (l : List ByteArray) : (leadL st l).length = l.length := rowsL_len ..
theorem leadL_row {st : Nat} (h3 : 3 ≤ st) (h8 : st ≤ 8) (l : List ByteArray) : ∀ x ∈ leadL st l, RowN st x := fun x hx => by
  rw [leadL, rowsL, List.mem_map] at hx
  obtain ⟨k, _, rfl⟩ := hx
  exact ⟨good_rAt (rowN_rounds h3 h8).1 l k, by rw [rAt_size, rounds_size st (by omega)]⟩
theorem rAt_times {st : Nat} {f : ByteArray} (hf : RowN st f) (l : List ByteArray) : ∀ k, rAt f l k = timesS f (rAt (roundsS st) l k)
  | 0 => by
    have := times_rounds hf.1
    rw [hf.2] at this
    exact this.symm
  | k + 1 => by
    have h38 := hf.st
    have hr := rowN_rounds h38.1 h38.2
    have hg := good_rAt hr.1 l k
    have hz : (rAt (roundsS st) l k).size = st := by rw [rAt_size]; exact hr.2
    show applyR (rAt f l k) _ = timesS f (applyR (rAt (roundsS st) l k) _)
    rw [rAt_times hf l k, times_apply hf.1 hg (by rw [hf.2, hz])]
theorem rowsL_times {st : Nat} {f : ByteArray} (hf : RowN st f) (l : List ByteArray) (k : Nat) : rowsL f l k = (rowsL (roundsS st) l k).map (timesS f) := by
  rw [rowsL, rowsL, List.map_map]
  exact List.map_congr_left fun j _ => rAt_times hf l j
noncomputable def falL (L : List ByteArray) : List ByteArray := L.flatMap fun r => L.map fun s => timesS r (turnS s)
theorem falL_mem {L : List ByteArray} {f : ByteArray} : f ∈ falL L ↔ ∃ r ∈ L, ∃ s ∈ L, timesS r (turnS s) = f := by
  rw [falL, List.mem_flatMap]
  exact ⟨fun ⟨r, hr, h⟩ => ⟨r, hr, by obtain ⟨s, hs, e⟩ := List.mem_map.1 h; exact ⟨s, hs, e⟩⟩, fun ⟨r, hr, s, hs, e⟩ => ⟨r, hr, List.mem_map.2 ⟨s, hs, e⟩⟩⟩
theorem falL_row {n : Nat} {L : List ByteArray} (hL : ∀ x ∈ L, RowN n x) : ∀ f ∈ falL L, RowN n f := fun f hf => by
  obtain ⟨r, hr, s, hs, rfl⟩ := falL_mem.1 hf
  exact (hL r hr).times (turn_rowN (hL s hs))
theorem turn_turn {a : ByteArray} {n : Nat} (h : RowN n a) : turnS (turnS a) = a := by
  have h1 := turn_rowN h
  have e := times_back h h1
  rw [times_turn h, rounds_times (turn_rowN h1)] at e
  exact e
theorem turn_times {a b : ByteArray} {n : Nat} (ha : RowN n a) (hb : RowN n b) : turnS (timesS a (turnS b)) = timesS b (turnS a) := by
  have hx := ha.times (turn_rowN hb)
  have hy := hb.times (turn_rowN ha)
  have h38 := ha.st
  have hr : ∀ {y : ByteArray}, RowN n y → timesS y (roundsS n) = y := fun {y} hy => by have := times_rounds hy.1; rwa [hy.2] at this
  have asc : ∀ {x y z : ByteArray}, RowN n x → RowN n y → RowN n z → timesS x (timesS y z) = timesS (timesS x y) z := fun hx hy hz => times_assoc hx.1 hy.1 hz.1 (by rw [hx.2, hy.2]) (by rw [hy.2, hz.2])
  have e1 : timesS (timesS b (turnS a)) (timesS a (turnS b)) = roundsS n := by
    have hta := turn_rowN ha; have htb := turn_rowN hb
    have q : timesS (turnS a) a = roundsS n := by
      have := times_turn hta
      rwa [turn_turn ha] at this
    rw [asc hy ha htb, ← asc hb hta ha, q, hr hb, times_turn hb]
  have e2 := times_back hy hx
  rw [e1, rounds_times (turn_rowN hx)] at e2
  exact e2
theorem falL_turn {n : Nat} {L : List ByteArray} (hL : ∀ x ∈ L, RowN n x) {f : ByteArray} (h : f ∈ falL L) : turnS f ∈ falL L := by
  obtain ⟨r, hr, s, hs, rfl⟩ := falL_mem.1 h
  exact falL_mem.2 ⟨s, hs, r, hr, (turn_times (hL r hr) (hL s hs)).symm⟩
theorem falL_turn_iff {n : Nat} {L : List ByteArray} (hL : ∀ x ∈ L, RowN n x) {f : ByteArray} (hf : RowN n f) : turnS f ∈ falL L ↔ f ∈ falL L :=
  ⟨fun h => by have := falL_turn hL h; rwa [turn_turn hf] at this, falL_turn hL⟩
theorem falL_rounds {n : Nat} {L : List ByteArray} (hL : ∀ x ∈ L, RowN n x) (h : L ≠ []) : roundsS n ∈ falL L := by
  obtain ⟨r, hr⟩ := List.exists_mem_of_ne_nil L h
  exact falL_mem.2 ⟨r, hr, r, hr, times_turn (hL r hr)⟩
def meetL (L M : List ByteArray) : List ByteArray := L.filter fun r => inL M r
theorem meet_iff {n : Nat} {L : List ByteArray} (hL : ∀ x ∈ L, RowN n x) {f : ByteArray} (hf : RowN n f) : meetL L (L.map (timesS f)) ≠ [] ↔ f ∈ falL L := by
  rw [falL_mem]
  constructor
  · intro h
    obtain ⟨r, hr⟩ := List.exists_mem_of_ne_nil _ h
    rw [meetL, List.mem_filter] at hr
    obtain ⟨hr, hm⟩ := hr
    obtain ⟨s, hs, e⟩ := List.mem_map.1 (inL_iff.1 hm)
    exact ⟨r, hr, s, hs, by rw [← e]; exact times_back hf (hL s hs)⟩
  · rintro ⟨r, hr, s, hs, e⟩ h
    have hm : r ∈ meetL L (L.map (timesS f)) := by
      rw [meetL, List.mem_filter]
      refine ⟨hr, inL_iff.2 (List.mem_map.2 ⟨s, hs, ?_⟩)⟩
      have q := times_back (hL r hr) (turn_rowN (hL s hs))
      rw [turn_turn (hL s hs), e] at q
      exact q
    rw [h] at hm
    cases hm
end Go.Proofs.YtidolgonmimicaaGreat
namespace Go.Proofs.YtidolgonmimicaaGreat
open Go.ChangeShapes Go.WideShapes Go.ChangeAt Go.RowKit Go.Deep
def uniqStep (out : List ByteArray) (f : ByteArray) : List ByteArray := if out.getLast? = some f then out else out ++ [f]
def uniqF (L : List ByteArray) : List ByteArray := L.foldl uniqStep []
theorem uniqF_snoc (L : List ByteArray) (f : ByteArray) : uniqF (L ++ [f]) = uniqStep (uniqF L) f := by rw [uniqF, List.foldl_append]; rfl
theorem uniqF_step {L : List ByteArray} {k : Nat} {f : ByteArray} (h : L[k]? = some f) : uniqF (L.take (k + 1)) = uniqStep (uniqF (L.take k)) f := by
  rw [List.take_add_one, h]; exact uniqF_snoc _ _
theorem uniqF_len (L : List ByteArray) : ∀ k, k ≤ L.length → (uniqF (L.take k)).length ≤ k
  | 0, _ => by simp [uniqF]
  | k + 1, h => by
    obtain ⟨f, hf⟩ : ∃ f, L[k]? = some f := ⟨L[k], List.getElem?_eq_getElem (by omega)⟩
    have := uniqF_len L k (by omega)
    rw [uniqF_step hf, uniqStep]
    split
    · omega
    · simp; omega
theorem uniqF_ok : ∀ (n : Nat) (L : List ByteArray), L.length = n → Srt L → Srt (uniqF L) ∧ (uniqF L).Nodup ∧ (∀ x, x ∈ uniqF L ↔ x ∈ L) ∧ (uniqF L).getLast? = L.getLast?
  | 0, L, h, _ => by
    obtain rfl := List.length_eq_zero_iff.1 h
    exact ⟨List.Pairwise.nil, List.nodup_nil, fun x => Iff.rfl, rfl⟩
  | n + 1, L, h, hs => by
    obtain ⟨M, f, rfl⟩ : ∃ M f, L = M ++ [f] := by
      rcases List.eq_nil_or_concat L with rfl | ⟨M, f, e⟩
      · simp at h
      · exact ⟨M, f, by simpa using e⟩
    have hM : M.length = n := by simpa using h
    have hsp := List.pairwise_append.1 hs
    obtain ⟨i1, i2, i3, i4⟩ := uniqF_ok n M hM hsp.1
    rw [uniqF_snoc, uniqStep]
    split
    · rename_i hl
      refine ⟨i1, i2, fun x => ?_, by rw [hl]; simp⟩
      rw [i3, List.mem_append, List.mem_singleton]
      refine ⟨Or.inl, fun q => q.elim id fun e => ?_⟩
      rw [i4] at hl
      rw [e]; exact List.mem_of_getLast? hl
    · rename_i hl
      have hfM : f ∉ M := by
        intro hf
        obtain ⟨x, hx⟩ : ∃ x, M.getLast? = some x := by
          cases hg : M.getLast? with
          | none => rw [List.getLast?_eq_none_iff] at hg; rw [hg] at hf; cases hf
          | some x => exact ⟨x, rfl⟩
        have hxM := List.mem_of_getLast? hx
        have h1 := hsp.2.2 x hxM f (by simp)
        have h2 : leS f x = true := by
          obtain ⟨Q, hQ⟩ : ∃ Q, M = Q ++ [x] := by
            rcases List.eq_nil_or_concat M with e | ⟨Q, y, e⟩
            · rw [e] at hf; cases hf
            · refine ⟨Q, ?_⟩
              rw [e] at hx
              simp at hx
              rw [e, hx]; simp
          rw [hQ] at hf
          rcases List.mem_append.1 hf with q | q
          · have := (List.pairwise_append.1 (hQ ▸ hsp.1)).2.2 f q x (by simp)
            exact this
          · rw [List.mem_singleton.1 q]
            have := leS_total x x
            simpa using this
        have := leS_anti h1 h2
        rw [i4, hx, this] at hl
        exact hl rfl
      refine ⟨?_, ?_, fun x => ?_, by simp⟩
      · rw [Srt, List.pairwise_append]
        exact ⟨i1, List.pairwise_singleton _ _, fun a ha b hb => hsp.2.2 a ((i3 a).1 ha) b hb⟩
      · rw [List.nodup_append]
        exact ⟨i2, List.nodup_cons.2 ⟨by simp, List.nodup_nil⟩, fun a ha b hb => by
          rw [List.mem_singleton.1 hb]; rintro rfl; exact hfM ((i3 _).1 ha)⟩
      · rw [List.mem_append, List.mem_append, i3]
noncomputable def falS (L : List ByteArray) : List ByteArray := uniqF ((falL L).mergeSort leS)
theorem falS_mem {L : List ByteArray} {x : ByteArray} : x ∈ falS L ↔ x ∈ falL L := by
  have h := (uniqF_ok _ ((falL L).mergeSort leS) rfl (List.pairwise_mergeSort leS_trans leS_total _)).2.2.1 x
  rw [falS, h, List.mem_mergeSort]
theorem falS_of {L K : List ByteArray} (hk : K.Nodup) (hm : ∀ x, x ∈ K ↔ x ∈ falL L) (hs : Srt K) : K = falS L := by
  have h := uniqF_ok _ ((falL L).mergeSort leS) rfl (List.pairwise_mergeSort leS_trans leS_total _)
  refine srt_unique hs h.1 ((List.perm_ext_iff_of_nodup hk h.2.1).2 fun x => ?_)
  rw [hm]
  exact falS_mem.symm
end Go.Proofs.YtidolgonmimicaaGreat
namespace Go.Proofs.YtidolgonmimicaaGreat
open Go.ChangeShapes Go.WideShapes Go.ChangeAt Go.RowKit Go.Deep
abbrev Cut3 := ByteArray × Int × Int
def lB : ByteArray := ⟨#[98]⟩
def lP : ByteArray := ⟨#[112]⟩
def lS : ByteArray := ⟨#[115]⟩
def kids (p : ByteArray) : List ByteArray := [p ++ lB, p ++ lP, p ++ lS]
theorem kid_size {p q : ByteArray} (h : q ∈ kids p) : q.size = p.size + 1 := by
  simp only [kids, List.mem_cons, List.not_mem_nil, or_false] at h
  rcases h with rfl | rfl | rfl <;> rw [ByteArray.size_append] <;> rfl
structure SS where
  left : Nat
  T : List ByteArray
  C : List Cut3
  ok : Bool
section
variable (cut : ByteArray → Option Cut3) (n : Nat)
def exF : Nat → SS → ByteArray → SS
  | d, s, p => match s with
    | ⟨0, T, C, _⟩ => ⟨0, T, C, false⟩
    | ⟨b + 1, T, C, ok⟩ => match cut p with
      | some c => ⟨b, T, C ++ [c], ok⟩
      | none => match d with
        | 0 => ⟨b, T ++ [p], C, ok⟩
        | d + 1 => (kids p).foldl (fun s q => exF d s q) ⟨b, T, C, ok⟩
def runF : Nat → List ByteArray → List ByteArray → List Cut3 → SS
  | 0, st, T, C => ⟨0, T, C, st.isEmpty⟩
  | b + 1, [], T, C => ⟨b + 1, T, C, true⟩
  | b + 1, p :: st, T, C => match cut p with
    | some c => runF b st T (C ++ [c])
    | none => if p.size = n then runF b st (T ++ [p]) C else runF b (kids p ++ st) T C
theorem ex_zero (d : Nat) (T : List ByteArray) (C : List Cut3) (ok : Bool) (p : ByteArray) : exF cut d ⟨0, T, C, ok⟩ p = ⟨0, T, C, false⟩ := by
  cases d <;> rfl
theorem fold_zero (f : ByteArray → Nat) : ∀ (st : List ByteArray) (T : List ByteArray) (C : List Cut3), st.foldl (fun s q => exF cut (f q) s q) ⟨0, T, C, false⟩ = ⟨0, T, C, false⟩
  | [], _, _ => rfl
  | p :: st, T, C => by rw [List.foldl_cons, ex_zero]; exact fold_zero f st T C
theorem run_eq : ∀ (b : Nat) (st T : List ByteArray) (C : List Cut3), (∀ p ∈ st, p.size ≤ n) → runF cut n b st T C = st.foldl (fun s q => exF cut (n - q.size) s q) ⟨b, T, C, true⟩
  | 0, [], T, C, _ => rfl
  | 0, p :: st, T, C, _ => by rw [List.foldl_cons, ex_zero, fold_zero]; rfl
  | b + 1, [], T, C, _ => rfl
  | b + 1, p :: st, T, C, h => by
    have hp := h p (List.mem_cons_self ..)
    have hst : ∀ q ∈ st, q.size ≤ n := fun q hq => h q (List.mem_cons_of_mem _ hq)
    rw [List.foldl_cons]
    cases hc : cut p with
    | some c =>
      have e : exF cut (n - p.size) ⟨b + 1, T, C, true⟩ p = ⟨b, T, C ++ [c], true⟩ := by cases hd : n - p.size <;> simp [exF, hc]
      rw [e, ← run_eq b st T (C ++ [c]) hst, runF, hc]
    | none =>
      by_cases hn : p.size = n
      · have e : exF cut (n - p.size) ⟨b + 1, T, C, true⟩ p = ⟨b, T ++ [p], C, true⟩ := by rw [show n - p.size = 0 by omega]; simp [exF, hc]
        rw [e, ← run_eq b st (T ++ [p]) C hst]
        simp [runF, hc, hn]
      · have e : exF cut (n - p.size) ⟨b + 1, T, C, true⟩ p = (kids p).foldl (fun s q => exF cut (n - q.size) s q) ⟨b, T, C, true⟩ := by
          obtain ⟨d, hd⟩ : ∃ d, n - p.size = d + 1 := ⟨n - p.size - 1, by omega⟩
          rw [hd]
          simp only [exF, hc]
          have hk : ∀ q ∈ kids p, n - q.size = d := fun q hq => by rw [kid_size hq]; omega
          have : ∀ (L : List ByteArray) (s : SS), (∀ q ∈ L, n - q.size = d) → L.foldl (fun s q => exF cut d s q) s = L.foldl (fun s q => exF cut (n - q.size) s q) s := by
            intro L
            induction L with
            | nil => intro s _; rfl
            | cons q L ih =>
              intro s hL
              rw [List.foldl_cons, List.foldl_cons, hL q (List.mem_cons_self ..), ih _ (fun r hr => hL r (List.mem_cons_of_mem _ hr))]
          exact this _ _ hk
        rw [e, ← List.foldl_append, ← run_eq b (kids p ++ st) T C (fun q hq => by
          rcases List.mem_append.1 hq with g | g
          · have := kid_size g; omega
          · exact hst q g)]
        simp [runF, hc, hn]
def treeF : Nat → ByteArray → List ByteArray × List Cut3
  | d, p => match cut p with
    | some c => ([], [c])
    | none => match d with
      | 0 => ([p], [])
      | d + 1 => (((treeF d (p ++ lB)).1 ++ ((treeF d (p ++ lP)).1 ++ (treeF d (p ++ lS)).1)), ((treeF d (p ++ lB)).2 ++ ((treeF d (p ++ lP)).2 ++ (treeF d (p ++ lS)).2)))
theorem ex_ok_left : ∀ (d : Nat) (s : SS) (p : ByteArray), (exF cut d s p).ok = true → s.ok = true
  | d, ⟨0, T, C, ok⟩, p, h => by rw [ex_zero] at h; cases h
  | 0, ⟨b + 1, T, C, ok⟩, p, h => by
    simp only [exF] at h
    split at h <;> exact h
  | d + 1, ⟨b + 1, T, C, ok⟩, p, h => by
    simp only [exF] at h
    split at h
    · exact h
    · simp only [kids, List.foldl_cons, List.foldl_nil] at h
      have q := ex_ok_left d _ _ (ex_ok_left d _ _ (ex_ok_left d _ _ h))
      exact q
theorem ex_tree : ∀ (d : Nat) (s : SS) (p : ByteArray), (exF cut d s p).ok = true → (exF cut d s p).T = s.T ++ (treeF cut d p).1 ∧ (exF cut d s p).C = s.C ++ (treeF cut d p).2
  | d, ⟨0, T, C, ok⟩, p, h => by rw [ex_zero] at h; cases h
  | 0, ⟨b + 1, T, C, ok⟩, p, h => by
    cases hc : cut p with
    | some c => simp [exF, treeF, hc]
    | none => simp [exF, treeF, hc]
  | d + 1, ⟨b + 1, T, C, ok⟩, p, h => by
    cases hc : cut p with
    | some c => simp [exF, treeF, hc]
    | none =>
      simp only [exF, hc, kids, List.foldl_cons, List.foldl_nil] at h ⊢
      have h2 := ex_ok_left cut d _ _ h
      have h1 := ex_ok_left cut d _ _ h2
      obtain ⟨a1, a2⟩ := ex_tree d _ _ h1
      obtain ⟨b1, b2⟩ := ex_tree d _ _ h2
      obtain ⟨c1, c2⟩ := ex_tree d _ _ h
      rw [c1, c2, b1, b2, a1, a2]
      simp [treeF, hc]
end
end Go.Proofs.YtidolgonmimicaaGreat
namespace Go.Proofs.YtidolgonmimicaaGreat
open Go.ChangeShapes Go.WideShapes Go.ChangeAt Go.RowKit Go.Deep
def Pre (p t : ByteArray) : Prop := p.data.toList <+: t.data.toList
theorem Pre.refl (p : ByteArray) : Pre p p := List.prefix_refl _
theorem Pre.trans {p q t : ByteArray} (h : Pre p q) (g : Pre q t) : Pre p t := List.IsPrefix.trans h g
theorem Pre.size {p q : ByteArray} (h : Pre p q) : p.size ≤ q.size := by
  have := h.length_le
  simpa using this
theorem pre_app (p c : ByteArray) : Pre p (p ++ c) := by
  rw [Pre, ByteArray.data_append, Array.toList_append]
  exact List.prefix_append _ _
theorem Pre.eq {p q : ByteArray} (h : Pre p q) (e : q.size ≤ p.size) : p = q := by
  have h1 := h.eq_of_length_le (by simpa using e)
  cases p; cases q
  congr
  exact Array.toList_inj.1 h1
theorem Pre.of {p q t : ByteArray} (h : Pre p t) (g : Pre q t) (e : p.size ≤ q.size) : Pre p q := List.prefix_of_prefix_length_le h g (by simpa using e)
theorem pre_kid {p q : ByteArray} (h : q ∈ kids p) : Pre p q := by
  simp only [kids, List.mem_cons, List.not_mem_nil, or_false] at h
  rcases h with rfl | rfl | rfl <;> exact pre_app _ _
section
variable {cut : ByteArray → Option Cut3} {n : Nat}
def sumC (n : Nat) (C : List Cut3) : Nat := (C.map fun c => 3 ^ (n - c.1.size)).sum
theorem sumC_app (n : Nat) (C D : List Cut3) : sumC n (C ++ D) = sumC n C + sumC n D := by simp [sumC]
theorem tree_mem {d : Nat} {p t : ByteArray} (hc : cut p = none) : t ∈ (treeF cut (d + 1) p).1 ↔ ∃ q ∈ kids p, t ∈ (treeF cut d q).1 := by
  simp [treeF, hc, kids]
theorem tree_memC {d : Nat} {p : ByteArray} {c : Cut3} (hc : cut p = none) : c ∈ (treeF cut (d + 1) p).2 ↔ ∃ q ∈ kids p, c ∈ (treeF cut d q).2 := by
  simp [treeF, hc, kids]
theorem tree_sum (h : ∀ p c, cut p = some c → c.1 = p) : ∀ (d : Nat) (p : ByteArray), p.size + d = n → (treeF cut d p).1.length + sumC n (treeF cut d p).2 = 3 ^ d
  | d, p, hd => by
    cases hc : cut p with
    | some c =>
      have e := h p c hc
      have : treeF cut d p = ([], [c]) := by cases d <;> simp [treeF, hc]
      rw [this]
      simp [sumC, e, show n - p.size = d by omega]
    | none =>
      cases d with
      | zero => simp [treeF, hc, sumC]
      | succ d =>
        have k1 := tree_sum h d (p ++ lB) (by rw [ByteArray.size_append]; show p.size + 1 + d = n; omega)
        have k2 := tree_sum h d (p ++ lP) (by rw [ByteArray.size_append]; show p.size + 1 + d = n; omega)
        have k3 := tree_sum h d (p ++ lS) (by rw [ByteArray.size_append]; show p.size + 1 + d = n; omega)
        have e : treeF cut (d + 1) p = (((treeF cut d (p ++ lB)).1 ++ ((treeF cut d (p ++ lP)).1 ++ (treeF cut d (p ++ lS)).1)), ((treeF cut d (p ++ lB)).2 ++ ((treeF cut d (p ++ lP)).2 ++ (treeF cut d (p ++ lS)).2))) := by simp [treeF, hc]
        rw [e]
        simp only [List.length_append, sumC_app]
        rw [Nat.pow_succ]
        omega
theorem tree_touch : ∀ (d : Nat) (p : ByteArray), p.size + d = n → ∀ t ∈ (treeF cut d p).1, Pre p t ∧ t.size = n ∧ ∀ q, Pre p q → Pre q t → cut q = none
  | d, p, hd, t, ht => by
    cases hc : cut p with
    | some c =>
      have : treeF cut d p = ([], [c]) := by cases d <;> simp [treeF, hc]
      rw [this] at ht; cases ht
    | none =>
      cases d with
      | zero =>
        have : treeF cut 0 p = ([p], []) := by simp [treeF, hc]
        rw [this] at ht
        obtain rfl := List.mem_singleton.1 ht
        exact ⟨Pre.refl _, by omega, fun q h1 h2 => by rw [← h1.eq h2.size]; exact hc⟩
      | succ d =>
        obtain ⟨k, hk, htk⟩ := (tree_mem hc).1 ht
        have hs := kid_size hk
        obtain ⟨a1, a2, a3⟩ := tree_touch d k (by omega) t htk
        refine ⟨(pre_kid hk).trans a1, a2, fun q h1 h2 => ?_⟩
        rcases Nat.lt_or_ge p.size q.size with g | g
        · exact a3 q (a1.of h2 (by omega)) h2
        · rw [← h1.eq g]; exact hc
theorem tree_cut (h : ∀ p c, cut p = some c → c.1 = p) : ∀ (d : Nat) (p : ByteArray), p.size + d = n → ∀ c ∈ (treeF cut d p).2, Pre p c.1 ∧ c.1.size ≤ n ∧ cut c.1 = some c
  | d, p, hd, c, ht => by
    cases hc : cut p with
    | some x =>
      have : treeF cut d p = ([], [x]) := by cases d <;> simp [treeF, hc]
      rw [this] at ht
      obtain rfl := List.mem_singleton.1 ht
      have e := h p c hc
      rw [e]
      exact ⟨Pre.refl _, by omega, hc⟩
    | none =>
      cases d with
      | zero =>
        have : treeF cut 0 p = ([p], []) := by simp [treeF, hc]
        rw [this] at ht; cases ht
      | succ d =>
        obtain ⟨k, hk, htk⟩ := (tree_memC hc).1 ht
        have hs := kid_size hk
        obtain ⟨a1, a2, a3⟩ := tree_cut h d k (by omega) c htk
        exact ⟨(pre_kid hk).trans a1, a2, a3⟩
def Apart (a b : ByteArray) : Prop := ¬ Pre a b ∧ ¬ Pre b a
theorem Apart.symm {a b : ByteArray} (h : Apart a b) : Apart b a := ⟨h.2, h.1⟩
theorem apart_kids {k j a b : ByteArray} (hk : k.size = j.size) (hne : k ≠ j) (ha : Pre k a) (hb : Pre j b) : Apart a b :=
  ⟨fun h => hne ((ha.trans h).of hb (by omega) |>.eq (by omega)), fun h => hne (ha.of (hb.trans h) (by omega) |>.eq (by omega))⟩
theorem kids_ne (p : ByteArray) : p ++ lB ≠ p ++ lP ∧ p ++ lB ≠ p ++ lS ∧ p ++ lP ≠ p ++ lS := by
  have h : ∀ {a b : ByteArray}, a.data.toList ≠ b.data.toList → p ++ a ≠ p ++ b := fun hne e => by
    have := congrArg (fun x : ByteArray => x.data.toList) e
    simp only [ByteArray.data_append, Array.toList_append] at this
    exact hne (List.append_cancel_left this)
  exact ⟨h (by decide), h (by decide), h (by decide)⟩
theorem tree_apart (h : ∀ p c, cut p = some c → c.1 = p) : ∀ (d : Nat) (p : ByteArray), p.size + d = n → (treeF cut d p).1.Pairwise Apart ∧ ((treeF cut d p).2.map (·.1)).Pairwise Apart ∧ ∀ t ∈ (treeF cut d p).1, ∀ c ∈ (treeF cut d p).2, Apart t c.1
  | d, p, hd => by
    cases hc : cut p with
    | some x =>
      have : treeF cut d p = ([], [x]) := by cases d <;> simp [treeF, hc]
      rw [this]
      exact ⟨List.Pairwise.nil, List.pairwise_singleton _ _, fun t ht => by cases ht⟩
    | none =>
      cases d with
      | zero =>
        have : treeF cut 0 p = ([p], []) := by simp [treeF, hc]
        rw [this]
        exact ⟨List.pairwise_singleton _ _, List.Pairwise.nil, fun t _ c hc => by cases hc⟩
      | succ d =>
        have z : ∀ q ∈ kids p, q.size + d = n := fun q hq => by have := kid_size hq; omega
        have mB : p ++ lB ∈ kids p := by simp [kids]
        have mP : p ++ lP ∈ kids p := by simp [kids]
        have mS : p ++ lS ∈ kids p := by simp [kids]
        obtain ⟨b1, b2, b3⟩ := tree_apart h d _ (z _ mB)
        obtain ⟨p1, p2, p3⟩ := tree_apart h d _ (z _ mP)
        obtain ⟨s1, s2, s3⟩ := tree_apart h d _ (z _ mS)
        have e : treeF cut (d + 1) p = (((treeF cut d (p ++ lB)).1 ++ ((treeF cut d (p ++ lP)).1 ++ (treeF cut d (p ++ lS)).1)), ((treeF cut d (p ++ lB)).2 ++ ((treeF cut d (p ++ lP)).2 ++ (treeF cut d (p ++ lS)).2))) := by simp [treeF, hc]
        have T : ∀ {q t : ByteArray}, q ∈ kids p → t ∈ (treeF cut d q).1 → Pre q t := fun hq ht => (tree_touch d _ (z _ hq) _ ht).1
        have C : ∀ {q : ByteArray} {c : Cut3}, q ∈ kids p → c ∈ (treeF cut d q).2 → Pre q c.1 := fun hq ht => (tree_cut h d _ (z _ hq) _ ht).1
        have far : ∀ {q r a b : ByteArray}, q ∈ kids p → r ∈ kids p → q ≠ r → Pre q a → Pre r b → Apart a b := fun hq hr hne ha hb => apart_kids (by rw [kid_size hq, kid_size hr]) hne ha hb
        obtain ⟨n1, n2, n3⟩ := kids_ne p
        rw [e]
        refine ⟨?_, ?_, ?_⟩
        · simp only [List.pairwise_append, List.mem_append]
          exact ⟨b1, ⟨p1, s1, fun a ha b hb => far mP mS n3 (T mP ha) (T mS hb)⟩, fun a ha b hb => hb.elim (fun g => far mB mP n1 (T mB ha) (T mP g)) (fun g => far mB mS n2 (T mB ha) (T mS g))⟩
        · simp only [List.map_append, List.pairwise_append, List.mem_append, List.mem_map]
          refine ⟨b2, ⟨p2, s2, ?_⟩, ?_⟩
          · rintro _ ⟨a, ha, rfl⟩ _ ⟨b, hb, rfl⟩
            exact far mP mS n3 (C mP ha) (C mS hb)
          · rintro _ ⟨a, ha, rfl⟩ _ (⟨b, hb, rfl⟩ | ⟨b, hb, rfl⟩)
            · exact far mB mP n1 (C mB ha) (C mP hb)
            · exact far mB mS n2 (C mB ha) (C mS hb)
        · intro t ht c hc'
          simp only [List.mem_append] at ht hc'
          rcases ht with ht | ht | ht <;> rcases hc' with g | g | g
          · exact b3 t ht c g
          · exact far mB mP n1 (T mB ht) (C mP g)
          · exact far mB mS n2 (T mB ht) (C mS g)
          · exact far mP mB n1.symm (T mP ht) (C mB g)
          · exact p3 t ht c g
          · exact far mP mS n3 (T mP ht) (C mS g)
          · exact far mS mB n2.symm (T mS ht) (C mB g)
          · exact far mS mP n3.symm (T mS ht) (C mP g)
          · exact s3 t ht c g
end
end Go.Proofs.YtidolgonmimicaaGreat
namespace Go.Proofs.YtidolgonmimicaaGreat
open Go.ChangeShapes Go.WideShapes Go.ChangeAt Go.RowKit Go.Deep
theorem bytes_step {a b : UInt8} (h : a < b) (r s : List UInt8) : ∀ l : List UInt8, Op.bytesLess (l ++ a :: r) (l ++ b :: s) = true
  | [] => by simp [Op.bytesLess, h]
  | x :: l => by
    have := bytes_step h r s l
    simp only [List.cons_append, Op.bytesLess, this]
    simp
theorem less_kids {p x y : ByteArray} {a b : UInt8} (h : a < b) (hx : Pre (p ++ ⟨#[a]⟩) x) (hy : Pre (p ++ ⟨#[b]⟩) y) : less x y = true := by
  obtain ⟨r, hr⟩ := hx
  obtain ⟨s, hs⟩ := hy
  rw [less, ByteArray.toList_eq, ByteArray.toList_eq, ← hr, ← hs]
  simp only [ByteArray.data_append, Array.toList_append, List.append_assoc]
  exact bytes_step h r s _
section
variable {cut : ByteArray → Option Cut3} {n : Nat}
theorem tree_rise : ∀ (d : Nat) (p : ByteArray), p.size + d = n → (treeF cut d p).1.Pairwise fun a b => less a b = true
  | d, p, hd => by
    cases hc : cut p with
    | some x =>
      have : treeF cut d p = ([], [x]) := by cases d <;> simp [treeF, hc]
      rw [this]; exact List.Pairwise.nil
    | none =>
      cases d with
      | zero =>
        have : treeF cut 0 p = ([p], []) := by simp [treeF, hc]
        rw [this]; exact List.pairwise_singleton _ _
      | succ d =>
        have z : ∀ q ∈ kids p, q.size + d = n := fun q hq => by have := kid_size hq; omega
        have mB : p ++ lB ∈ kids p := by simp [kids]
        have mP : p ++ lP ∈ kids p := by simp [kids]
        have mS : p ++ lS ∈ kids p := by simp [kids]
        have T : ∀ {q t : ByteArray}, q ∈ kids p → t ∈ (treeF cut d q).1 → Pre q t := fun hq ht => (tree_touch d _ (z _ hq) _ ht).1
        have e : (treeF cut (d + 1) p).1 = (treeF cut d (p ++ lB)).1 ++ ((treeF cut d (p ++ lP)).1 ++ (treeF cut d (p ++ lS)).1) := by simp [treeF, hc]
        rw [e]
        simp only [List.pairwise_append, List.mem_append]
        exact ⟨tree_rise d _ (z _ mB), ⟨tree_rise d _ (z _ mP), tree_rise d _ (z _ mS), fun a ha b hb => less_kids (by decide) (T mP ha) (T mS hb)⟩, fun a ha b hb => hb.elim (fun g => less_kids (by decide) (T mB ha) (T mP g)) (fun g => less_kids (by decide) (T mB ha) (T mS g))⟩
end
end Go.Proofs.YtidolgonmimicaaGreat
namespace Go.Proofs.YtidolgonmimicaaGreat
open Go.ChangeShapes Go.WideShapes Go.ChangeAt Go.RowKit Go.Deep
def rowOk (st : Nat) (f : ByteArray) : Bool := goodRow f && (f.size == st)
theorem rowOk_t {st : Nat} {f : ByteArray} (h : rowOk st f = true) : RowN st f := by
  rw [rowOk, Bool.and_eq_true] at h
  exact ⟨h.1, by simpa using h.2⟩
theorem rowOk_of {st : Nat} {f : ByteArray} (h : RowN st f) : rowOk st f = true := by
  rw [rowOk, h.1, h.2]; simp
def fhOk (nm : ByteArray) (st : Nat) (l : List ByteArray) (f : ByteArray) : Bool := goodM nm (st : Int) l && rowOk st f
noncomputable def fhV (nm : ByteArray) (st : Nat) (l : List ByteArray) (f : ByteArray) : Bool := fhOk nm st l f && inL (falL (leadL st l)) f
noncomputable def shV (nm : ByteArray) (st : Nat) (l : List ByteArray) (f : ByteArray) : List ByteArray := if fhOk nm st l f = true then meetL (leadL st l) ((leadL st l).map (timesS f)) else []
noncomputable def fhsOk (nm : ByteArray) (st : Nat) (l : List ByteArray) : Bool := goodM nm (st : Int) l && decide ((falS (leadL st l)).length ≤ 800)
noncomputable def fhsV (nm : ByteArray) (st : Nat) (l : List ByteArray) : List ByteArray := if fhsOk nm st l = true then falS (leadL st l) else []
noncomputable def sfOk (na : ByteArray) (sa : Nat) (la : List ByteArray) (nb : ByteArray) (sb : Nat) (lb : List ByteArray) : Bool := (fhsOk na sa la && fhsOk nb sb lb) && decide (sa = sb)
noncomputable def sfV (na : ByteArray) (sa : Nat) (la : List ByteArray) (nb : ByteArray) (sb : Nat) (lb : List ByteArray) : Bool := sfOk na sa la nb sb lb && decide (falS (leadL sa la) = falS (leadL sb lb))
def ltV (nm : ByteArray) (st : Nat) (l : List ByteArray) : Bool := goodM nm (st : Int) l && nodupB (leadL st l)
theorem fal_len (L : List ByteArray) : (falL L).length = L.length * L.length := by
  have : ∀ M : List ByteArray, (M.flatMap fun r => L.map fun s => timesS r (turnS s)).length = M.length * L.length := by
    intro M
    induction M with
    | nil => simp
    | cons a M ih => rw [List.flatMap_cons, List.length_append, ih, List.length_map, List.length_cons, Nat.succ_mul, Nat.add_comm]
  exact this L
section
variable {nm : ByteArray} {st : Nat} {l : List ByteArray} {f : ByteArray}
theorem fhOk_t (h : fhOk nm st l f = true) : goodM nm (st : Int) l = true ∧ RowN st f ∧ (3 ≤ st ∧ st ≤ 8) ∧ 1 ≤ l.length := by
  rw [fhOk, Bool.and_eq_true] at h
  have h1 := rowOk_t h.2
  exact ⟨h.1, h1, h1.st, (goodM_t h.1).2.2.1.1⟩
theorem fhOk_turn (h : fhOk nm st l f = true) : fhOk nm st l (turnS f) = true := by
  obtain ⟨h1, h2, _⟩ := fhOk_t h
  rw [fhOk, h1, rowOk_of (turn_rowN h2)]; rfl
theorem fhV_turn (h : fhOk nm st l f = true) : fhV nm st l (turnS f) = fhV nm st l f := by
  obtain ⟨h1, h2, h3, _⟩ := fhOk_t h
  rw [fhV, fhV, fhOk_turn h, h, Bool.true_and, Bool.true_and, Bool.eq_iff_iff, inL_iff, inL_iff]
  exact falL_turn_iff (leadL_row h3.1 h3.2 l) h2
theorem fhV_sh (h : fhOk nm st l f = true) : fhV nm st l f = decide (0 < (shV nm st l f).length) := by
  obtain ⟨h1, h2, h3, _⟩ := fhOk_t h
  rw [fhV, shV, h, Bool.true_and, if_pos rfl, Bool.eq_iff_iff, inL_iff, decide_eq_true_iff, ← meet_iff (leadL_row h3.1 h3.2 l) h2, List.length_pos_iff]
theorem fhs_in (h : fhOk nm st l f = true) (g : fhsOk nm st l = true) : inL (fhsV nm st l) f = fhV nm st l f := by
  rw [fhV, h, Bool.true_and, fhsV, if_pos g, Bool.eq_iff_iff, inL_iff, inL_iff, falS_mem]
theorem fhs_rounds (h : fhOk nm st l f = true) (g : fhsOk nm st l = true) : inL (fhsV nm st l) (roundsS st) = true := by
  obtain ⟨h1, h2, h3, h4⟩ := fhOk_t h
  rw [fhsV, if_pos g, inL_iff, falS_mem]
  exact falL_rounds (leadL_row h3.1 h3.2 l) (fun e => by
    have := leadL_len st l
    rw [e] at this
    simp at this; omega)
end
end Go.Proofs.YtidolgonmimicaaGreat
namespace Go.Proofs.YtidolgonmimicaaGreat
open Go.ChangeShapes Go.WideShapes Go.ChangeAt Go.RowKit Go.Deep
noncomputable def clsAt (st : Nat) (l : List ByteArray) (b s p : ByteArray) (k i : Nat) : Bool := inL (falL (leadL st l)) (timesS (turnS (hdAt st l b s p i)) (hdAt st l b s p k))
noncomputable def cutF (st : Nat) (l : List ByteArray) (b s : ByteArray) (n : Nat) (p : ByteArray) : Option Cut3 :=
  if p.size = 0 then (if nodupB (leadL st l) = true then none else some (p, 1, 0))
  else if p.size = n then (if hdAt st l b s p p.size = roundsS st then none else some (p, 3, 0))
  else Option.map (fun i : Nat => (p, 2, (i : Int))) ((List.range p.size).find? (clsAt st l b s p p.size))
def FreeH (st : Nat) (l : List ByteArray) (b s t : ByteArray) (m : Nat) : Prop := ∀ i k, i < k → k < m → clsAt st l b s t k i = false
noncomputable def freeH (st : Nat) (l : List ByteArray) (b s t : ByteArray) (m : Nat) : Bool := @decide (FreeH st l b s t m) (Classical.propDecidable _)
theorem freeH_iff {st : Nat} {l : List ByteArray} {b s t : ByteArray} {m : Nat} : freeH st l b s t m = true ↔ FreeH st l b s t m := @decide_eq_true_iff _ (Classical.propDecidable _)
noncomputable def trueH (st : Nat) (l : List ByteArray) (b s t : ByteArray) : Bool := nodupB (leadL st l) && freeH st l b s t t.size
def roundT (st : Nat) (l : List ByteArray) (b s t : ByteArray) : Bool := decide (hdAt st l b s t t.size = roundsS st)
theorem pre_letter {p t : ByteArray} (h : Pre p t) {k : Nat} (hk : k < p.size) : letter t k = letter p k := by
  obtain ⟨r, hr⟩ := h
  have ht : t = p ++ ⟨r.toArray⟩ := by
    cases t; cases p
    simp only [ByteArray.ext_iff, ByteArray.data_append]
    rw [← Array.toList_inj]
    simpa using hr.symm
  subst ht
  rw [letter, letter]
  have hs := @ByteArray.extract_append p ⟨r.toArray⟩ k (k + 1)
  rw [hs]
  have h2 : (⟨r.toArray⟩ : ByteArray).extract (k - p.size) (k + 1 - p.size) = ByteArray.empty := by
    rw [show k + 1 - p.size = 0 by omega]
    apply ByteArray.ext
    simp
  rw [h2, ByteArray.append_empty]
theorem pre_hd {st : Nat} {l : List ByteArray} {b s p t : ByteArray} (h : Pre p t) : ∀ k, k ≤ p.size → hdAt st l b s t k = hdAt st l b s p k
  | 0, _ => rfl
  | k + 1, hk => by rw [hdAt, hdAt, pre_hd h k (by omega), pre_letter h (by omega)]
section
variable {st n : Nat} {l : List ByteArray} {b s p : ByteArray}
theorem cut_fst (p : ByteArray) (c : Cut3) (h : cutF st l b s n p = some c) : c.1 = p := by
  rw [cutF] at h
  split at h
  · split at h
    · cases h
    · injection h with h; rw [← h]
  · split at h
    · split at h
      · cases h
      · injection h with h; rw [← h]
    · rw [Option.map_eq_some_iff] at h
      obtain ⟨i, _, rfl⟩ := h
      rfl
theorem cut_lead (h : p.size = 0) (g : nodupB (leadL st l) = true) : cutF st l b s n p = none := by rw [cutF, if_pos h, if_pos g]
theorem cut_lead' (h : p.size = 0) (g : nodupB (leadL st l) = false) : cutF st l b s n p = some (p, 1, 0) := by rw [cutF, if_pos h, if_neg (by rw [g]; simp)]
theorem cut_open (h0 : p.size ≠ 0) (h : p.size = n) (g : hdAt st l b s p p.size = roundsS st) : cutF st l b s n p = none := by rw [cutF, if_neg h0, if_pos h, if_pos g]
theorem cut_open' (h0 : p.size ≠ 0) (h : p.size = n) (g : hdAt st l b s p p.size ≠ roundsS st) : cutF st l b s n p = some (p, 3, 0) := by rw [cutF, if_neg h0, if_pos h, if_neg g]
theorem cut_clash (h0 : p.size ≠ 0) (h : p.size ≠ n) {i : Nat} (hi : i < p.size) (hlow : ∀ j, j < i → clsAt st l b s p p.size j = false) (hc : clsAt st l b s p p.size i = true) : cutF st l b s n p = some (p, 2, (i : Int)) := by
  have : (List.range p.size).find? (clsAt st l b s p p.size) = some i := by
    rw [List.find?_eq_some_iff_getElem]
    refine ⟨hc, i, by simpa using hi, by simp, fun j hj => ?_⟩
    simp [hlow j hj]
  rw [cutF, if_neg h0, if_neg h, this]
  rfl
theorem cut_free (h0 : p.size ≠ 0) (h : p.size ≠ n) (hlow : ∀ j, j < p.size → clsAt st l b s p p.size j = false) : cutF st l b s n p = none := by
  have : (List.range p.size).find? (clsAt st l b s p p.size) = none := by
    rw [List.find?_eq_none]
    intro j hj
    rw [hlow j (List.mem_range.1 hj)]; simp
  rw [cutF, if_neg h0, if_neg h, this]
  rfl
theorem cut_law {c : Cut3} {t : ByteArray} (hn : 1 ≤ n) (h : cutF st l b s n p = some c) (hp : Pre p t) (ht : t.size = n) : (roundT st l b s t && trueH st l b s t) = false := by
  rw [cutF] at h
  split at h
  · split at h
    · cases h
    · rename_i g
      have g' : nodupB (leadL st l) = false := by simpa using g
      rw [trueH, g', Bool.false_and, Bool.and_false]
  · rename_i h0
    split at h
    · rename_i hpn
      have e : p = t := hp.eq (by omega)
      subst e
      split at h
      · cases h
      · rename_i g
        rw [roundT, decide_eq_false g, Bool.false_and]
    · rename_i hpn
      rw [Option.map_eq_some_iff] at h
      obtain ⟨i, hi, _⟩ := h
      have h1 := List.find?_some hi
      have h2 : i < p.size := List.mem_range.1 (List.mem_of_find?_eq_some hi)
      have h3 := hp.size
      have : freeH st l b s t t.size = false := by
        rw [← Bool.not_eq_true, freeH_iff]
        intro q
        have q1 := q i p.size h2 (by omega)
        rw [clsAt, pre_hd hp i (by omega), pre_hd hp p.size (Nat.le_refl _)] at q1
        rw [clsAt, q1] at h1
        cases h1
      rw [trueH, this, Bool.and_false, Bool.and_false]
theorem free_law {t : ByteArray} (hn : 1 ≤ n) (ht : t.size = n) (h : ∀ q, Pre q t → cutF st l b s n q = none) : roundT st l b s t = true ∧ trueH st l b s t = true := by
  have h0 := h ByteArray.empty ⟨t.data.toList, rfl⟩
  have h1 := h t (Pre.refl t)
  have e0 : nodupB (leadL st l) = true := by
    rw [cutF, if_pos (show ByteArray.empty.size = 0 from rfl)] at h0
    split at h0
    · assumption
    · cases h0
  have e1 : hdAt st l b s t t.size = roundsS st := by
    rw [cutF, if_neg (by omega), if_pos ht] at h1
    split at h1
    · assumption
    · cases h1
  refine ⟨by rw [roundT, decide_eq_true e1], ?_⟩
  rw [trueH, e0, Bool.true_and, freeH_iff]
  intro i k hik hk
  have hq : Pre (t.extract 0 k) t := by
    refine ⟨(t.extract k t.size).data.toList, ?_⟩
    have : t.extract 0 k ++ t.extract k t.size = t := by
      apply ByteArray.ext
      simp [ByteArray.data_append, ByteArray.data_extract]
    rw [← Array.toList_append, ← ByteArray.data_append, this]
  have hqs : (t.extract 0 k).size = k := by rw [ByteArray.size_extract]; omega
  have h2 := h _ hq
  rw [cutF, if_neg (by omega), if_neg (by omega), Option.map_eq_none_iff, List.find?_eq_none] at h2
  have h3 := h2 i (List.mem_range.2 (by omega))
  rw [hqs, clsAt, ← pre_hd hq i (by omega), ← pre_hd hq k (by omega)] at h3
  rw [clsAt]
  simpa using h3
theorem ex_sub {cut : ByteArray → Option Cut3} : ∀ (d : Nat) (s : SS) (p t : ByteArray), t ∈ (exF cut d s p).T → t ∈ s.T ∨ t ∈ (treeF cut d p).1
  | d, ⟨0, T, C, _⟩, p, t, h => by rw [ex_zero] at h; exact Or.inl h
  | 0, ⟨b + 1, T, C, ok⟩, p, t, h => by
    cases hc : cut p with
    | some c => simp [exF, hc] at h; exact Or.inl h
    | none =>
      simp [exF, hc] at h
      rcases h with h | h
      · exact Or.inl h
      · exact Or.inr (by simp [treeF, hc, h])
  | d + 1, ⟨b + 1, T, C, ok⟩, p, t, h => by
    cases hc : cut p with
    | some c => simp [exF, hc] at h; exact Or.inl h
    | none =>
      simp only [exF, hc, kids, List.foldl_cons, List.foldl_nil] at h
      rw [tree_mem hc]
      rcases ex_sub d _ _ _ h with h | h
      · rcases ex_sub d _ _ _ h with h | h
        · rcases ex_sub d _ _ _ h with h | h
          · exact Or.inl h
          · exact Or.inr ⟨_, by simp [kids], h⟩
        · exact Or.inr ⟨_, by simp [kids], h⟩
      · exact Or.inr ⟨_, by simp [kids], h⟩
end
end Go.Proofs.YtidolgonmimicaaGreat
namespace Go.Proofs.YtidolgonmimicaaGreat
open Go.ChangeShapes Go.WideShapes Go.ChangeAt Go.RowKit Go.Deep
theorem bytes_ne {y s : ByteArray} (h : ¬ y = s) : (y.toList == s.toList) = false := by
  rw [beq_eq_false_iff_ne]; exact fun e => h (toList_inj e)
theorem turn_set {a : ByteArray} {m : List Int} {k q : Nat} (h : goodRow a = true) (hk : k < a.size) (hq : (PlainAid.bt a k - 49).toNat = q) (hm : m.length = a.size) (hu : ∀ i, i < k → m[(PlainAid.bt a i - 49).toNat]? = some (49 + (i : Int))) :
    ∀ i, i < k + 1 → (m.set q (49 + (k : Int)))[(PlainAid.bt a i - 49).toNat]? = some (49 + (i : Int)) := fun i hi => by
  have hr := row_at h hk
  by_cases e : i = k
  · subst e
    rw [hq, List.getElem?_set_self (by omega)]
  · have hri := row_at h (i := i) (by omega)
    have hne : q ≠ (PlainAid.bt a i - 49).toNat := fun e2 => e (row_inj h (i := i) (j := k) (by omega) hk (by omega))
    rw [List.getElem?_set_ne hne]
    exact hu i (by omega)
set_option maxRecDepth 100000 in
theorem impl_turned {a : ByteArray} {w : World} (hg : goodRow a = true) :
    Calls Tryz.prog 190 #[.string a] w fun e w' => e = .returned (.string (turnS a)) ∧ Below w.heap.size w w' ∧ RowN a.size (turnS a) := by
  have hba := PlainAid.get_bt a
  have hn := goodRow_n hg
  have hn1 : 3 ≤ a.size := hn.1
  have hn2 : a.size ≤ 8 := hn.2
  clear hn
  have HG := Lib.hid hg
  have hmk := run_make_rec (e := byteE) Tryz.elU8 0 rfl a.size (by omega) (by decide)
  have hr0 : Hid (BRow (w.alloc (.cells (madeCells (byteE 0).toArray (a.size * 1)) 5)) w.heap.size (List.replicate a.size 0)) := Lib.hid (BRow.of_owned (Owned.made (e := byteE) (s := 1) byteE_len w 5 0 a.size (by omega) (Nat.le_refl _)))
  have hb0 : Below w.heap.size w (w.alloc (.cells (madeCells (byteE 0).toArray (a.size * 1)) 5)) := by (repeat' (first | (with_reducible exact Below.refl _ _) | (with_reducible assumption) | (with_reducible refine below_drewN ?_ _) | (with_reducible refine Below.drew ?_) | (with_reducible refine below_alloc ?_ _) | (with_reducible refine Below.alloc ?_ ?_ _) | (with_reducible refine Below.setCell ?_ ?_ _) | (with_reducible refine below_go ?_ (by with_reducible assumption)) | (with_reducible refine below_then (by with_reducible assumption) ?_ ?_) | go_size))
  clear hg
  rw [Nat.mul_one] at hr0 hb0 hmk
  go_in
  go_wp2
  clear hmk
  go_loopw [10] (fun i wr => ∃ (k : Nat) (m : List Int), k ≤ a.size ∧ i = .int .i64 k ∧ Hid (∀ j, j < k → m[(PlainAid.bt a j - 49).toNat]? = some (49 + (j : Int))) ∧ m.length = a.size ∧ Hid (BRow wr w.heap.size m) ∧ Below w.heap.size w wr) (fun i _ => a.size - (intOf i).toNat)
  case atStart => exact ⟨0, _, Nat.zero_le _, rfl, Lib.hid (fun j hj => absurd hj (by omega)), by simp, hr0, hb0⟩
  case round =>
    obtain ⟨k, m, hk, rfl, HM, hml, HR, hb⟩ := hrel
    by_cases hlt : k < a.size
    · have hr := row_at HG.out hlt
      obtain ⟨q, hq⟩ : ∃ q : Nat, PlainAid.bt a k = (q : Int) + 49 := ⟨(PlainAid.bt a k - 49).toNat, by omega⟩
      have hqa : q < a.size := by omega
      have hq6 : q % 256 = q := by omega
      have hq1 : PlainAid.bt a k - 49 = (q : Int) := by omega
      have hq2 : (PlainAid.bt a k - 49).toNat = q := by omega
      have d1 := HR.out.2.1 q _ (List.getElem?_eq_getElem (by omega))
      have f1 := HR.out.2.2 q (by omega)
      have hR2 := Lib.hid (HR.out.set (k := q) (by omega) (49 + (k : Int)))
      have HS := Lib.hid (turn_set HG.out hlt hq2 hml HM.out)
      go_wp2
      go_roundw
      case rel => exact ⟨k + 1, m.set q (49 + (k : Int)), by omega, by go_num, HS, by rw [List.length_set]; exact hml, hR2, by (repeat' (first | (with_reducible exact Below.refl _ _) | (with_reducible assumption) | (with_reducible refine below_drewN ?_ _) | (with_reducible refine Below.drew ?_) | (with_reducible refine below_alloc ?_ _) | (with_reducible refine Below.alloc ?_ ?_ _) | (with_reducible refine Below.setCell ?_ ?_ _) | (with_reducible refine below_go ?_ (by with_reducible assumption)) | (with_reducible refine below_then (by with_reducible assumption) ?_ ?_) | go_size))⟩
      case measure => simp [intOf]; omega
    · obtain rfl : k = a.size := by omega
      have ht := HR.out.text (P := Tryz.prog) (src := 22) (e := 5) (dst := 9) a.size a.size hml Tryz.underlying22 Tryz.underlying5 Tryz.underlying9
      have hT : TurnOf a m := ⟨hml, HM.out⟩
      have hR := turn_row HG.out hT
      rw [← turn_eq HG.out hT] at ht
      have HRR := Lib.hid hR
      clear hT hR
      go_wp2
      go_ret
      exact ⟨rfl, hb, HRR.out⟩
set_option maxRecDepth 100000 in
theorem spec_l1Turn {a : ByteArray} {w : World} (hg : goodRow a = true) :
    Calls Tryz.prog 114 #[.string a] w fun e w' => e = .returned (.string (turnS a)) ∧ Below w.heap.size w w' ∧ RowN a.size (turnS a) := by
  have hcv := run_bytes (P := Tryz.prog) (src := 9) (dst := 22) (e := 5) a Tryz.underlying9 Tryz.underlying22 Tryz.underlying5
  have hn := goodRow_n hg
  have hn1 : 3 ≤ a.size := hn.1
  have hn2 : a.size ≤ 8 := hn.2
  have ha : a.size ≤ 16777216 := by omega
  clear hn
  have HG := Lib.hid hg
  clear hg
  go_in
  go_wp2
  have hr0 := Lib.hid (bytesW_row w 5 a)
  have hb0 := bytesW_below w 5 a
  have hl0 := nums_len a
  clear hcv
  generalize grownCap w a.size 0 5 = cc
  go_loopw [4] (fun i wr => ∃ (k : Nat) (m : List Int), k ≤ a.size ∧ i = .int .i64 (k + 1 : Nat) ∧ Hid (∀ j, j < k → m[(PlainAid.bt a j - 49).toNat]? = some (49 + (j : Int))) ∧ m.length = a.size ∧ Hid (BRow wr w.heap.size m) ∧ Below w.heap.size w wr) (fun i _ => a.size + 1 - (intOf i).toNat)
  case atStart => exact ⟨0, _, Nat.zero_le _, rfl, Lib.hid (fun j hj => absurd hj (by omega)), hl0, hr0, hb0⟩
  case round =>
    obtain ⟨k, m, hk, rfl, HM, hml, HR, hb⟩ := hrel
    by_cases hlt : k < a.size
    · have hr := row_at HG.out hlt
      obtain ⟨q, hq⟩ : ∃ q : Nat, PlainAid.bt a k = (q : Int) + 49 := ⟨(PlainAid.bt a k - 49).toNat, by omega⟩
      have hqa : q < a.size := by omega
      have hq2 : (PlainAid.bt a k - 49).toNat = q := by omega
      have hq3 : PlainAid.bt a k - 48 = (q : Int) + 1 := by omega
      have h48 : 48 ≤ PlainAid.bt a k := by omega
      have d1 := HR.out.2.1 q _ (List.getElem?_eq_getElem (by omega))
      have f1 := HR.out.2.2 q (by omega)
      have hR2 := Lib.hid (HR.out.set (k := q) (by omega) (48 + ((k : Int) + 1)))
      have HS := Lib.hid (turn_set HG.out hlt hq2 hml HM.out)
      have he : (48 : Int) + ((k : Int) + 1) = 49 + (k : Int) := by omega
      have HE := Lib.hid he
      clear he
      go_wp2_with (first | (go_at_call 193; refine (spec_l1At hlt ha h48).mono ?_; rw [hq3]; rintro e w' ⟨rfl, rfl⟩))
      go_roundw
      case rel => exact ⟨k + 1, m.set q (48 + ((k : Int) + 1)), by omega, by go_num, Lib.hid (by rw [HE.out]; exact HS.out), by rw [List.length_set]; exact hml, hR2, by (repeat' (first | (with_reducible exact Below.refl _ _) | (with_reducible assumption) | (with_reducible refine below_drewN ?_ _) | (with_reducible refine Below.drew ?_) | (with_reducible refine below_alloc ?_ _) | (with_reducible refine Below.alloc ?_ ?_ _) | (with_reducible refine Below.setCell ?_ ?_ _) | (with_reducible refine below_go ?_ (by with_reducible assumption)) | (with_reducible refine below_then (by with_reducible assumption) ?_ ?_) | go_size))⟩
      case measure => simp [intOf]; omega
    · obtain rfl : k = a.size := by omega
      have ht := HR.out.text (P := Tryz.prog) (src := 22) (e := 5) (dst := 9) a.size cc hml Tryz.underlying22 Tryz.underlying5 Tryz.underlying9
      have hT : TurnOf a m := ⟨hml, HM.out⟩
      have hR := turn_row HG.out hT
      rw [← turn_eq HG.out hT] at ht
      have HRR := Lib.hid hR
      clear hT hR
      go_wp2
      go_ret
      exact ⟨rfl, hb, HRR.out⟩
set_option maxRecDepth 100000 in
theorem spec_l1HasS {A : Option Addr} {N c : Nat} {l : List ByteArray} {s : ByteArray} {w : World} (hN : l.length = N) (h : Strs w A l) (hz : N ≤ 16777216) :
    Calls Tryz.prog 148 #[.slice A N c, .string s] w fun e w' => e = .returned (.bool (inL l s)) ∧ w = w' := by
  subst hN
  go_in
  go_wp2
  go_loopw [9] (fun i wr => ∃ k : Nat, k ≤ l.length ∧ i = .int .i64 k ∧ Hid (∀ j, j < k → l[j]? ≠ some s) ∧ w = wr) (fun i _ => l.length - (intOf i).toNat)
  case atStart => exact ⟨0, Nat.zero_le _, rfl, Lib.hid (fun j hj => absurd hj (by omega)), rfl⟩
  case round =>
    obtain ⟨k, hk, rfl, HK, rfl⟩ := hrel
    by_cases hlt : k < l.length
    · obtain ⟨b1, o1, y, rfl, hbb, hy, hcy⟩ := h.at_str hlt
      by_cases hys : y = s
      · have e0 := Lib.hid (show inL l s = true from inL_iff.2 (by rw [← hys]; exact List.mem_of_getElem? hy))
        clear hy h
        go_wp2
        go_ret
        exact ⟨ret_bool e0.out.symm, rfl⟩
      · have HK2 := Lib.hid (show ∀ j, j < k + 1 → l[j]? ≠ some s from fun j hj => by
          rcases Nat.lt_or_ge j k with h1 | h1
          · exact HK.out j h1
          · obtain rfl : j = k := by omega
            rw [hy]; intro e; injection e with e; exact hys e)
        have hne := bytes_ne hys
        clear hy h
        go_wp2
        go_roundw
        case rel => exact ⟨k + 1, by omega, by go_num, HK2, trivial⟩
        case measure => simp [intOf]; omega
    · obtain rfl : k = l.length := by omega
      have e0 := Lib.hid (show inL l s = false by
        rcases hc : inL l s with _ | _
        · rfl
        · obtain ⟨j, hj⟩ := List.getElem?_of_mem (inL_iff.1 hc)
          exact absurd hj (HK.out j (List.getElem?_eq_some_iff.1 hj).1))
      go_wp2
      go_ret
      exact ⟨ret_bool e0.out.symm, rfl⟩
end Go.Proofs.YtidolgonmimicaaGreat
namespace Go.Proofs.YtidolgonmimicaaGreat
open Go.ChangeShapes Go.WideShapes Go.ChangeAt Go.RowKit Go.Deep
def fromK : Nat → Nat → List (List Int)
  | _, 0 => [[]]
  | p, 1 => [[(p : Int)]]
  | p, k + 2 => (fromK (p + 1) (k + 1)).map (fun r => (p : Int) :: r) ++ fromK (p + 2) k
def fibK : Nat → Nat
  | 0 => 1
  | 1 => 1
  | k + 2 => fibK (k + 1) + fibK k
theorem fromK_len : ∀ (k p : Nat), (fromK p k).length = fibK k
  | 0, _ => rfl
  | 1, _ => rfl
  | k + 2, p => by rw [fromK, List.length_append, List.length_map, fromK_len (k + 1), fromK_len k, fibK]
theorem fib_le : ∀ k, k < 9 → fibK k ≤ 34 := of_decide_eq_true (by kernel_rfl)
theorem fromK_le {k : Nat} (h : k ≤ 8) (p : Nat) : (fromK p k).length ≤ 34 := by rw [fromK_len]; exact fib_le k (by omega)
theorem fromK_row : ∀ (k p : Nat), ∀ r ∈ fromK p k, r.length ≤ k ∧ ∀ x ∈ r, (p : Int) ≤ x ∧ x < (p : Int) + k
  | 0, p, r, h => by
    simp only [fromK, List.mem_singleton] at h
    subst h; exact ⟨Nat.le_refl _, fun x hx => by cases hx⟩
  | 1, p, r, h => by
    simp only [fromK, List.mem_singleton] at h
    subst h
    refine ⟨Nat.le_refl _, fun x hx => ?_⟩
    rw [List.mem_singleton.1 hx]; omega
  | k + 2, p, r, h => by
    rw [fromK, List.mem_append, List.mem_map] at h
    rcases h with ⟨q, hq, rfl⟩ | h
    · have ih := fromK_row (k + 1) (p + 1) q hq
      refine ⟨by rw [List.length_cons]; omega, fun x hx => ?_⟩
      rcases List.mem_cons.1 hx with rfl | hx
      · omega
      · have := ih.2 x hx; omega
    · have ih := fromK_row k (p + 2) r h
      exact ⟨by omega, fun x hx => by have := ih.2 x hx; omega⟩
def dig1 (x : Int) : ByteArray := strOfNums [48 + x]
def placesS (l : List Int) : ByteArray := strOfNums (l.map fun x => 48 + x)
theorem placesS_snoc (l : List Int) (x : Int) : placesS (l ++ [x]) = placesS l ++ dig1 x := by
  rw [placesS, placesS, dig1, strOf_append, List.map_append]; rfl
theorem placesS_size (l : List Int) : (placesS l).size = l.length := by rw [placesS, strOfNums_size, List.length_map]
def ofPl (l : List Int) : ByteArray := if l.length = 0 then ⟨#[45]⟩ else placesS l
theorem ofPl_0 {l : List Int} (h : l.length = 0) : ofPl l = ⟨#[45]⟩ := by rw [ofPl, if_pos h]
theorem ofPl_pos {l : List Int} (h : 0 < l.length) : ofPl l = placesS l := by rw [ofPl, if_neg (by omega)]
theorem ofPl_size {l : List Int} (h : l.length ≤ 8) : (ofPl l).size ≤ 8 := by
  by_cases h0 : l.length = 0
  · rw [ofPl_0 h0]; decide
  · rw [ofPl_pos (by omega), placesS_size]; exact h
def chsRaw (n : Nat) : List ByteArray := ((fromK 1 n).map ofPl).filter fun c => goodChange n c
end Go.Proofs.YtidolgonmimicaaGreat
namespace Go.Proofs.YtidolgonmimicaaGreat
open Go.ChangeShapes Go.WideShapes Go.ChangeAt Go.RowKit Go.Deep
def idxK : Nat → Nat → List Int → List Nat
  | _, 0, _ => []
  | i, 1, _ => [i]
  | i, k + 2, ps => match ps with
    | [] => (i + 1) :: i :: idxK (i + 2) k []
    | x :: r => if x = (i : Int) + 1 then i :: idxK (i + 1) (k + 1) r else (i + 1) :: i :: idxK (i + 2) k (x :: r)
theorem idx_stay (i k : Nat) (r : List Int) : idxK i (k + 2) (((i : Int) + 1) :: r) = i :: idxK (i + 1) (k + 1) r := by rw [idxK, if_pos rfl]
theorem idx_swap {i k : Nat} {ps : List Int} (h : ∀ x ∈ ps, (i : Int) + 1 < x) : idxK i (k + 2) ps = (i + 1) :: i :: idxK (i + 2) k ps := by
  rcases ps with _ | ⟨x, r⟩
  · rw [idxK]
  · rw [idxK, if_neg (by have := h x (List.mem_cons_self ..); omega)]
theorem idxK_len : ∀ (k i : Nat) (ps : List Int), (idxK i k ps).length = k
  | 0, _, _ => rfl
  | 1, _, _ => rfl
  | k + 2, i, [] => by rw [idxK, List.length_cons, List.length_cons, idxK_len k]
  | k + 2, i, x :: r => by
    rw [idxK]
    split
    · rw [List.length_cons, idxK_len (k + 1)]
    · rw [List.length_cons, List.length_cons, idxK_len k]
def btwK (a b : ByteArray) : Nat → Nat → Bool → Bool
  | 0, _, sw => sw
  | 1, i, sw => if PlainAid.bt a i = PlainAid.bt b i then sw else false
  | k + 2, i, sw => if PlainAid.bt a i = PlainAid.bt b i then btwK a b (k + 1) (i + 1) sw else
      if PlainAid.bt a i = PlainAid.bt b (i + 1) ∧ PlainAid.bt a (i + 1) = PlainAid.bt b i then btwK a b k (i + 2) true else false
def fromIdx (a b : ByteArray) (i k : Nat) (ps : List Int) : Prop := ∀ j, j < k → PlainAid.bt b (i + j) = PlainAid.bt a ((idxK i k ps).getD j 0)
theorem btw_iff {a b : ByteArray} (n : Nat) (hd : ∀ i j, i < j → j < n → PlainAid.bt a i ≠ PlainAid.bt a j) : ∀ (k i : Nat) (sw : Bool), i + k = n →
    (btwK a b k i sw = true ↔ ∃ ps ∈ fromK (i + 1) k, fromIdx a b i k ps ∧ (sw = true ∨ ps.length < k))
  | 0, i, sw, h => by
    simp only [btwK, fromK, List.mem_singleton, exists_eq_left, fromIdx, List.length_nil]
    constructor
    · intro h; exact ⟨fun j hj => absurd hj (by omega), .inl h⟩
    · rintro ⟨_, h | h⟩
      · exact h
      · omega
  | 1, i, sw, h => by
    simp only [btwK, fromK, List.mem_singleton, exists_eq_left, fromIdx, List.length_cons, List.length_nil]
    constructor
    · intro h
      split at h
      · rename_i e
        exact ⟨fun j hj => by obtain rfl : j = 0 := by omega
                              simp [idxK, e], .inl h⟩
      · cases h
    · rintro ⟨h1, h | h⟩
      · have := h1 0 (by omega)
        simp [idxK] at this
        rw [if_pos this.symm]; exact h
      · omega
  | k + 2, i, sw, h => by
    have ih1 := btw_iff (b := b) n hd (k + 1) (i + 1) sw (by omega)
    have ih2 := btw_iff (b := b) n hd k (i + 2) true (by omega)
    have hsplit : ∀ ps, ps ∈ fromK (i + 1) (k + 2) ↔ (∃ r ∈ fromK (i + 2) (k + 1), ps = ((i : Int) + 1) :: r) ∨ ps ∈ fromK (i + 3) k := fun ps => by
      rw [fromK, List.mem_append, List.mem_map]
      constructor
      · rintro (⟨r, hr, rfl⟩ | h)
        · exact .inl ⟨r, hr, by congr 1⟩
        · exact .inr h
      · rintro (⟨r, hr, rfl⟩ | h)
        · exact .inl ⟨r, hr, by congr 1⟩
        · exact .inr h
    rw [btwK]
    constructor
    · intro hb
      split at hb
      · rename_i e
        obtain ⟨r, hr, h1, h2⟩ := ih1.1 hb
        refine ⟨((i : Int) + 1) :: r, (hsplit _).2 (.inl ⟨r, hr, rfl⟩), fun j hj => ?_, ?_⟩
        · rw [idx_stay]
          rcases j with _ | j
          · simpa using e.symm
          · have := h1 j (by omega)
            rw [show i + (j + 1) = i + 1 + j by omega]
            simpa using this
        · rcases h2 with h2 | h2
          · exact .inl h2
          · right; rw [List.length_cons]; omega
      · split at hb
        · rename_i e
          obtain ⟨ps, hps, h1, h2⟩ := ih2.1 hb
          have hx := (fromK_row k (i + 3) ps hps)
          refine ⟨ps, (hsplit _).2 (.inr hps), fun j hj => ?_, .inr (by omega)⟩
          rw [idx_swap (fun x hx' => by have := hx.2 x hx'; omega)]
          rcases j with _ | _ | j
          · simpa using e.2.symm
          · simpa using e.1.symm
          · have := h1 j (by omega)
            rw [show i + (j + 1 + 1) = i + 2 + j by omega]
            simpa using this
        · cases hb
    · rintro ⟨ps, hps, h1, h2⟩
      rcases (hsplit ps).1 hps with ⟨r, hr, rfl⟩ | hps
      · rw [fromIdx, idx_stay] at h1
        have h0 := h1 0 (by omega)
        simp at h0
        rw [if_pos h0.symm]
        refine ih1.2 ⟨r, hr, fun j hj => ?_, ?_⟩
        · have := h1 (j + 1) (by omega)
          rw [show i + (j + 1) = i + 1 + j by omega] at this
          simpa using this
        · rcases h2 with h2 | h2
          · exact .inl h2
          · right; rw [List.length_cons] at h2; omega
      · have hx := (fromK_row k (i + 3) ps hps)
        rw [fromIdx, idx_swap (fun x hx' => by have := hx.2 x hx'; omega)] at h1
        have h0 := h1 0 (by omega)
        have h3 := h1 1 (by omega)
        simp at h0 h3
        have hne := hd i (i + 1) (by omega) (by omega)
        rw [if_neg (fun e => hne (by rw [e, h0])), if_pos ⟨h3.symm, h0.symm⟩]
        refine ih2.2 ⟨ps, hps, fun j hj => ?_, .inl rfl⟩
        have := h1 (j + 1 + 1) (by omega)
        rw [show i + (j + 1 + 1) = i + 2 + j by omega] at this
        simpa using this
def swsF (st : Int → Bool) (n : Nat) : Nat → Nat → List Int
  | 0, _ => []
  | f + 1, p => if p < n then (if st p then swsF st n f (p + 1) else (p : Int) :: swsF st n f (p + 2)) else []
theorem sws_F (st : Int → Bool) (n : Nat) : ∀ (f p : Nat), n ≤ p + f → sws st n p = swsF st n f p
  | 0, p, h => by rw [sws_end (by omega), swsF]
  | f + 1, p, h => by
    rw [swsF]
    by_cases hp : p < n
    · rw [if_pos hp]
      rcases hs : st p
      · rw [sws_swap hp hs, if_neg (by simp), sws_F st n f (p + 2) (by omega)]
      · rw [sws_stay hp hs, if_pos rfl, sws_F st n f (p + 1) (by omega)]
    · rw [sws_end hp, if_neg hp]
def idxC (n : Nat) (ps : List Int) : List Nat := (List.range n).map fun j => (cval (swsF (stays (ofPl ps)) n 9 1) j - 49).toNat
def okPs (n : Nat) (ps : List Int) : Bool := (idxC n ps == idxK 0 n ps) && (goodChange n (ofPl ps) == decide (ps.length < n))
theorem all_ok : ∀ n, n < 9 → 3 ≤ n → (fromK 1 n).all (okPs n) = true := of_decide_eq_true (by kernel_rfl)
end Go.Proofs.YtidolgonmimicaaGreat
namespace Go.Proofs.YtidolgonmimicaaGreat
open Go.ChangeShapes Go.WideShapes Go.ChangeAt Go.RowKit Go.Deep
theorem nums_apply {a : ByteArray} (h : goodRow a = true) (c : ByteArray) : nums (applyR a c) = (rowV a.size (swaps a.size c)).map fun z => PlainAid.bt a (z - 49).toNat := by
  have hn := goodRow_n h
  have hr := goodRow_list h
  have e0 : nums (chRow a.size c) = rowV a.size (swaps a.size c) := by rw [chRow, nums_strOf (rowL_bytes (rowL_ch a.size c) (by rw [rowV_len]; omega))]
  have h2 := rowL_times hr (by rw [e0]; exact rowL_ch a.size c) (chRow_size a.size c).symm
  rw [applyR, timesS, nums_strOf (rowL_bytes h2 (by rw [timesL_len, chRow_size]; omega)), timesL, e0]
theorem apply_iff {a b : ByteArray} (ha : goodRow a = true) (e : a.size = b.size) {ps : List Int} (hps : ps ∈ fromK 1 a.size) : applyR a (ofPl ps) = b ↔ fromIdx a b 0 a.size ps := by
  have hn := goodRow_n ha
  have hok := all_ok a.size (by omega) (by omega)
  rw [List.all_eq_true] at hok
  have hok := hok ps hps
  rw [okPs, Bool.and_eq_true] at hok
  have hi : idxC a.size ps = idxK 0 a.size ps := by simpa using hok.1
  have hsw : swsF (stays (ofPl ps)) a.size 9 1 = swaps a.size (ofPl ps) := (sws_F _ _ _ _ (by omega)).symm
  have hat : ∀ j, j < a.size → (nums (applyR a (ofPl ps)))[j]? = some (PlainAid.bt a ((idxK 0 a.size ps).getD j 0)) := fun j hj => by
    rw [nums_apply ha, ← hi, rowV, List.map_map, List.getElem?_map, List.getElem?_range hj, idxC, hsw]
    simp [hj]
  constructor
  · intro h j hj
    have h1 := hat j hj
    rw [h, nums_at (by omega)] at h1
    injection h1 with h1
    rw [Nat.zero_add]; exact h1
  · intro h
    apply nums_inj
    apply List.ext_getElem?
    intro j
    by_cases hj : j < a.size
    · rw [hat j hj, nums_at (by omega)]
      have := h j hj
      rw [Nat.zero_add] at this
      rw [this]
    · rw [List.getElem?_eq_none (by rw [nums_len, applyR_size]; omega), List.getElem?_eq_none (by rw [nums_len]; omega)]
theorem mem_chs {n : Nat} {c : ByteArray} : c ∈ chsRaw n ↔ (∃ ps ∈ fromK 1 n, ofPl ps = c) ∧ goodChange n c = true := by
  rw [chsRaw, List.mem_filter, List.mem_map]
theorem row_ne {a : ByteArray} (ha : goodRow a = true) {i j : Nat} (hij : i < j) (hj : j < a.size) : PlainAid.bt a i ≠ PlainAid.bt a j := by
  have hp := (goodRow_list ha).1
  rw [List.nodup_iff_pairwise_ne, List.pairwise_iff_getElem] at hp
  have := hp i j (by rw [nums_len]; omega) (by rw [nums_len]; omega) hij
  have h1 := nums_at (s := a) (k := i) (by omega); have h2 := nums_at (s := a) (k := j) (by omega)
  rw [List.getElem?_eq_getElem (by rw [nums_len]; omega)] at h1 h2
  injection h1 with h1; injection h2 with h2
  rw [← h1, ← h2]; exact this
def btwB (a b : ByteArray) : Bool := btwK a b a.size 0 false
theorem btw_change {a b : ByteArray} (ha : goodRow a = true) (e : a.size = b.size) : btwB a b = true ↔ ∃ c ∈ chsRaw a.size, applyR a c = b := by
  have hn := goodRow_n ha
  have hok := all_ok a.size (by omega) (by omega)
  rw [List.all_eq_true] at hok
  rw [btwB, btw_iff (b := b) a.size (fun i j h1 h2 => row_ne ha h1 h2) a.size 0 false (by omega)]
  constructor
  · rintro ⟨ps, hps, h1, h2⟩
    have h3 := hok ps hps
    rw [okPs, Bool.and_eq_true] at h3
    have hl : ps.length < a.size := by rcases h2 with h2 | h2; cases h2; exact h2
    have hg : goodChange a.size (ofPl ps) = true := by
      have := h3.2
      rw [decide_eq_true hl] at this
      simpa using this
    exact ⟨ofPl ps, mem_chs.2 ⟨⟨ps, hps, rfl⟩, hg⟩, (apply_iff ha e hps).2 h1⟩
  · rintro ⟨c, hc, h1⟩
    obtain ⟨⟨ps, hps, rfl⟩, hg⟩ := mem_chs.1 hc
    have h3 := hok ps hps
    rw [okPs, Bool.and_eq_true, hg] at h3
    refine ⟨ps, hps, (apply_iff ha e hps).1 h1, .inr ?_⟩
    have := h3.2
    by_cases hl : ps.length < a.size
    · exact hl
    · rw [decide_eq_false hl] at this; simp at this
end Go.Proofs.YtidolgonmimicaaGreat
namespace Go.Proofs.YtidolgonmimicaaGreat
open Go.ChangeShapes Go.WideShapes Go.ChangeAt Go.RowKit Go.Deep
theorem own_lit1 {α : Type} {e : α → List Value} {s : Nat} (he : ∀ x, (e x).length = s) (w : World) (E : TypeId) (x : α) {base : Nat} (hb : base ≤ w.heap.size) : Owned e s E (w.alloc (.cells ⟨e x⟩ E)) base (some ⟨w.heap.size, 0, none⟩) 1 1 [x] :=
  ⟨he, rfl, by simpa using World.ownsRow_lit (e := E) (base := base) (size := s) w ⟨e x⟩ 1 hb (by unfold maxLen; omega) (by simp [he])⟩
set_option maxHeartbeats 1000000 in
set_option maxRecDepth 100000 in
theorem spec_l2From : ∀ (k n p : Nat) (w : World), k ≤ 8 → n ≤ 8 → n + 1 = p + k → 1 ≤ p →
    Calls Tryz.prog 250 #[.int .i64 n, .int .i64 p] w fun e w' => ∃ vs A c, e = .returned (.slice A (fromK p k).length c) ∧ LT intE 1 3 134 vs w' w.heap.size A (fromK p k).length c (fromK p k) ∧ Below w.heap.size w w' := by
  intro k
  induction k using Nat.strongRecOn with
  | ind k ih =>
    intro n p w hk hn8 hn hp
    by_cases h0 : k = 0
    · subst h0
      have hI : (n : Int) < (p : Int) := by omega
      have hl : LT intE 1 3 134 [(none, 0, 0)] (w.alloc (.cells #[.slice none 0 0] 134)) w.heap.size (some ⟨w.heap.size, 0, none⟩) 1 1 [[]] := ⟨rfl, own_lit1 slcE_len w 134 (none, 0, 0) (Nat.le_refl _), fun j v r hv hr => by
        have hj : j = 0 := by have := (List.getElem?_eq_some_iff.1 hv).1; simp at this; exact this
        subst hj
        simp at hv hr
        subst hv hr
        exact Owned.nil intE_len _ _ _⟩
      go_in
      go_wp2
      go_ret
      exact ⟨_, _, _, rfl, hl, by (repeat' (first | (with_reducible exact Below.refl _ _) | (with_reducible assumption) | (with_reducible refine below_drewN ?_ _) | (with_reducible refine Below.drew ?_) | (with_reducible refine below_alloc ?_ _) | (with_reducible refine Below.alloc ?_ ?_ _) | (with_reducible refine Below.setCell ?_ ?_ _) | (with_reducible refine below_go ?_ (by with_reducible assumption)) | (with_reducible refine below_then (by with_reducible assumption) ?_ ?_) | go_size))⟩
    · obtain ⟨q, rfl⟩ : ∃ q, k = q + 1 := ⟨k - 1, by omega⟩
      have hI : ¬ (n : Int) < (p : Int) := by omega
      have IH := Lib.hid (ih q (by omega))
      have IH2 := Lib.hid (fun m (hm : m + 1 = q) => ih m (by omega))
      have hlen := Lib.hid (fromK_le (k := q) (by omega) (p + 1))
      have hrow := Lib.hid (fromK_row q (p + 1))
      have hT : Hid (fromK p (q + 1) = (fromK (p + 1) q).map (fun r => (p : Int) :: r) ++ (if q = 0 then [] else fromK (p + 2) (q - 1))) := Lib.hid (by rcases q with _ | q <;> simp [fromK])
      clear ih
      go_in
      go_wp2_with fail
      rw [show ((p : Int) + 1) = ((p + 1 : Nat) : Int) by omega]
      refine (IH.out n (p + 1) w (by omega) (by omega) (by omega) (by omega)).mono ?_; rintro e w1 ⟨vs1, A1, c1, rfl, L1, hb1⟩
      have HW1 := hb1.size
      go_wp2
      go_loopw [5, 17] (fun v i wr => ∃ (j : Nat) (us : List Hd) (A' : Option Addr) (c' : Nat), j ≤ (fromK (p + 1) q).length ∧ i = .int .i64 j ∧ v = .slice A' j c' ∧ Hid (LT intE 1 3 134 us wr w1.heap.size A' j c' (((fromK (p + 1) q).take j).map fun r => (p : Int) :: r)) ∧ Below w1.heap.size w1 wr) (fun _ i _ => (fromK (p + 1) q).length - (intOf i).toNat)
      case atStart => exact ⟨0, [], none, 0, Nat.zero_le _, rfl, rfl, Lib.hid (LT.nil _ _), Below.refl _ _⟩
      case round =>
        obtain ⟨j, us, A', c', hj, rfl, rfl, HL, hb⟩ := hrel
        by_cases hlt : j < (fromK (p + 1) q).length
        · obtain ⟨b3, o3, v, r, rfl, hbb, hr, hv, hc, ho⟩ := (L1.up hb).at_ hlt
          have hrl := hrow.out r (List.mem_of_getElem? hr)
          have HR := Lib.hid hr
          have HO := Lib.hid ho
          have hsz := hb.size
          have hl := hlen.out
          clear hr hv ho
          go_wp2_with (first | (at_builtin; ((refine wpList_append_recs Tryz.elInt intE_one rfl (.tmp 23) (.tmp 24) rfl rfl (own_lit1 intE_len _ _ (p : Int) (base := wr.heap.size) (Nat.le_refl _)) rfl (HO.out.recs.alloc _) rfl ?_ (by decide) ?_ ?_; (focus (first | omega | (simp only [World.size_alloc]; done) | (simp only [World.size_alloc]; omega) | (simp; done) | (simp; omega))); (focus (first | omega | (simp only [World.size_alloc]; done) | (simp only [World.size_alloc]; omega) | (simp; done) | (simp; omega))); intro A2 c2 w2 ho2 hg2 hl2; have hb2 := lit_app hg2; have HL2 := Lib.hid (HL.out.up hb2); have hsz2 := hb2.size))) | (at_builtin; go_must ((refine wpList_append_recs Tryz.elInts slcE_one rfl (.tmp 21) (.tmp 26) rfl rfl (HL2.out.top.alloc _) rfl (own_lit1 slcE_len _ _ ((A2, 1 + r.length, c2) : Hd) (Nat.le_refl _)).recs rfl ?_ (by decide) ?_ ?_; (focus (first | omega | (simp only [World.size_alloc]; done) | (simp only [World.size_alloc]; omega) | (simp; done) | (simp; omega))); (focus (first | omega | (simp only [World.size_alloc]; done) | (simp only [World.size_alloc]; omega) | (simp; done) | (simp; omega))); intro A3 c3 w3 ho3 hg3 hl3))))
          have hL3 := (HL2.out.alloc (.cells #[.slice A2 (1 + r.length) c2] 134)).add (by decide) ((ho2.base_le hsz).alloc _) ho3 hg3
          have hb3 : Below w1.heap.size w1 w3 := ((hb.trans (hb2.mono hsz)).alloc (by omega) _).trans (grown_base hg3 (by simp; omega) (fun k hk => (HL2.out.top.blk hk).1))
          go_roundw
          case rel => exact ⟨j + 1, _, A3, c3, by omega, by go_num, by go_num, Lib.hid (by rw [take_succ_some HR.out, List.map_append]; exact hL3), hb3⟩
          case measure => simp [intOf]; omega
        · obtain rfl : j = (fromK (p + 1) q).length := by omega
          have e1 := Lib.hid (show ((fromK (p + 1) q).take (fromK (p + 1) q).length).map (fun r => (p : Int) :: r) = (fromK (p + 1) q).map fun r => (p : Int) :: r by rw [List.take_of_length_le (Nat.le_refl _)])
          have hsz := hb.size
          rcases Nat.eq_zero_or_pos q with hq | hq
          · subst hq
            have hI2 : ¬ (p : Int) < (n : Int) := by omega
            have e2 := Lib.hid (show fromK p (0 + 1) = (fromK (p + 1) 0).map (fun r => (p : Int) :: r) by rw [hT.out]; simp)
            have e3 := Lib.hid (show (fromK (p + 1) 0).length = 1 from rfl)
            go_wp2
            go_ret
            have hl := HL.out
            rw [e1.out, ← e2.out] at hl
            exact ⟨_, _, _, rfl, hl.base_le HW1, below_go hb1 hb⟩
          · obtain ⟨m, rfl⟩ : ∃ m, q = m + 1 := ⟨q - 1, by omega⟩
            have hI2 : (p : Int) < (n : Int) := by omega
            go_wp2_with fail
            rw [show ((p : Int) + 2) = ((p + 2 : Nat) : Int) by omega]
            refine (IH2.out m rfl n (p + 2) wr (by omega) (by omega) (by omega) (by omega)).mono ?_; rintro e w4 ⟨vs4, A4, c4, rfl, L4, hb4⟩
            have HL4 := Lib.hid (HL.out.up hb4)
            have hl2 := Lib.hid (fromK_le (k := m) (by omega) (p + 2))
            have hl3 := hl2.out
            have hl1 := hlen.out
            have hsz4 := hb4.size
            have e2 := Lib.hid (show fromK p (m + 1 + 1) = (fromK (p + 1) (m + 1)).map (fun r => (p : Int) :: r) ++ fromK (p + 2) m by rw [hT.out, if_neg (by omega)]; rfl)
            have e3 := Lib.hid (show (fromK p (m + 1 + 1)).length = (fromK (p + 1) (m + 1)).length + (fromK (p + 2) m).length by rw [e2.out, List.length_append, List.length_map])
            go_wp2_with (first | (at_builtin; go_must ((refine wpList_append_recs Tryz.elInts slcE_one rfl (.tmp 32) (.tmp 36) rfl rfl HL4.out.top rfl L4.top.recs L4.top.len ?_ (by decide) ?_ ?_; (focus (first | omega | (simp only [World.size_alloc]; done) | (simp only [World.size_alloc]; omega) | (simp; done) | (simp; omega))); (focus (first | omega | (simp only [World.size_alloc]; done) | (simp only [World.size_alloc]; omega) | (simp; done) | (simp; omega))); intro A5 c5 w5 ho5 hg5 hl5))))
            go_ret
            have hL5 := HL4.out.join (by decide) (L4.base_le hsz) ho5 hg5
            rw [e1.out, ← e2.out, ← e3.out] at hL5
            rw [e3.out]
            rw [e3.out] at hL5
            exact ⟨_, _, _, rfl, hL5.base_le HW1, below_go hb1 ((hb.trans (hb4.mono hsz)).trans (grown_base hg5 (by omega) (fun k hk => (HL4.out.top.blk hk).1)))⟩
end Go.Proofs.YtidolgonmimicaaGreat
namespace Go.Proofs.YtidolgonmimicaaGreat
open Go.ChangeShapes Go.WideShapes Go.ChangeAt Go.RowKit Go.Deep
theorem spec_l1Num_1 {x : Int} {w : World} (h0 : 0 ≤ x) (h1 : x ≤ 9) :
    Calls Tryz.prog 222 #[.int .i64 x] w fun e w' => e = .returned (.string (dig1 x)) ∧ Below w.heap.size w w' := by
  have hI : x < 10 := by omega
  have hcv := run_convert_bytes_arg (P := Tryz.prog) (w.alloc (.cells #[.int .u8 (48 + x)] 5)) 22 5 Tryz.underlying22 Tryz.underlying5 w.heap.size 0 1 1 [48 + x] rfl (fun i hi => by
    obtain rfl : i = 0 := by omega
    exact Box.new w [.int .u8 (48 + x)] 5 0 _ rfl) 9 Tryz.underlying9
  have hdef : strOfNums [48 + x] = dig1 x := rfl
  rw [hdef] at hcv
  clear hdef
  go_in
  go_wp2
  go_ret
  exact ⟨rfl, by (repeat' (first | (with_reducible exact Below.refl _ _) | (with_reducible assumption) | (with_reducible refine below_drewN ?_ _) | (with_reducible refine Below.drew ?_) | (with_reducible refine below_alloc ?_ _) | (with_reducible refine Below.alloc ?_ ?_ _) | (with_reducible refine Below.setCell ?_ ?_ _) | (with_reducible refine below_go ?_ (by with_reducible assumption)) | (with_reducible refine below_then (by with_reducible assumption) ?_ ?_) | go_size))⟩
set_option maxRecDepth 100000 in
theorem spec_l2Of {A : Option Addr} {n c : Nat} {l : List Int} {w : World} (hn : l.length = n) (h : Ints w A l) (hz : n ≤ 8) (hl : ∀ x ∈ l, 0 ≤ x ∧ x ≤ 9) :
    Calls Tryz.prog 251 #[.slice A n c] w fun e w' => e = .returned (.string (ofPl l)) ∧ Below w.heap.size w w' := by
  subst hn
  have HL := Lib.hid hl
  clear hl
  go_in
  go_wp2
  go_loopw [3, 8] (fun v i wr => ∃ k : Nat, k ≤ l.length ∧ i = .int .i64 k ∧ v = .string (placesS (l.take k)) ∧ Below w.heap.size w wr) (fun _ i _ => l.length - (intOf i).toNat)
  case atStart => exact ⟨0, Nat.zero_le _, rfl, rfl, Below.refl _ _⟩
  case round =>
    obtain ⟨k, hk, rfl, rfl, hb⟩ := hrel
    by_cases hlt : k < l.length
    · obtain ⟨b1, o1, x, rfl, _, hx, hcx⟩ := (h.below hb (Nat.le_refl _)).at_int hlt
      have hxb := HL.out x (List.mem_of_getElem? hx)
      have e1 := Lib.hid (show placesS (l.take (k + 1)) = placesS (l.take k) ++ dig1 x by rw [take_succ_some hx, placesS_snoc])
      have hs1 : (placesS (l.take k)).size ≤ 8 := by rw [placesS_size, List.length_take]; omega
      have hs2 : (dig1 x).size = 1 := rfl
      clear hx h
      go_wp2_with (first | (go_at_call 222; refine (spec_l1Num_1 hxb.1 hxb.2).mono ?_; rintro e w1 ⟨rfl, hb1⟩))
      go_roundw
      case rel => exact ⟨k + 1, by omega, by go_num, by rw [e1.out], below_go hb hb1⟩
      case measure => simp [intOf]; omega
    · obtain rfl : k = l.length := by omega
      rw [List.take_of_length_le (Nat.le_refl _)]
      by_cases h0 : l.length = 0
      · have e1 := Lib.hid (ofPl_0 h0)
        have e2 : (placesS l).toList.isEmpty = true ∧ (placesS l).toList = [] := no_bytes (by rw [placesS_size]; omega)
        obtain ⟨e3, e4⟩ := e2
        go_wp2
        go_ret
        rw [e1.out]
        exact ⟨rfl, hb⟩
      · have e1 := Lib.hid (ofPl_pos (l := l) (by omega))
        have e2 : (placesS l).toList.isEmpty = false ∧ ¬ (placesS l).toList = [] := some_bytes (by rw [placesS_size]; omega)
        obtain ⟨e3, e4⟩ := e2
        go_wp2
        go_ret
        rw [e1.out]
        exact ⟨rfl, hb⟩
end Go.Proofs.YtidolgonmimicaaGreat
namespace Go.Proofs.YtidolgonmimicaaGreat
open Go.ChangeShapes Go.WideShapes Go.ChangeAt Go.RowKit Go.Deep
theorem ins_at {α : Type} {M : List α} {y : α} {q : Nat} (h : q ≤ M.length) : (M.take q ++ y :: M.drop q)[q]? = some y := by
  rw [List.getElem?_append_right (by rw [List.length_take]; omega), List.length_take, Nat.min_eq_left h, Nat.sub_self, List.getElem?_cons_zero]
theorem ins_before {α : Type} {M : List α} {y : α} {q : Nat} (h : q < M.length) : (M.take (q + 1) ++ y :: M.drop (q + 1))[q]? = M[q]? := by
  rw [List.getElem?_append_left (by rw [List.length_take]; omega), List.getElem?_take, if_pos (by omega)]
theorem ins_set {α : Type} {M : List α} {y z : α} {q : Nat} (h : q ≤ M.length) : (M.take q ++ y :: M.drop q).set q z = M.take q ++ z :: M.drop q := by
  rw [List.set_append_right _ _ (by rw [List.length_take]; omega), List.length_take, Nat.min_eq_left h, Nat.sub_self, List.set_cons_zero]
theorem ins_down {α : Type} {M : List α} {y z : α} {q : Nat} (hz : M[q]? = some z) : (M.take (q + 1) ++ y :: M.drop (q + 1)).set (q + 1) z = M.take q ++ z :: M.drop q := by
  have h := (List.getElem?_eq_some_iff.1 hz).1
  rw [ins_set (by omega), take_succ_some hz, List.append_assoc]
  congr 1
  rw [List.drop_eq_getElem_cons h, (List.getElem?_eq_some_iff.1 hz).2]; rfl
theorem ins_len {α : Type} {M : List α} {y : α} {q : Nat} (h : q ≤ M.length) : (M.take q ++ y :: M.drop q).length = M.length + 1 := by
  rw [List.length_append, List.length_cons, List.length_take, List.length_drop]; omega
theorem ins_perm {α : Type} {M : List α} {y : α} {q : Nat} : (M.take q ++ y :: M.drop q).Perm (M ++ [y]) := by
  refine (List.perm_middle).trans ?_
  rw [List.take_append_drop]
  exact (List.perm_append_singleton y M).symm
theorem filt_hit {f : ByteArray → Bool} {g : List Int → ByteArray} {T : List (List Int)} {j : Nat} {r : List Int} (hr : T[j]? = some r) (h : f (g r) = true) : ((T.take (j + 1)).map g).filter f = ((T.take j).map g).filter f ++ [g r] := by
  rw [take_succ_some hr, List.map_append, List.filter_append]
  simp [h]
theorem filt_miss {f : ByteArray → Bool} {g : List Int → ByteArray} {T : List (List Int)} {j : Nat} {r : List Int} (hr : T[j]? = some r) (h : f (g r) = false) : ((T.take (j + 1)).map g).filter f = ((T.take j).map g).filter f := by
  rw [take_succ_some hr, List.map_append, List.filter_append]
  simp [h]
set_option maxHeartbeats 2000000 in
set_option maxRecDepth 100000 in
theorem spec_l2All {n : Nat} {w : World} (hn : n ≤ 8) :
    Calls Tryz.prog 224 #[.int .i64 n] w fun e w' => ∃ A c L, e = .returned (.slice A L.length c) ∧ Owned strE 1 9 w' w.heap.size A L.length c L ∧ L.Perm (chsRaw n) ∧ Below w.heap.size w w' := by
  have hlen := fromK_le (k := n) hn 1
  have HR := Lib.hid (fromK_row n 1)
  have HC : Hid (chsRaw n = ((fromK 1 n).map ofPl).filter fun c => goodChange n c) := Lib.hid rfl
  go_in
  go_wp2_with fail
  refine (spec_l2From n n 1 w hn hn (by omega) (Nat.le_refl _)).mono ?_; rintro e w1 ⟨vs, A1, c1, rfl, L1, hb1⟩
  obtain ⟨T, hT⟩ : ∃ T, T = fromK 1 n := ⟨_, rfl⟩
  rw [← hT] at hlen HR HC L1 ⊢
  clear hT
  go_wp2
  go_loopw [3, 11] (fun v i wr => ∃ (j : Nat) (M : List ByteArray) (A' : Option Addr) (c' : Nat), j ≤ T.length ∧ i = .int .i64 j ∧ v = .slice A' M.length c' ∧ M.length ≤ j ∧ Hid (M.Perm (((T.take j).map ofPl).filter fun c => goodChange n c)) ∧ Hid (Owned strE 1 9 wr w1.heap.size A' M.length c' M) ∧ Below w1.heap.size w1 wr) (fun _ i _ => T.length - (intOf i).toNat)
  case atStart => exact ⟨0, [], none, 0, Nat.zero_le _, rfl, rfl, Nat.le_refl _, Lib.hid (by simp), Lib.hid (Owned.nil strE_len _ _ _), Below.refl _ _⟩
  case round =>
    obtain ⟨j, M, A', c', hj, rfl, rfl, hm, HP, HO, hb⟩ := hrel
    rename World => wo
    by_cases hlt : j < T.length
    · obtain ⟨b3, o3, v, r, rfl, hbb, hr, hv, hc, ho⟩ := (L1.up hb).at_ hlt
      have hrr := HR.out r (List.mem_of_getElem? hr)
      have hrb : ∀ x ∈ r, 0 ≤ x ∧ x ≤ 9 := fun x hx => by have := hrr.2 x hx; omega
      have hrl : r.length ≤ 8 := by omega
      have hsz := hb.size
      have hos := ofPl_size hrl
      have HRr := Lib.hid hr
      clear hr hv hrr
      go_wp2_with fail
      refine (spec_l2Of rfl ho.recs hrl hrb).mono ?_; rintro e w2 ⟨rfl, hb2⟩
      obtain ⟨s, hs⟩ : ∃ s, s = ofPl r := ⟨_, rfl⟩
      rw [← hs] at hos ⊢
      have HS := Lib.hid hs
      clear hs ho hc hrb
      go_wp2_with fail
      refine (spec_l2Change (by omega) (by unfold I64; omega)).mono ?_; rintro e w' ⟨rfl, rfl⟩
      have hbt := hb.trans (hb2.mono hsz)
      have hsz2 := hb2.size
      rcases hg : goodChange n s
      · have e1 := Lib.hid (filt_miss (f := fun c => goodChange n c) (g := ofPl) HRr.out (by rw [← HS.out]; exact hg))
        go_wp2
        go_roundw
        case rel => exact ⟨j + 1, M, A', c', by omega, by go_num, rfl, by omega, Lib.hid (by rw [e1.out]; exact HP.out), Lib.hid (HO.out.up hb2), hbt⟩
        case measure => simp [intOf]; omega
      · have e1 := Lib.hid (filt_hit (f := fun c => goodChange n c) (g := ofPl) HRr.out (by rw [← HS.out]; exact hg))
        have HO2 := Lib.hid (HO.out.up hb2)
        go_wp2_with (first | (at_builtin; go_must ((refine wpList_append_rec Tryz.elStr rfl (.tmp 23) (.tmp 25) rfl rfl (HO2.out.alloc _) s rfl (Box.at_ _ [.string s] _ ?_) (strE_one _) ?_ (by decide) ?_ ?_; (focus (first | omega | (simp only [World.size_alloc]; done) | (simp only [World.size_alloc]; omega) | (simp; done) | (simp; omega))); (focus (first | omega | (simp only [World.size_alloc]; done) | (simp only [World.size_alloc]; omega) | (simp; done) | (simp; omega))); (focus (first | omega | (simp only [World.size_alloc]; done) | (simp only [World.size_alloc]; omega) | (simp; done) | (simp; omega))); intro A3 c3 w3 ho3 hg3 hb3))))
        have hb3' : Below w1.heap.size w1 w3 := (hbt.alloc (by omega) _).trans hb3
        have h0 : Hid (Owned strE 1 9 w3 w1.heap.size A3 (M.length + 1) c3 (M.take M.length ++ s :: M.drop M.length)) := Lib.hid (by rw [List.take_of_length_le (Nat.le_refl _), List.drop_length]; exact ho3)
        clear ho3 hg3
        go_loopw [7] (fun k wr => ∃ (q : Nat) (y : ByteArray), q ≤ M.length ∧ k = .int .i64 q ∧ Hid (Owned strE 1 9 wr w1.heap.size A3 (M.length + 1) c3 (M.take q ++ y :: M.drop q)) ∧ Below w1.heap.size w1 wr) (fun k _ => (intOf k).toNat)
        case atStart => exact ⟨M.length, s, Nat.le_refl _, rfl, h0, hb3'⟩
        case round =>
          obtain ⟨q, y, hq, rfl, HQ, hbq⟩ := hrel
          obtain ⟨g, rfl, _, lg, hcell, hfz⟩ := HQ.out.at_ (by omega)
          have cy := hcell q y 0 _ (ins_at hq) rfl
          have fq := hfz q
          have pt := Lib.hid (HQ.out.put (j := 0) (x := s) (u := .string s) (ins_at hq) (by decide) rfl)
          simp only [Nat.mul_one, Nat.add_zero] at cy
          have PT : Hid (Owned strE 1 9 (wr.setCell ⟨g, q, none⟩ (.string s)) w1.heap.size (some ⟨g, 0, none⟩) (M.length + 1) c3 (M.take q ++ s :: M.drop q)) := Lib.hid (by have h := pt.out.1; simp only [Nat.mul_one, Nat.add_zero] at h; rw [ins_set hq] at h; exact h)
          have PB : Below w1.heap.size w1 (wr.setCell ⟨g, q, none⟩ (.string s)) := hbq.setCell (HQ.out.at_own).1 _
          have il := Lib.hid (ins_len (y := s) hq)
          have EP : Hid ((M.take q ++ s :: M.drop q).Perm (((T.take (j + 1)).map ofPl).filter fun c => goodChange n c)) := Lib.hid (by rw [e1.out, ← HS.out]; exact ins_perm.trans (HP.out.append_right [s]))
          rcases q with _ | q
          · clear hcell hfz pt
            go_wp2
            go_roundw
            case rel => exact ⟨j + 1, M.take 0 ++ s :: M.drop 0, _, c3, by omega, by go_num, by rw [il.out], by rw [il.out]; omega, EP, by rw [il.out]; exact PT, PB⟩
            case measure => simp [intOf]; omega
          · obtain ⟨z, hz⟩ := some_of_lt (l := M) (k := q) (by omega)
            have cz := hcell q z 0 _ ((ins_before (by omega)).trans hz) rfl
            simp only [Nat.mul_one, Nat.add_zero] at cz
            have HZ := Lib.hid (ins_down (y := y) hz)
            clear hcell hfz pt hz
            rcases hgt : less s z
            · obtain ⟨l1, l2⟩ := less_no hgt
              rcases l2 with l2 | ⟨l2, l3⟩
              all_goals
                go_wp2
                go_roundw
                case rel => exact ⟨j + 1, M.take (q + 1) ++ s :: M.drop (q + 1), _, c3, by omega, by go_num, by rw [il.out], by rw [il.out]; omega, EP, by rw [il.out]; exact PT, PB⟩
                case measure => simp [intOf]; omega
            · obtain ⟨l1, l2, l3⟩ := less_yes hgt
              have PZ := Lib.hid (HQ.out.put (j := 0) (x := z) (u := .string z) (ins_at hq) (by decide) rfl)
              have PZ2 : Hid (Owned strE 1 9 (wr.setCell ⟨g, q + 1, none⟩ (.string z)) w1.heap.size (some ⟨g, 0, none⟩) (M.length + 1) c3 (M.take q ++ z :: M.drop q)) := Lib.hid (by have h := PZ.out.1; simp only [Nat.mul_one, Nat.add_zero] at h; rw [HZ.out] at h; exact h)
              have PZ3 : Below w1.heap.size w1 (wr.setCell ⟨g, q + 1, none⟩ (.string z)) := hbq.setCell (HQ.out.at_own).1 _
              clear PZ
              go_wp2
              go_roundw
              case rel => exact ⟨q, z, by omega, rfl, PZ2, PZ3⟩
              case measure => simp [intOf]
    · obtain rfl : j = T.length := by omega
      go_wp2
      go_ret
      have h := HP.out
      rw [List.take_of_length_le (Nat.le_refl _), ← HC.out] at h
      exact ⟨_, _, M, rfl, HO.out.base_le hb1.size, h, below_go hb1 hb⟩
end Go.Proofs.YtidolgonmimicaaGreat
namespace Go.Proofs.YtidolgonmimicaaGreat
open Go.ChangeShapes Go.WideShapes Go.ChangeAt Go.RowKit Go.Deep
theorem chs_len {n : Nat} (h : n ≤ 8) : (chsRaw n).length ≤ 34 := by
  rw [chsRaw]
  exact Nat.le_trans (List.length_filter_le _ _) (by rw [List.length_map]; exact fromK_le h 1)
theorem btw_eq {a b : ByteArray} {k i : Nat} {sw : Bool} (h : PlainAid.bt a i = PlainAid.bt b i) : btwK a b (k + 1) i sw = btwK a b k (i + 1) sw := by
  rcases k with _ | k
  · show (if PlainAid.bt a i = PlainAid.bt b i then sw else false) = sw
    exact if_pos h
  · rw [btwK, if_pos h]
theorem btw_no1 {a b : ByteArray} {i : Nat} {sw : Bool} (h : ¬ PlainAid.bt a i = PlainAid.bt b i) : btwK a b 1 i sw = false := by rw [btwK, if_neg h]
theorem btw_swap {a b : ByteArray} {k i : Nat} {sw : Bool} (h : ¬ PlainAid.bt a i = PlainAid.bt b i) (h1 : PlainAid.bt a i = PlainAid.bt b (i + 1)) (h2 : PlainAid.bt a (i + 1) = PlainAid.bt b i) : btwK a b (k + 2) i sw = btwK a b k (i + 2) true := by
  rw [btwK, if_neg h, if_pos ⟨h1, h2⟩]
theorem btw_no {a b : ByteArray} {k i : Nat} {sw : Bool} (h : ¬ PlainAid.bt a i = PlainAid.bt b i) (h1 : ¬ (PlainAid.bt a i = PlainAid.bt b (i + 1) ∧ PlainAid.bt a (i + 1) = PlainAid.bt b i)) : btwK a b (k + 2) i sw = false := by
  rw [btwK, if_neg h, if_neg h1]
theorem spec_l1Two {a b : ByteArray} {w : World} (ha : goodRow a = true) (hb : goodRow b = true) (e : a.size = b.size) :
    Calls Tryz.prog 128 #[.string a, .string b] w fun e w' => e = .returned (.bool true) ∧ Below w.heap.size w w' := by
  have h1 := goodRow_n ha; have h2 := goodRow_n hb
  have e1 : ((a.size : Int) == (b.size : Int)) = true := beq_iff_eq.2 (by omega)
  have HA := Lib.hid ha; have HB := Lib.hid hb
  clear ha hb e
  go_in
  go_wp2_with fail
  refine (spec_l1Row (by omega)).mono ?_; rw [HA.out]; rintro e w1 ⟨rfl, hb1⟩
  go_wp2_with fail
  refine (spec_l1Row (by omega)).mono ?_; rw [HB.out]; rintro e w2 ⟨rfl, hb2⟩
  go_wp2
  go_ret
  exact ⟨rfl, below_go hb1 hb2⟩
end Go.Proofs.YtidolgonmimicaaGreat
namespace Go.Proofs.YtidolgonmimicaaGreat
open Go.ChangeShapes Go.WideShapes Go.ChangeAt Go.RowKit Go.Deep
theorem fact_le : ∀ k, k < 9 → fact k ≤ 40320 := of_decide_eq_true (by kernel_rfl)
theorem fact_one {n : Nat} (h : n ≤ 1) : fact n = 1 := by
  rcases n with _ | _ | n
  · rfl
  · rfl
  · omega
theorem spec_l1Fact {n : Nat} {w : World} (hn : n ≤ 8) :
    Calls Tryz.prog 185 #[.int .i64 n] w fun e w' => e = .returned (.int .i64 (fact n)) ∧ w = w' := by
  have HF : Hid (∀ k, fact (k + 1) = (k + 1) * fact k) := Lib.hid (fun _ => rfl)
  have hfn := fact_le n (by omega)
  go_in
  go_wp2
  go_loopw [0, 3] (fun i v wr => ∃ (k q : Nat), k ≤ n ∧ i = .int .i64 k ∧ v = .int .i64 q ∧ q ≤ 40320 ∧ Hid (q * fact k = fact n) ∧ w = wr) (fun i _ _ => (intOf i).toNat)
  case atStart => exact ⟨n, 1, Nat.le_refl _, rfl, rfl, by omega, Lib.hid (Nat.one_mul _), rfl⟩
  case round =>
    obtain ⟨k, q, hk, rfl, rfl, hq, HQ, rfl⟩ := hrel
    by_cases hlt : 1 < k
    · obtain ⟨m, rfl⟩ : ∃ m, k = m + 1 := ⟨k - 1, by omega⟩
      have hI : (1 : Int) < (m : Int) + 1 := by omega
      have h2 := Lib.hid (show q * (m + 1) * fact m = fact n by rw [Nat.mul_assoc, ← HF.out, HQ.out])
      have h3 : q * (m + 1) ≤ 40320 := Nat.le_trans (Nat.le_mul_of_pos_right _ (fact_pos m)) (by rw [h2.out]; exact hfn)
      have h4 : ((q : Int) * ((m : Int) + 1)) = ((q * (m + 1) : Nat) : Int) := by rw [Int.natCast_mul]; rfl
      have h5 : 0 ≤ (q : Int) * ((m : Int) + 1) ∧ (q : Int) * ((m : Int) + 1) ≤ 40320 := by rw [h4]; omega
      have H4 := Lib.hid h4
      obtain ⟨h6, h7⟩ := h5
      clear h4
      go_wp2
      go_roundw
      case rel => exact ⟨m, q * (m + 1), by omega, by first | go_num | rfl, by rw [H4.out], h3, Lib.hid h2.out, trivial⟩
      case measure => simp [intOf]
    · have hI : ¬ (1 : Int) < (k : Int) := by omega
      have e1 := Lib.hid (show q = fact n by rw [← HQ.out, fact_one (by omega : k ≤ 1), Nat.mul_one])
      go_wp2
      go_ret
      rw [← e1.out]
      exact ⟨rfl, rfl⟩
set_option maxRecDepth 100000 in
theorem spec_l7True {A : Option Addr} {N c : Nat} {l : List ByteArray} {w : World} (hN : l.length = N) (h : Strs w A l) (hz : N ≤ 16000000) (hs : ∀ s ∈ l, s.size ≤ 16777216) :
    Calls Tryz.prog 108 #[.slice A N c] w fun e w' => e = .returned (.bool (nodupB l)) ∧ Below w.heap.size w w' := by
  go_in
  go_wp2_with fail
  refine (spec_l6Sort N A c l w hN h hz hs).mono ?_; rintro e w1 ⟨A1, c1, L, rfl, ho, hp, hS, hb1⟩
  have HE := Lib.hid (show nodupB l = true ↔ ∀ k, 1 ≤ k → k < L.length → nextEq L k = false by
    rw [nodupB, decide_eq_true_iff, ← hp.nodup_iff]; exact srt_nodup hS)
  have hL := ho.len
  subst hL
  clear hp hS hN h hs
  go_wp2
  go_loopw [4] (fun i wr => ∃ k : Nat, 1 ≤ k ∧ (k ≤ L.length ∨ k = 1) ∧ i = .int .i64 k ∧ Hid (∀ j, 1 ≤ j → j < k → nextEq L j = false) ∧ Below w1.heap.size w1 wr) (fun i _ => L.length - (intOf i).toNat)
  case atStart => exact ⟨1, Nat.le_refl _, .inr rfl, rfl, Lib.hid (fun j h1 h2 => absurd h1 (by omega)), Below.refl _ _⟩
  case round =>
    obtain ⟨k, hk0, hk, rfl, HK, hb⟩ := hrel
    by_cases hlt : k < L.length
    · obtain ⟨q, rfl⟩ : ∃ q, k = q + 1 := ⟨k - 1, by omega⟩
      obtain ⟨b3, o3, y, rfl, _, hy, hcy⟩ := (ho.up hb).recs.at_str hlt
      obtain ⟨b4, o4, x, e, _, hx, hcx⟩ := (ho.up hb).recs.at_str (k := q) (by omega)
      injection e with e
      injection e with e1 e2
      subst e1 e2
      have HX := Lib.hid (nextEq_at (k := q + 1) hx hy)
      have hw1 := wrap_id (x := (q : Int) + 1 - 1) (by omega)
      have hw2 : (q : Int) + 1 - 1 = (q : Int) := by omega
      have hw3 := wrap_id (x := (q : Int)) (by omega)
      clear hx hy ho
      by_cases hxy : y = x
      · have e1 := Lib.hid (show nodupB l = false by
          rcases hq : nodupB l
          · rfl
          · have := HE.out.1 hq (q + 1) (by omega) hlt
            rw [HX.out, decide_eq_true hxy] at this; cases this)
        have e2 : (y.toList == x.toList) = true := by rw [hxy]; simp
        clear hxy
        go_wp2
        go_quiet (fail)
        clear hw1 hw2 hw3
        go_wp2
        go_ret
        rw [e1.out]
        exact ⟨rfl, by (repeat' (first | (with_reducible exact Below.refl _ _) | (with_reducible assumption) | (with_reducible refine below_drewN ?_ _) | (with_reducible refine Below.drew ?_) | (with_reducible refine below_alloc ?_ _) | (with_reducible refine Below.alloc ?_ ?_ _) | (with_reducible refine Below.setCell ?_ ?_ _) | (with_reducible refine below_go ?_ (by with_reducible assumption)) | (with_reducible refine below_then (by with_reducible assumption) ?_ ?_) | go_size))⟩
      · have e2 : (y.toList == x.toList) = false := by
          rw [beq_eq_false_iff_ne]; exact fun q => hxy (toList_inj q)
        have HN := Lib.hid (show nextEq L (q + 1) = false by rw [HX.out, decide_eq_false hxy])
        clear hxy
        go_wp2
        go_quiet (fail)
        clear hw1 hw2 hw3
        go_wp2
        go_roundw
        case rel => exact ⟨q + 2, by omega, by omega, by go_num, Lib.hid (fun j h1 h2 => by
          rcases Nat.lt_succ_iff_lt_or_eq.1 h2 with h | rfl
          · exact HK.out j h1 h
          · exact HN.out), by (repeat' (first | (with_reducible exact Below.refl _ _) | (with_reducible assumption) | (with_reducible refine below_drewN ?_ _) | (with_reducible refine Below.drew ?_) | (with_reducible refine below_alloc ?_ _) | (with_reducible refine Below.alloc ?_ ?_ _) | (with_reducible refine Below.setCell ?_ ?_ _) | (with_reducible refine below_go ?_ (by with_reducible assumption)) | (with_reducible refine below_then (by with_reducible assumption) ?_ ?_) | go_size))⟩
        case measure => simp [intOf]; omega
    · have e1 := Lib.hid (show nodupB l = true from HE.out.2 (fun j h1 h2 => HK.out j h1 (by omega)))
      go_wp2
      go_ret
      rw [e1.out]
      exact ⟨rfl, below_go hb1 hb⟩
def cyc (l : List ByteArray) (k : Nat) : ByteArray := l.getD (k % l.length) ByteArray.empty
def nextAt (l : List ByteArray) (k : Nat) : Bool := btwB (cyc l k) (cyc l (k + 1))
def nextsB (l : List ByteArray) : Bool := (List.range l.length).all (nextAt l)
theorem cyc_at {l : List ByteArray} {k : Nat} {x : ByteArray} (h : l[k]? = some x) : cyc l k = x := by
  have := (List.getElem?_eq_some_iff.1 h).1
  rw [cyc, Nat.mod_eq_of_lt this, List.getD, h]; rfl
theorem cyc_last {l : List ByteArray} {x : ByteArray} (h : l[0]? = some x) : cyc l l.length = x := by
  rw [cyc, Nat.mod_self, List.getD, h]; rfl
theorem btw_self (a : ByteArray) : ∀ (k i : Nat) (sw : Bool), btwK a a k i sw = sw
  | 0, _, _ => by rw [btwK]
  | k + 1, i, sw => by rw [btw_eq rfl, btw_self a k]
theorem nexts_one {l : List ByteArray} (h : l.length = 1) : nextsB l = false := by
  match l, h with
  | [x], _ =>
    show (List.all [0] (nextAt [x])) = false
    simp [nextAt, cyc, btwB, btw_self]
theorem goodRows_size {l : List ByteArray} (h : goodRows l = true) {i j : Nat} {x y : ByteArray} (hx : l[i]? = some x) (hy : l[j]? = some y) : x.size = y.size := by
  rw [goodRows, Bool.and_eq_true, List.all_eq_true] at h
  have key : ∀ (k : Nat) (z : ByteArray), l[k]? = some z → z.size = (l.getD 0 ByteArray.empty).size := fun k z hz => by
    have := h.1 k (List.mem_range.2 (List.getElem?_eq_some_iff.1 hz).1)
    rw [okRow, Bool.and_eq_true, List.getD, hz] at this
    simpa using this.2
  rw [key i x hx, key j y hy]
def smallR (l : List ByteArray) : Bool := goodRows l && (decide (0 < l.length) && decide ((l.getD 0 ByteArray.empty).size ≤ 6))
def extR (l : List ByteArray) : Bool := smallR l && (nextsB l && (nodupB l && (l.length == fact (l.getD 0 ByteArray.empty).size)))
theorem small_t {l : List ByteArray} (h : smallR l = true) : goodRows l = true ∧ 0 < l.length ∧ ∀ x, l[0]? = some x → x.size ≤ 6 := by
  simp only [smallR, Bool.and_eq_true, decide_eq_true_eq] at h
  exact ⟨h.1, h.2.1, fun x hx => by have := h.2.2; rw [List.getD, hx] at this; exact this⟩
end Go.Proofs.YtidolgonmimicaaGreat
namespace Go.Proofs.YtidolgonmimicaaGreat
open Go.ChangeShapes Go.WideShapes Go.ChangeAt Go.RowKit Go.Deep
theorem bytes_same {a b : ByteArray} (h : (a.toList == b.toList) = true) : a = b := by
  have h1 : a.toList = b.toList := by simpa using h
  rw [ByteArray.toList_eq, ByteArray.toList_eq] at h1
  cases a; cases b
  congr 1
  exact Array.ext' h1
def szS (l : List ByteArray) : Int := (l.map fun s => (s.size : Int)).sum + l.length
theorem szS_nil : szS [] = 0 := rfl
theorem szS_cons (s : ByteArray) (l : List ByteArray) : szS (s :: l) = (s.size : Int) + szS l + 1 := by simp only [szS, List.map_cons, List.sum_cons, List.length_cons]; omega
theorem szS_len : ∀ (l : List ByteArray), (l.length : Int) ≤ szS l
  | [] => by simp [szS]
  | s :: l => by have := szS_len l; rw [szS_cons, List.length_cons]; omega
theorem szS_each : ∀ (l : List ByteArray) (s : ByteArray), s ∈ l → (s.size : Int) ≤ szS l
  | x :: l, s, h => by
    rw [szS_cons]
    have h0 := szS_len l
    rcases List.mem_cons.1 h with rfl | h
    · omega
    · have := szS_each l s h
      omega
def dgt (n : Nat) : ByteArray := strOfNums [48 + (n : Int) % 10]
theorem dgt_size (n : Nat) : (dgt n).size = 1 := rfl
def mkD (k : Nat) (out : ByteArray) : ByteArray := if k = 0 then out else mkD (k / 10) (dgt k ++ out)
termination_by k
decreasing_by omega
theorem mkD_0 (out : ByteArray) : mkD 0 out = out := by rw [mkD, if_pos rfl]
theorem mkD_pos {k : Nat} (h : 0 < k) (out : ByteArray) : mkD k out = mkD (k / 10) (dgt k ++ out) := by rw [mkD, if_neg (by omega)]
def markT (k : Nat) : ByteArray := ⟨#[109]⟩ ++ mkD k ByteArray.empty
def markS (k0 : Int) (j : Nat) : ByteArray := markT (k0 + (j : Int)).toNat
end Go.Proofs.YtidolgonmimicaaGreat
namespace Go.Proofs.YtidolgonmimicaaGreat
open Go.ChangeShapes Go.WideShapes Go.ChangeAt Go.RowKit Go.Deep
set_option maxRecDepth 100000 in
theorem spec_sameS (A C : Option Addr) (n n' c d : Nat) (l m : List ByteArray) (w : World) (hn : l.length = n) (hn' : m.length = n') (h : Recs strE 1 w A l) (g : Recs strE 1 w C m) (hz : n ≤ 16777216) (hz' : n' ≤ 16777216) :
    Calls Tryz.prog 112 #[.slice A n c, .slice C n' d] w fun e w' => e = .returned (.bool (decide (l = m))) ∧ Below w.heap.size w w' := by
  subst hn hn'
  by_cases hl : l.length = m.length
  · have HL := Lib.hid hl
    rw [← hl]
    clear hl
    go_in
    go_wp2
    go_loopw [13] (fun i wr => ∃ k : Nat, k ≤ l.length ∧ i = .int .i64 k ∧ Hid (∀ j, j < k → l[j]? = m[j]?) ∧ Below w.heap.size w wr) (fun i _ => l.length - (intOf i).toNat)
    case atStart => exact ⟨0, Nat.zero_le _, rfl, Lib.hid (fun j hj => absurd hj (by omega)), Below.refl _ _⟩
    case round =>
      obtain ⟨k, hk, rfl, HT, hb⟩ := hrel
      by_cases hlt : k < l.length
      · obtain ⟨b1, o1, x, rfl, _, hx, hcx⟩ := (h.below hb (Nat.le_refl _)).at_str hlt
        obtain ⟨b2, o2, y, rfl, _, hy, hcy⟩ := (g.below hb (Nat.le_refl _)).at_str (by rw [← HL.out]; exact hlt)
        have HX := Lib.hid hx
        have HY := Lib.hid hy
        clear hx hy h g
        rcases hne : (x.toList == y.toList)
        · have he := Lib.hid hne
          go_wp2
          go_quiet (fail)
          go_wp2
          go_ret
          refine ⟨ret_bool ?_, by (repeat' (first | (with_reducible exact Below.refl _ _) | (with_reducible assumption) | (with_reducible refine below_drewN ?_ _) | (with_reducible refine Below.drew ?_) | (with_reducible refine below_alloc ?_ _) | (with_reducible refine Below.alloc ?_ ?_ _) | (with_reducible refine Below.setCell ?_ ?_ _) | (with_reducible refine below_go ?_ (by with_reducible assumption)) | (with_reducible refine below_then (by with_reducible assumption) ?_ ?_) | go_size))⟩
          have hd : l ≠ m := fun e => by
            have h1 := HX.out
            rw [e, HY.out] at h1
            injection h1 with h1
            have h2 := he.out
            rw [h1] at h2
            simp at h2
          simp [hd]
        · have he := Lib.hid hne
          go_wp2
          go_quiet (fail)
          go_wp2
          go_roundw
          case rel => exact ⟨k + 1, by omega, by go_num, Lib.hid (upto_succ HT.out (by rw [HX.out, HY.out, bytes_same he.out])), by (repeat' (first | (with_reducible exact Below.refl _ _) | (with_reducible assumption) | (with_reducible refine below_drewN ?_ _) | (with_reducible refine Below.drew ?_) | (with_reducible refine below_alloc ?_ _) | (with_reducible refine Below.alloc ?_ ?_ _) | (with_reducible refine Below.setCell ?_ ?_ _) | (with_reducible refine below_go ?_ (by with_reducible assumption)) | (with_reducible refine below_then (by with_reducible assumption) ?_ ?_) | go_size))⟩
          case measure => simp [intOf]; omega
      · go_wp2
        go_ret
        refine ⟨ret_bool ?_, hb⟩
        have hd : l = m := eq_of_upto (fun j hj => HT.out j hj) (by omega) (by have := HL.out; omega)
        simp [hd]
  · have hne : ((l.length : Int) != (m.length : Int)) = true := by simp; omega
    have hd : l ≠ m := fun e => hl (by rw [e])
    have HD := Lib.hid hd
    clear hd hl
    go_in
    go_wp2
    go_ret
    refine ⟨ret_bool ?_, by (repeat' (first | (with_reducible exact Below.refl _ _) | (with_reducible assumption) | (with_reducible refine below_drewN ?_ _) | (with_reducible refine Below.drew ?_) | (with_reducible refine below_alloc ?_ _) | (with_reducible refine Below.alloc ?_ ?_ _) | (with_reducible refine Below.setCell ?_ ?_ _) | (with_reducible refine below_go ?_ (by with_reducible assumption)) | (with_reducible refine below_then (by with_reducible assumption) ?_ ?_) | go_size))⟩
    simp [HD.out]
set_option maxRecDepth 100000 in
theorem laws_qSameS {A B : Option Addr} {n c d : Nat} {l : List ByteArray} {w : World} (hn : l.length = n) (h : Strs w A l) (g : Strs w B l) (hz : n ≤ 16777216) :
    Calls Tryz.prog 17 #[.slice A n c, .slice B n d] w fun e w' => e = .returned (.bool true) ∧ Below w.heap.size w w' := by
  subst hn
  go_in
  go_wp2
  go_loopw [13] (fun i wr => ∃ k : Nat, k ≤ l.length ∧ i = .int .i64 k ∧ Below w.heap.size w wr) (fun i _ => l.length - (intOf i).toNat)
  case atStart => exact ⟨0, Nat.zero_le _, rfl, Below.refl _ _⟩
  case round =>
    obtain ⟨k, hk, rfl, hb⟩ := hrel
    by_cases hlt : k < l.length
    · obtain ⟨b1, o1, x, rfl, _, hx, hcx⟩ := (h.below hb (Nat.le_refl _)).at_str hlt
      obtain ⟨b2, o2, y, rfl, _, hy, hcy⟩ := (g.below hb (Nat.le_refl _)).at_str hlt
      rw [hx] at hy
      injection hy with hy
      subst hy
      clear hx h g
      go_wp2
      go_quiet (fail)
      go_wp2
      go_roundw
      case rel => exact ⟨k + 1, by omega, by go_num, below_drewN hb _⟩
      case measure => simp [intOf]; omega
    · go_wp2
      go_ret
      exact ⟨rfl, hb⟩
end Go.Proofs.YtidolgonmimicaaGreat
namespace Go.Proofs.YtidolgonmimicaaGreat
open Go.ChangeShapes Go.WideShapes Go.ChangeAt Go.RowKit Go.Deep
theorem own_lit1_at' {α : Type} {e : α → List Value} {s : Nat} (he : ∀ x, (e x).length = s) (w : World) (E : TypeId) (x : α) {b base : Nat} (h : b = w.heap.size) (hb : base ≤ w.heap.size) : Owned e s E (w.alloc (.cells ⟨e x⟩ E)) base (some ⟨b, 0, none⟩) 1 1 [x] := by
  subst h
  exact ⟨he, rfl, by simpa using World.ownsRow_lit (e := E) (base := base) (size := s) w ⟨e x⟩ 1 hb (by unfold maxLen; omega) (by simp [he])⟩
end Go.Proofs.YtidolgonmimicaaGreat
namespace Go.Proofs.YtidolgonmimicaaGreat
open Go.ChangeShapes Go.WideShapes Go.ChangeAt Go.RowKit Go.Deep
theorem leadL_n {st n : Nat} {l : List ByteArray} (hn : l.length = n) : leadL st l = rowsL (roundsS st) l n := by rw [leadL, hn]
theorem goodM_st {nm : ByteArray} {st : Nat} {l : List ByteArray} (h : goodM nm (st : Int) l = true) : (3 ≤ st ∧ st ≤ 8) ∧ 1 ≤ l.length ∧ l.length ≤ 40 := by
  have := goodM_t h
  omega
theorem meetL_succ {L M : List ByteArray} {k : Nat} {x : ByteArray} (h : L[k]? = some x) : meetL (L.take (k + 1)) M = if inL M x = true then meetL (L.take k) M ++ [x] else meetL (L.take k) M := by
  rw [meetL, meetL, take_succ_some h, List.filter_append]
  by_cases hx : inL M x = true <;> simp [hx]
theorem meetL_len (L M : List ByteArray) (k : Nat) : (meetL (L.take k) M).length ≤ k := by
  rw [meetL]
  exact Nat.le_trans (List.length_filter_le ..) (List.length_take_le ..)
noncomputable def prodL (r : ByteArray) (L : List ByteArray) (k : Nat) : List ByteArray := (L.take k).map fun s => timesS r (turnS s)
theorem prodL_succ {r : ByteArray} {L : List ByteArray} {k : Nat} {s : ByteArray} (h : L[k]? = some s) : prodL r L (k + 1) = prodL r L k ++ [timesS r (turnS s)] := by
  rw [prodL, prodL, take_succ_some h, List.map_append]; rfl
theorem prodL_all (r : ByteArray) (L : List ByteArray) : prodL r L L.length = L.map fun s => timesS r (turnS s) := by rw [prodL, List.take_length]
noncomputable def falTo (L : List ByteArray) (k : Nat) : List ByteArray := (L.take k).flatMap fun r => L.map fun s => timesS r (turnS s)
theorem falTo_succ {L : List ByteArray} {k : Nat} {r : ByteArray} (h : L[k]? = some r) : falTo L (k + 1) = falTo L k ++ prodL r L L.length := by
  rw [falTo, falTo, take_succ_some h, List.flatMap_append, prodL_all]; simp
theorem falTo_all (L : List ByteArray) : falTo L L.length = falL L := by rw [falTo, List.take_length]; rfl
theorem falTo_zero (L : List ByteArray) : falTo L 0 = [] := rfl
theorem prodL_zero (r : ByteArray) (L : List ByteArray) : prodL r L 0 = [] := rfl
theorem spec_l11Lead {A : Option Addr} {n c st : Nat} {nm : ByteArray} {l : List ByteArray} {a : ByteArray} {w : World} (ha : a.size ≤ 8) (hn : l.length = n) (h : Strs w A l) (hz : n ≤ 1048576) (hs : ∀ s ∈ l, s.size ≤ 16777216) :
    Calls Tryz.prog 109 #[.agg #[.string nm, .int .i64 st, .slice A n c], .string a] w fun e w' => ∃ A' c', e = .returned (.slice A' n c') ∧ Owned strE 1 9 w' w.heap.size A' n c' (rowsL a l n) ∧ Below w.heap.size w w' := by
  have b0 : Below w.heap.size w (w.alloc (.cells ⟨[.string nm, .int .i64 st, .slice A n c]⟩ 25)) := by (repeat' (first | (with_reducible exact Below.refl _ _) | (with_reducible assumption) | (with_reducible refine below_drewN ?_ _) | (with_reducible refine Below.drew ?_) | (with_reducible refine below_alloc ?_ _) | (with_reducible refine Below.alloc ?_ ?_ _) | (with_reducible refine Below.setCell ?_ ?_ _) | (with_reducible refine below_go ?_ (by with_reducible assumption)) | (with_reducible refine below_then (by with_reducible assumption) ?_ ?_) | go_size))
  go_in
  go_wp2_with fail
  refine (spec_l4Lead ha hn (h.up b0) (by omega) hs).mono ?_; rintro e w1 ⟨A1, c1, rfl, ho, hb1⟩
  go_wp2
  go_ret
  exact ⟨_, _, rfl, ho.base_le (by simp), below_go b0 hb1⟩
set_option maxHeartbeats 1000000 in
set_option maxRecDepth 100000 in
theorem spec_IsLeadTrue {A : Option Addr} {n c st : Nat} {nm : ByteArray} {l : List ByteArray} {w : World} (hn : l.length = n) (h : Strs w A l) (hz : n ≤ 1048576) (hs : ∀ s ∈ l, s.size ≤ 16777216) (hnm : nm.size ≤ 16777216) (h9 : st ≤ 1000) :
    Calls Tryz.prog 29 #[.agg #[.string nm, .int .i64 st, .slice A n c]] w fun e w' => e = .returned (.tuple #[.bool (ltV nm st l), .bool (goodM nm (st : Int) l)]) ∧ Below w.heap.size w w' := by
  have b0 : Below w.heap.size w (w.alloc (.cells ⟨[.string nm, .int .i64 st, .slice A n c]⟩ 25)) := by (repeat' (first | (with_reducible exact Below.refl _ _) | (with_reducible assumption) | (with_reducible refine below_drewN ?_ _) | (with_reducible refine Below.drew ?_) | (with_reducible refine below_alloc ?_ _) | (with_reducible refine Below.alloc ?_ ?_ _) | (with_reducible refine Below.setCell ?_ ?_ _) | (with_reducible refine below_go ?_ (by with_reducible assumption)) | (with_reducible refine below_then (by with_reducible assumption) ?_ ?_) | go_size))
  have K0 := Blk.at_ w 25 [.string nm, .int .i64 st, .slice A n c] (b := w.heap.size) rfl
  have HS := Lib.hid hs
  have HQ : Hid (ltV nm st l = (goodM nm (st : Int) l && nodupB (leadL st l))) := Lib.hid rfl
  have hI : I64 (st : Int) := ⟨by omega, by omega⟩
  have H0 := h.up b0
  go_in
  go_wp2_with fail
  refine (spec_l4Good hn H0 hz HS.out hnm hI).mono ?_; rintro e w1 ⟨rfl, hb1⟩
  have K1 := K0.up hb1
  have H1 := H0.up hb1
  have B1 := below_go b0 hb1
  clear K0 H0 h b0 hb1
  rcases hg : goodM nm (st : Int) l
  · have e1 := Lib.hid (show ltV nm st l = false by rw [HQ.out, hg]; rfl)
    go_wp2
    go_ret2
    rw [e1.out, hg]
    exact ⟨rfl, B1⟩
  · have e1 := Lib.hid (show ltV nm st l = nodupB (leadL st l) by rw [HQ.out, hg]; rfl)
    have h38 := (goodM_st hg).1
    have hr8 : (roundsS st).size ≤ 8 := by rw [rounds_size st (by omega)]; exact h38.2
    have HR := Lib.hid (leadL_row h38.1 h38.2 l)
    have k0 := K1.cell 0; have k1 := K1.cell 1; have k2 := K1.cell 2
    simp only [List.getElem?_cons_zero, List.getElem?_cons_succ] at k0 k1 k2
    go_upto_region 3 with fail
    refine wp_region_still_tail 4 (by kernel_rfl) (by kernel_rfl) ?_
    simp only [List.take_succ_cons, List.take_zero, List.drop_succ_cons, List.drop_zero]
    repeat still_step
    still_call (turnC (spec_l1Rounds h38.2))
    repeat still_step
    refine wpStill_nil ?_
    change wpList _ _ _ _ _ w1.drew
    go_wp2_with fail
    refine (spec_l11Lead hr8 hn H1.drew hz HS.out).mono ?_; rintro e w2 ⟨A2, c2, rfl, ho, hbd⟩
    have hb2 := below_of_drew hbd
    rw [← leadL_n hn] at ho
    go_wp2_with fail
    refine (spec_l7True (by rw [leadL_len]; exact hn) ho.recs (by omega) (fun s hs => by have h1 := (HR.out s hs).2; omega)).mono ?_; rintro e w3 ⟨rfl, hb3⟩
    go_wp2
    go_ret2
    rw [e1.out, hg]
    exact ⟨rfl, below_go (below_go B1 hb2) hb3⟩
set_option maxHeartbeats 1000000 in
set_option maxRecDepth 100000 in
theorem spec_l11Shared {A : Option Addr} {n c st : Nat} {nm : ByteArray} {l : List ByteArray} {f : ByteArray} {w : World} (hn : l.length = n) (h : Strs w A l) (hz : n ≤ 1048576) (hs : ∀ s ∈ l, s.size ≤ 16777216) (hnm : nm.size ≤ 16777216) (h9 : st ≤ 1000) (hg : goodM nm (st : Int) l = true) (hf : RowN st f) :
    Calls Tryz.prog 102 #[.agg #[.string nm, .int .i64 st, .slice A n c], .string f] w fun e w' => ∃ A' m c', e = .returned (.slice A' m c') ∧ Owned strE 1 9 w' w.heap.size A' m c' (meetL (leadL st l) ((leadL st l).map (timesS f))) ∧ m ≤ 40 ∧ Below w.heap.size w w' := by
  have b0 : Below w.heap.size w (w.alloc (.cells ⟨[.string nm, .int .i64 st, .slice A n c]⟩ 25)) := by (repeat' (first | (with_reducible exact Below.refl _ _) | (with_reducible assumption) | (with_reducible refine below_drewN ?_ _) | (with_reducible refine Below.drew ?_) | (with_reducible refine below_alloc ?_ _) | (with_reducible refine Below.alloc ?_ ?_ _) | (with_reducible refine Below.setCell ?_ ?_ _) | (with_reducible refine below_go ?_ (by with_reducible assumption)) | (with_reducible refine below_then (by with_reducible assumption) ?_ ?_) | go_size))
  have K0 := Blk.at_ w 25 [.string nm, .int .i64 st, .slice A n c] (b := w.heap.size) rfl
  have HS := Lib.hid hs
  have hgs := goodM_st hg
  have h38 := hgs.1
  have hr8 : (roundsS st).size ≤ 8 := by rw [rounds_size st (by omega)]; exact h38.2
  have hf8 : f.size ≤ 8 := by rw [hf.2]; exact h38.2
  have HR := Lib.hid (leadL_row h38.1 h38.2 l)
  have H0 := h.up b0
  have hM : rowsL f l n = (leadL st l).map (timesS f) := by rw [rowsL_times hf, ← leadL_n hn]
  obtain ⟨M, hM1⟩ : ∃ u, u = (leadL st l).map (timesS f) := ⟨_, rfl⟩
  obtain ⟨L, hL1⟩ : ∃ u, u = leadL st l := ⟨_, rfl⟩
  have hLn : L.length = n := by rw [hL1, leadL_len]; exact hn
  have hMn : M.length = n := by rw [hM1, List.length_map, ← hL1]; exact hLn
  rw [← hM1] at hM ⊢
  rw [← hL1] at HR ⊢
  have HL1 := Lib.hid hL1
  have HM1 := Lib.hid hM
  have HLn := Lib.hid hLn
  have HMn := Lib.hid hMn
  have hn40 : n ≤ 40 := by omega
  clear hL1 hM1 hM hLn hMn hgs hg hf
  go_in
  go_wp2_with fail
  refine (spec_l11Lead hf8 hn H0 hz HS.out).mono ?_; rintro e w1 ⟨A1, c1, rfl, ho1, hb1⟩
  rw [HM1.out] at ho1
  have K1 := K0.up hb1
  have H1 := H0.up hb1
  have B1 := below_go b0 hb1
  clear K0 H0 h b0 hb1
  have k0 := K1.cell 0; have k1 := K1.cell 1; have k2 := K1.cell 2
  simp only [List.getElem?_cons_zero, List.getElem?_cons_succ] at k0 k1 k2
  go_upto_region 3 with fail
  go_region_held3 (fun u => u.cell? ⟨w.heap.size, 0, none⟩ = some (.string nm) ∧ u.cell? ⟨w.heap.size, 1, none⟩ = some (.int .i64 (st : Int)) ∧ u.cell? ⟨w.heap.size, 2, none⟩ = some (.slice A n c)) (first | exact ⟨k0d, k1d, k2d⟩ | exact ⟨k0, k1, k2⟩) (first | (go_at_call 90; refine (spec_l1Rounds h38.2).mono ?_; rintro e w' ⟨rfl, rfl⟩) | (go_at_call 109; refine (spec_l11Lead hr8 hn H1.drew hz HS.out).mono ?_; rintro e w2 ⟨A2, c2, rfl, ho2, hbd⟩; have hb2 := below_of_drew hbd; have K2 := K1.up hb2; have k0d := K2.cell 0; have k1d := K2.cell 1; have k2d := K2.cell 2; simp only [List.getElem?_cons_zero, List.getElem?_cons_succ] at k0d k1d k2d))
  rw [← leadL_n hn, ← HL1.out] at ho2
  have B2 := below_go B1 hb2
  have R1 := Lib.hid (ho1.recs.up hb2)
  have R2 := Lib.hid ho2.recs
  clear K1 H1 ho1 ho2 hbd hb2 k0 k1 k2
  go_wp2
  go_loopw [6, 18] (fun v i wr => ∃ (k m : Nat) (A' : Option Addr) (c' : Nat), k ≤ n ∧ i = .int .i64 k ∧ v = .slice A' m c' ∧ m ≤ k ∧ Hid (Owned strE 1 9 wr w2.heap.size A' m c' (meetL (L.take k) M)) ∧ Below w2.heap.size w2 wr) (fun _ i _ => n - (intOf i).toNat)
  case atStart => exact ⟨0, 0, none, 0, Nat.zero_le _, rfl, rfl, Nat.le_refl _, Lib.hid (Owned.nil strE_len _ _ _), Below.refl _ _⟩
  case round =>
    obtain ⟨k, m, A3, c3, hk, rfl, rfl, hmk, HO, hb⟩ := hrel
    rename World => wr
    have hszr := hb.size
    by_cases hlt : k < n
    · obtain ⟨b1, o1, x, rfl, _, hx, hcx⟩ := (R2.out.below hb (Nat.le_refl _)).at_str (k := k) (by rw [HLn.out]; exact hlt)
      have hxz : x.size ≤ 8 := by have h1 := (HR.out x (List.mem_of_getElem? hx)).2; omega
      have HMS := Lib.hid (meetL_succ (M := M) hx)
      have R1' := R1.out.below hb (Nat.le_refl _)
      clear hx
      go_wp2_with fail
      refine (spec_l1HasS HMn.out R1' (by omega)).mono ?_; rintro e w' ⟨rfl, rfl⟩
      rcases hin : inL M x
      · have e1 := Lib.hid (show meetL (L.take (k + 1)) M = meetL (L.take k) M by rw [HMS.out, hin]; simp)
        go_wp2
        go_roundw
        case rel => exact ⟨k + 1, m, A3, c3, by omega, by go_num, rfl, by omega, by rw [e1.out]; exact HO, hb⟩
        case measure => simp [intOf]; omega
      · have e1 := Lib.hid (show meetL (L.take (k + 1)) M = meetL (L.take k) M ++ [x] by rw [HMS.out, hin]; simp)
        go_wp2_with (first | (at_builtin; go_must ((refine wpList_append_recs Tryz.elStr strE_one rfl (.tmp 25) (.tmp 27) rfl rfl (HO.out.alloc _) rfl (own_lit1_at' strE_len _ 9 x rfl (Nat.le_refl _)).recs rfl ?_ (by decide) ?_ ?_; (focus (first | omega | (simp only [World.size_alloc]; done) | (simp only [World.size_alloc]; omega) | (simp; done) | (simp; omega))); (focus (first | omega | (simp only [World.size_alloc]; done) | (simp only [World.size_alloc]; omega) | (simp; done) | (simp; omega))); intro A4 c4 w6 ho6 hg6 hl6; have hb6 : Below w2.heap.size w2 w6 := (hb.alloc hszr _).trans (grown_base hg6 (by simp; omega) (fun z hz => (HO.out.range z hz).1))))))
        go_roundw
        case rel => exact ⟨k + 1, m + 1, A4, c4, by omega, by go_num, rfl, by omega, by rw [e1.out]; exact Lib.hid ho6, hb6⟩
        case measure => simp [intOf]; omega
    · obtain rfl : k = n := by omega
      have e1 := Lib.hid (show meetL (L.take k) M = meetL L M by rw [List.take_of_length_le (by rw [HLn.out]; omega)])
      go_wp2
      go_ret
      refine ⟨_, _, _, rfl, by rw [← e1.out]; exact HO.out.base_le B2.size, by omega, below_go B2 hb⟩
set_option maxHeartbeats 1000000 in
set_option maxRecDepth 100000 in
theorem spec_l11Asked {A : Option Addr} {n c st : Nat} {nm : ByteArray} {l : List ByteArray} {f : ByteArray} {w : World} (hn : l.length = n) (h : Strs w A l) (hz : n ≤ 1048576) (hs : ∀ s ∈ l, s.size ≤ 16777216) (hnm : nm.size ≤ 16777216) (h9 : st ≤ 1000) (hf : f.size ≤ 16777216) :
    Calls Tryz.prog 101 #[.agg #[.string nm, .int .i64 st, .slice A n c], .string f] w fun e w' => e = .returned (.bool (fhOk nm st l f)) ∧ Below w.heap.size w w' := by
  have b0 : Below w.heap.size w (w.alloc (.cells ⟨[.string nm, .int .i64 st, .slice A n c]⟩ 25)) := by (repeat' (first | (with_reducible exact Below.refl _ _) | (with_reducible assumption) | (with_reducible refine below_drewN ?_ _) | (with_reducible refine Below.drew ?_) | (with_reducible refine below_alloc ?_ _) | (with_reducible refine Below.alloc ?_ ?_ _) | (with_reducible refine Below.setCell ?_ ?_ _) | (with_reducible refine below_go ?_ (by with_reducible assumption)) | (with_reducible refine below_then (by with_reducible assumption) ?_ ?_) | go_size))
  have K0 := Blk.at_ w 25 [.string nm, .int .i64 st, .slice A n c] (b := w.heap.size) rfl
  have HQ : Hid (fhOk nm st l f = (goodM nm (st : Int) l && (goodRow f && (f.size == st)))) := Lib.hid rfl
  have hI : I64 (st : Int) := ⟨by omega, by omega⟩
  have H0 := h.up b0
  go_in
  go_wp2_with fail
  refine (spec_l4Good hn H0 hz hs hnm hI).mono ?_; rintro e w1 ⟨rfl, hb1⟩
  have K1 := K0.up hb1
  have B1 := below_go b0 hb1
  clear K0 H0 h b0 hb1
  rcases hg : goodM nm (st : Int) l
  · have e1 := Lib.hid (show fhOk nm st l f = false by rw [HQ.out, hg]; rfl)
    go_wp2
    go_ret
    rw [e1.out]
    exact ⟨rfl, B1⟩
  · go_wp2_with fail
    refine (spec_l1Row hf).mono ?_; rintro e w2 ⟨rfl, hb2⟩
    have K2 := K1.up hb2
    have B2 := below_go B1 hb2
    have k1 := K2.cell 1
    simp only [List.getElem?_cons_zero, List.getElem?_cons_succ] at k1
    clear K1 hb2
    rcases hr : goodRow f
    · have e1 := Lib.hid (show fhOk nm st l f = false by rw [HQ.out, hg, hr]; rfl)
      go_wp2
      go_ret
      rw [e1.out]
      exact ⟨rfl, B2⟩
    · have e1 := Lib.hid (show fhOk nm st l f = ((f.size : Int) == (st : Int)) by rw [HQ.out, hg, hr, Bool.true_and, Bool.true_and, Bool.eq_iff_iff, beq_iff_eq, beq_iff_eq]; omega)
      go_wp2
      go_ret
      rw [e1.out]
      exact ⟨rfl, B2⟩
set_option maxHeartbeats 1000000 in
theorem spec_IsFalseHead {A : Option Addr} {n c st : Nat} {nm : ByteArray} {l : List ByteArray} {f : ByteArray} {w : World} (hn : l.length = n) (h : Strs w A l) (hz : n ≤ 1048576) (hs : ∀ s ∈ l, s.size ≤ 16777216) (hnm : nm.size ≤ 16777216) (h9 : st ≤ 1000) (hf : f.size ≤ 16777216) :
    Calls Tryz.prog 23 #[.agg #[.string nm, .int .i64 st, .slice A n c], .string f] w fun e w' => e = .returned (.tuple #[.bool (fhV nm st l f), .bool (fhOk nm st l f)]) ∧ Below w.heap.size w w' := by
  have b0 : Below w.heap.size w (w.alloc (.cells ⟨[.string nm, .int .i64 st, .slice A n c]⟩ 25)) := by (repeat' (first | (with_reducible exact Below.refl _ _) | (with_reducible assumption) | (with_reducible refine below_drewN ?_ _) | (with_reducible refine Below.drew ?_) | (with_reducible refine below_alloc ?_ _) | (with_reducible refine Below.alloc ?_ ?_ _) | (with_reducible refine Below.setCell ?_ ?_ _) | (with_reducible refine below_go ?_ (by with_reducible assumption)) | (with_reducible refine below_then (by with_reducible assumption) ?_ ?_) | go_size))
  have K0 := Blk.at_ w 25 [.string nm, .int .i64 st, .slice A n c] (b := w.heap.size) rfl
  have H0 := h.up b0
  have HQ : Hid (fhV nm st l f = (fhOk nm st l f && inL (falL (leadL st l)) f)) := Lib.hid rfl
  go_in
  go_wp2_with fail
  refine (spec_l11Asked (nm := nm) (st := st) hn H0 hz hs hnm h9 hf).mono ?_; rintro e w1 ⟨rfl, hb1⟩
  have K1 := K0.up hb1
  have H1 := H0.up hb1
  have B1 := below_go b0 hb1
  clear K0 H0 h b0 hb1
  rcases hg : fhOk nm st l f
  · have e1 := Lib.hid (show fhV nm st l f = false by rw [HQ.out, hg]; rfl)
    go_wp2
    go_ret2
    rw [e1.out, hg]
    exact ⟨rfl, B1⟩
  · have k0 := K1.cell 0; have k1 := K1.cell 1; have k2 := K1.cell 2
    simp only [List.getElem?_cons_zero, List.getElem?_cons_succ] at k0 k1 k2
    have ht := fhOk_t hg
    have HV := Lib.hid (fhV_sh hg)
    have HSH := Lib.hid (show shV nm st l f = meetL (leadL st l) ((leadL st l).map (timesS f)) by rw [shV, if_pos hg])
    go_wp2_with fail
    refine (spec_l11Shared hn H1 hz hs hnm h9 ht.1 ht.2.1).mono ?_; rintro e w2 ⟨A2, m, c2, rfl, ho, hm, hb2⟩
    rw [← HSH.out] at ho
    have e1 := Lib.hid (show fhV nm st l f = decide (0 < m) by rw [HV.out, ho.len])
    go_wp2
    go_ret2
    rw [e1.out, hg]
    exact ⟨rfl, below_go B1 hb2⟩
set_option maxHeartbeats 1000000 in
theorem spec_SharedRows {A : Option Addr} {n c st : Nat} {nm : ByteArray} {l : List ByteArray} {f : ByteArray} {w : World} (hn : l.length = n) (h : Strs w A l) (hz : n ≤ 1048576) (hs : ∀ s ∈ l, s.size ≤ 16777216) (hnm : nm.size ≤ 16777216) (h9 : st ≤ 1000) (hf : f.size ≤ 16777216) :
    Calls Tryz.prog 25 #[.agg #[.string nm, .int .i64 st, .slice A n c], .string f] w fun e w' => ∃ A' m c', e = .returned (.tuple #[.slice A' m c', .bool (fhOk nm st l f)]) ∧ Owned strE 1 9 w' w.heap.size A' m c' (shV nm st l f) ∧ m ≤ 40 ∧ Below w.heap.size w w' := by
  have b0 : Below w.heap.size w (w.alloc (.cells ⟨[.string nm, .int .i64 st, .slice A n c]⟩ 25)) := by (repeat' (first | (with_reducible exact Below.refl _ _) | (with_reducible assumption) | (with_reducible refine below_drewN ?_ _) | (with_reducible refine Below.drew ?_) | (with_reducible refine below_alloc ?_ _) | (with_reducible refine Below.alloc ?_ ?_ _) | (with_reducible refine Below.setCell ?_ ?_ _) | (with_reducible refine below_go ?_ (by with_reducible assumption)) | (with_reducible refine below_then (by with_reducible assumption) ?_ ?_) | go_size))
  have K0 := Blk.at_ w 25 [.string nm, .int .i64 st, .slice A n c] (b := w.heap.size) rfl
  have H0 := h.up b0
  go_in
  go_wp2_with fail
  refine (spec_l11Asked (nm := nm) (st := st) hn H0 hz hs hnm h9 hf).mono ?_; rintro e w1 ⟨rfl, hb1⟩
  have K1 := K0.up hb1
  have H1 := H0.up hb1
  have B1 := below_go b0 hb1
  clear K0 H0 h b0 hb1
  rcases hg : fhOk nm st l f
  · have e1 := Lib.hid (show shV nm st l f = [] by rw [shV, if_neg (by rw [hg]; simp)])
    go_wp2
    go_ret2
    rw [e1.out, hg]
    exact ⟨none, 0, 0, rfl, Owned.nil strE_len _ _ _, by omega, B1⟩
  · have k0 := K1.cell 0; have k1 := K1.cell 1; have k2 := K1.cell 2
    simp only [List.getElem?_cons_zero, List.getElem?_cons_succ] at k0 k1 k2
    have ht := fhOk_t hg
    have HSH := Lib.hid (show shV nm st l f = meetL (leadL st l) ((leadL st l).map (timesS f)) by rw [shV, if_pos hg])
    go_wp2_with fail
    refine (spec_l11Shared hn H1 hz hs hnm h9 ht.1 ht.2.1).mono ?_; rintro e w2 ⟨A2, m, c2, rfl, ho, hm, hb2⟩
    go_wp2
    go_ret2
    rw [HSH.out, hg]
    exact ⟨_, _, _, rfl, ho.base_le B1.size, hm, below_go B1 hb2⟩
set_option maxHeartbeats 2000000 in
set_option maxRecDepth 100000 in
theorem spec_l11Heads {A : Option Addr} {n c st : Nat} {nm : ByteArray} {l : List ByteArray} {w : World} (hn : l.length = n) (h : Strs w A l) (hz : n ≤ 1048576) (hs : ∀ s ∈ l, s.size ≤ 16777216) (hnm : nm.size ≤ 16777216) (h9 : st ≤ 1000) (hg : goodM nm (st : Int) l = true) :
    Calls Tryz.prog 96 #[.agg #[.string nm, .int .i64 st, .slice A n c]] w fun e w' => ∃ A' m c', e = .returned (.slice A' m c') ∧ Owned strE 1 9 w' w.heap.size A' m c' (falS (leadL st l)) ∧ m ≤ 1600 ∧ Below w.heap.size w w' := by
  have b0 : Below w.heap.size w (w.alloc (.cells ⟨[.string nm, .int .i64 st, .slice A n c]⟩ 25)) := by (repeat' (first | (with_reducible exact Below.refl _ _) | (with_reducible assumption) | (with_reducible refine below_drewN ?_ _) | (with_reducible refine Below.drew ?_) | (with_reducible refine below_alloc ?_ _) | (with_reducible refine Below.alloc ?_ ?_ _) | (with_reducible refine Below.setCell ?_ ?_ _) | (with_reducible refine below_go ?_ (by with_reducible assumption)) | (with_reducible refine below_then (by with_reducible assumption) ?_ ?_) | go_size))
  have K0 := Blk.at_ w 25 [.string nm, .int .i64 st, .slice A n c] (b := w.heap.size) rfl
  have HS := Lib.hid hs
  have hgs := goodM_st hg
  have h38 := hgs.1
  have hr8 : (roundsS st).size ≤ 8 := by rw [rounds_size st (by omega)]; exact h38.2
  have HR := Lib.hid (leadL_row h38.1 h38.2 l)
  have HFR := Lib.hid (falL_row HR.out)
  have H0 := h.up b0
  obtain ⟨L, hL1⟩ : ∃ u, u = leadL st l := ⟨_, rfl⟩
  have hLn : L.length = n := by rw [hL1, leadL_len]; exact hn
  rw [← hL1] at HR HFR ⊢
  have HL1 := Lib.hid hL1
  have HLn := Lib.hid hLn
  have hn40 : n ≤ 40 := by omega
  have k0 := K0.cell 0; have k1 := K0.cell 1; have k2 := K0.cell 2
  simp only [List.getElem?_cons_zero, List.getElem?_cons_succ] at k0 k1 k2
  clear hL1 hLn hgs hg
  go_in
  go_upto_region 1 with fail
  obtain ⟨w0, hw0⟩ : ∃ u, u = (w.alloc (.cells #[.string nm, .int .i64 st, .slice A n c] 25)) := ⟨_, rfl⟩
  rw [← hw0] at b0 K0 H0 k0 k1 k2 ⊢
  clear hw0
  refine wp_region_still_tail 4 (by kernel_rfl) (by kernel_rfl) ?_
  simp only [List.take_succ_cons, List.take_zero, List.drop_succ_cons, List.drop_zero]
  repeat still_step
  still_call (turnC (spec_l1Rounds h38.2))
  repeat still_step
  refine wpStill_nil ?_
  change wpList _ _ _ _ _ w0.drew
  go_wp2_with fail
  refine (spec_l11Lead hr8 hn H0.drew hz HS.out).mono ?_; rintro e w2 ⟨A2, c2, rfl, ho2, hbd⟩
  have hb2 := below_of_drew hbd
  rw [← leadL_n hn, ← HL1.out] at ho2
  have B2 := below_go b0 hb2
  have R2 := Lib.hid ho2.recs
  clear K0 H0 ho2 hbd hb2 k0 k1 k2 h b0
  go_wp2
  go_loopw [4, 19] (fun v i wr => ∃ (k m : Nat) (A' : Option Addr) (c' : Nat), k ≤ n ∧ i = .int .i64 k ∧ v = .slice A' m c' ∧ Hid (m = k * n) ∧ Hid (Owned strE 1 9 wr w2.heap.size A' m c' (falTo L k)) ∧ Below w2.heap.size w2 wr) (fun _ i _ => n - (intOf i).toNat)
  case atStart => exact ⟨0, 0, none, 0, Nat.zero_le _, rfl, rfl, Lib.hid (Nat.zero_mul _).symm, Lib.hid (by rw [falTo_zero]; exact Owned.nil strE_len _ _ _), Below.refl _ _⟩
  case round =>
    obtain ⟨k, m, A3, c3, hk, rfl, rfl, HM, HO, hb⟩ := hrel
    rename World => wo
    have hszo := hb.size
    by_cases hlt : k < n
    · obtain ⟨b1, o1, x, rfl, _, hx, hcx⟩ := (R2.out.below hb (Nat.le_refl _)).at_str (k := k) (by rw [HLn.out]; exact hlt)
      have hxN := Lib.hid (HR.out x (List.mem_of_getElem? hx))
      have HTS := Lib.hid (falTo_succ hx)
      have hI : (k : Int) < (n : Int) := by omega
      clear hx
      go_wp2
      go_loopw [4, 25] (fun v i wr => ∃ (j q : Nat) (A' : Option Addr) (c' : Nat), j ≤ n ∧ i = .int .i64 j ∧ v = .slice A' q c' ∧ Hid (q = k * n + j) ∧ Hid (Owned strE 1 9 wr w2.heap.size A' q c' (falTo L k ++ prodL x L j)) ∧ Below w2.heap.size w2 wr) (fun _ i _ => n - (intOf i).toNat)
      case atStart => exact ⟨0, m, A3, c3, Nat.zero_le _, rfl, rfl, HM, Lib.hid (by rw [prodL_zero, List.append_nil]; exact HO.out), hb⟩
      case round =>
        obtain ⟨j, q, A4, c4, hj, rfl, rfl, HMQ, HOQ, hbq⟩ := hrel
        rename World => wq
        have hszq := hbq.size
        by_cases hjt : j < n
        · obtain ⟨b2, o2, y, hA2, _, hy, hcy⟩ := (R2.out.below hbq (Nat.le_refl _)).at_str (k := j) (by rw [HLn.out]; exact hjt)
          injection hA2 with hA2
          injection hA2 with e1 e2 _
          subst e1 e2
          have hyN := HR.out y (List.mem_of_getElem? hy)
          have HPS := Lib.hid (prodL_succ (r := x) hy)
          have hqb : q ≤ 1640 := by
            have h1 := HMQ.out
            have h2 : k * n ≤ 40 * 40 := Nat.mul_le_mul (by omega) hn40
            omega
          have hty := turn_rowN hyN
          have hft := rowN_fits hxN.out hty
          have hxs : x.size ≤ 16777216 := by have := hxN.out.2; omega
          have hts : (turnS y).size ≤ 16777216 := by have := hty.2; omega
          have HYG := Lib.hid hyN.1
          clear hy hyN hty
          go_wp2_with fail
          refine (spec_l1Turn HYG.out).mono ?_; rintro e w5 ⟨rfl, hb5, _⟩
          have hbq5 := below_go hbq hb5
          have HO5 := Lib.hid (HOQ.out.up hb5)
          have hsz5 := hbq5.size
          go_wp2_with fail
          refine (spec_l1Times hxs hts hft).mono ?_; rintro e w' ⟨rfl, rfl⟩
          obtain ⟨z, hz⟩ : ∃ u, u = timesS x (turnS y) := ⟨_, rfl⟩
          rw [← hz] at HPS ⊢
          clear hz
          go_wp2_with (first | (at_builtin; go_must ((refine wpList_append_recs Tryz.elStr strE_one rfl (.tmp 29) (.tmp 34) rfl rfl (HO5.out.alloc _) rfl (own_lit1_at' strE_len _ 9 z rfl (Nat.le_refl _)).recs rfl ?_ (by decide) ?_ ?_; (focus (first | omega | (simp only [World.size_alloc]; done) | (simp only [World.size_alloc]; omega) | (simp; done) | (simp; omega))); (focus (first | omega | (simp only [World.size_alloc]; done) | (simp only [World.size_alloc]; omega) | (simp; done) | (simp; omega))); intro A6 c6 w6 ho6 hg6 hl6; have hb6 : Below w2.heap.size w2 w6 := (hbq5.alloc hsz5 _).trans (grown_base hg6 (by simp; omega) (fun z hz => (HO5.out.range z hz).1))))))
          go_roundw
          case rel => exact ⟨j + 1, q + 1, A6, c6, by omega, by go_num, rfl, Lib.hid (by have := HMQ.out; omega), Lib.hid (by rw [HPS.out, ← List.append_assoc]; exact ho6), hb6⟩
          case measure => simp [intOf]; omega
        · obtain rfl : j = n := by omega
          have hJ : ¬ (j : Int) < (j : Int) := by omega
          go_wp2
          go_roundw
          case rel => exact ⟨k + 1, q, A4, c4, by omega, by go_num, rfl, Lib.hid (by have := HMQ.out; rw [Nat.succ_mul]; exact this), Lib.hid (by have h1 := HOQ.out; rw [HTS.out, HLn.out]; exact h1), hbq⟩
          case measure => simp [intOf]; omega
    · obtain rfl : k = n := by omega
      have hI : ¬ (k : Int) < (k : Int) := by omega
      have HALL := Lib.hid (show falTo L k = falL L by rw [← HLn.out, falTo_all])
      have HO2 : Hid (Owned strE 1 9 wo w2.heap.size A3 m c3 (falL L)) := Lib.hid (by rw [← HALL.out]; exact HO.out)
      have hmb : m ≤ 1600 := by
        have h1 := HM.out
        have h2 : k * k ≤ 40 * 40 := Nat.mul_le_mul hn40 hn40
        omega
      have HML := Lib.hid HO2.out.len
      clear HO HALL HM
      go_wp2_with fail
      refine (spec_l6Sort m A3 c3 (falL L) wo HML.out HO2.out.recs (by omega) (fun s hs => by have h1 := (HFR.out s hs).2; omega)).mono ?_; rintro e w7 ⟨A7, c7, T, rfl, ho7, hp7, hs7, hb7⟩
      have HTS : Hid (falS L = uniqF T) := Lib.hid (by rw [falS, srt_unique (List.pairwise_mergeSort leS_trans leS_total _) hs7 ((List.mergeSort_perm _ leS).trans hp7.symm)])
      have B7 := below_go (below_go B2 hb) hb7
      have R7 := Lib.hid ho7.recs
      have HTL := Lib.hid ho7.len
      have HTZ : Hid (∀ s ∈ T, s.size ≤ 8) := Lib.hid (fun s hs => by have h1 := (HFR.out s (hp7.mem_iff.1 hs)).2; omega)
      have HUL := Lib.hid (uniqF_len T)
      clear ho7 hp7 hs7 hb7 HO2 HML HFR
      go_wp2
      go_loopw [9, 41] (fun v i wr => ∃ (j q : Nat) (A' : Option Addr) (c' : Nat), j ≤ m ∧ i = .int .i64 j ∧ v = .slice A' q c' ∧ q ≤ j ∧ Hid (Owned strE 1 9 wr w7.heap.size A' q c' (uniqF (T.take j))) ∧ Below w7.heap.size w7 wr) (fun _ i _ => m - (intOf i).toNat)
      case atStart => exact ⟨0, 0, none, 0, Nat.zero_le _, rfl, rfl, Nat.le_refl _, Lib.hid (Owned.nil strE_len _ _ _), Below.refl _ _⟩
      case round =>
        obtain ⟨j, q, A8, c8, hj, rfl, rfl, hqj, HO, hb8⟩ := hrel
        rename World => wr
        have hszr := hb8.size
        have HOL := Lib.hid HO.out.len
        by_cases hjt : j < m
        · have hJ : (j : Int) < (m : Int) := by omega
          obtain ⟨b2, o2, y, rfl, _, hy, hcy⟩ := (R7.out.below hb8 (Nat.le_refl _)).at_str (k := j) (by rw [HTL.out]; exact hjt)
          have HUS := Lib.hid (uniqF_step hy)
          have hyz : y.size ≤ 8 := HTZ.out y (List.mem_of_getElem? hy)
          clear hy
          by_cases hq0 : q = 0
          · subst hq0
            have e1 := Lib.hid (show uniqF (T.take (j + 1)) = uniqF (T.take j) ++ [y] by
              have h1 := List.eq_nil_of_length_eq_zero HOL.out
              rw [HUS.out, uniqStep, h1]; simp)
            go_wp2_with (first | (at_builtin; go_must ((refine wpList_append_recs Tryz.elStr strE_one rfl (.tmp 58) (.tmp 60) rfl rfl (HO.out.alloc _) rfl (own_lit1_at' strE_len _ 9 y rfl (Nat.le_refl _)).recs rfl ?_ (by decide) ?_ ?_; (focus (first | omega | (simp only [World.size_alloc]; done) | (simp only [World.size_alloc]; omega) | (simp; done) | (simp; omega))); (focus (first | omega | (simp only [World.size_alloc]; done) | (simp only [World.size_alloc]; omega) | (simp; done) | (simp; omega))); intro A6 c6 w6 ho6 hg6 hl6; have hb6 : Below w7.heap.size w7 w6 := (hb8.alloc hszr _).trans (grown_base hg6 (by simp; omega) (fun z hz => (HO.out.range z hz).1))))))
            go_roundw
            case rel => exact ⟨j + 1, 0 + 1, A6, c6, by omega, by go_num, rfl, by omega, Lib.hid (by rw [e1.out]; exact ho6), hb6⟩
            case measure => simp [intOf]; omega
          · obtain ⟨g, rfl, g0, g1, gc, _⟩ := HO.out.at_ (by omega)
            obtain ⟨v, hv⟩ := some_of_lt (l := uniqF (T.take j)) (k := q - 1) (by rw [HOL.out]; omega)
            have cv := gc (q - 1) v 0 _ hv rfl
            simp only [Nat.mul_one, Nat.add_zero] at cv
            have hlast : (uniqF (T.take j)).getLast? = some v := by
              rw [List.getLast?_eq_getElem?, HOL.out]; exact hv
            have HLAST := Lib.hid hlast
            have hJq : ((q : Int) == 0) = false := by simp; omega
            have hJ2 : IntKind.i64.wrap ((q : Int) - 1) = ((q - 1 : Nat) : Int) := by rw [wrap_id (by omega)]; omega
            have hJ3 : (q : Int) - 1 = ((q - 1 : Nat) : Int) := by omega
            have hJ4 : ((q - 1 : Nat) : Int) < (q : Int) := by omega
            clear gc hv hlast
            by_cases hvy : v = y
            · have e1 := Lib.hid (show uniqF (T.take (j + 1)) = uniqF (T.take j) by rw [HUS.out, uniqStep, if_pos (by rw [HLAST.out, hvy])])
              have hbe : (v.toList == y.toList) = true := by rw [hvy]; simp
              clear hvy
              go_wp2
              go_roundw
              case rel => exact ⟨j + 1, q, some ⟨g, 0, none⟩, c8, by omega, by go_num, rfl, by omega, Lib.hid (by rw [e1.out]; exact HO.out), hb8⟩
              case measure => simp [intOf]; omega
            · have e1 := Lib.hid (show uniqF (T.take (j + 1)) = uniqF (T.take j) ++ [y] by rw [HUS.out, uniqStep, if_neg (by rw [HLAST.out]; intro e; injection e with e; exact hvy e)])
              have hbe := bytes_ne hvy
              clear hvy
              go_wp2_with (first | (at_builtin; go_must ((refine wpList_append_recs Tryz.elStr strE_one rfl (.tmp 58) (.tmp 60) rfl rfl (HO.out.alloc _) rfl (own_lit1_at' strE_len _ 9 y rfl (Nat.le_refl _)).recs rfl ?_ (by decide) ?_ ?_; (focus (first | omega | (simp only [World.size_alloc]; done) | (simp only [World.size_alloc]; omega) | (simp; done) | (simp; omega))); (focus (first | omega | (simp only [World.size_alloc]; done) | (simp only [World.size_alloc]; omega) | (simp; done) | (simp; omega))); intro A6 c6 w6 ho6 hg6 hl6; have hb6 : Below w7.heap.size w7 w6 := (hb8.alloc hszr _).trans (grown_base hg6 (by simp; omega) (fun z hz => (HO.out.range z hz).1))))))
              go_roundw
              case rel => exact ⟨j + 1, q + 1, A6, c6, by omega, by go_num, rfl, by omega, Lib.hid (by rw [e1.out]; exact ho6), hb6⟩
              case measure => simp [intOf]; omega
        · obtain rfl : j = m := by omega
          have hJ : ¬ (j : Int) < (j : Int) := by omega
          have e1 := Lib.hid (show uniqF (T.take j) = falS L by rw [HTS.out, List.take_of_length_le (by rw [HTL.out]; omega)])
          go_wp2
          go_ret
          exact ⟨_, _, _, rfl, by rw [← e1.out]; exact HO.out.base_le B7.size, by omega, below_go B7 hb8⟩
set_option maxHeartbeats 1000000 in
theorem spec_FalseHeads {A : Option Addr} {n c st : Nat} {nm : ByteArray} {l : List ByteArray} {w : World} (hn : l.length = n) (h : Strs w A l) (hz : n ≤ 1048576) (hs : ∀ s ∈ l, s.size ≤ 16777216) (hnm : nm.size ≤ 16777216) (h9 : st ≤ 1000) :
    Calls Tryz.prog 27 #[.agg #[.string nm, .int .i64 st, .slice A n c]] w fun e w' => ∃ A' m c', e = .returned (.tuple #[.slice A' m c', .bool (fhsOk nm st l)]) ∧ Owned strE 1 9 w' w.heap.size A' m c' (fhsV nm st l) ∧ m ≤ 800 ∧ Below w.heap.size w w' := by
  have b0 : Below w.heap.size w (w.alloc (.cells ⟨[.string nm, .int .i64 st, .slice A n c]⟩ 25)) := by (repeat' (first | (with_reducible exact Below.refl _ _) | (with_reducible assumption) | (with_reducible refine below_drewN ?_ _) | (with_reducible refine Below.drew ?_) | (with_reducible refine below_alloc ?_ _) | (with_reducible refine Below.alloc ?_ ?_ _) | (with_reducible refine Below.setCell ?_ ?_ _) | (with_reducible refine below_go ?_ (by with_reducible assumption)) | (with_reducible refine below_then (by with_reducible assumption) ?_ ?_) | go_size))
  have K0 := Blk.at_ w 25 [.string nm, .int .i64 st, .slice A n c] (b := w.heap.size) rfl
  have H0 := h.up b0
  have hI : I64 (st : Int) := ⟨by omega, by omega⟩
  have HQ : Hid (fhsOk nm st l = (goodM nm (st : Int) l && decide ((falS (leadL st l)).length ≤ 800))) := Lib.hid rfl
  have HF : Hid (fhsOk nm st l = false → fhsV nm st l = []) := Lib.hid (fun e => by rw [fhsV, if_neg (by rw [e]; simp)])
  have HT : Hid (fhsOk nm st l = true → fhsV nm st l = falS (leadL st l)) := Lib.hid (fun e => by rw [fhsV, if_pos e])
  go_in
  go_wp2_with fail
  refine (spec_l4Good hn H0 hz hs hnm hI).mono ?_; rintro e w1 ⟨rfl, hb1⟩
  have K1 := K0.up hb1
  have H1 := H0.up hb1
  have B1 := below_go b0 hb1
  clear K0 H0 h b0 hb1
  rcases hg : goodM nm (st : Int) l
  · have e1 := Lib.hid (show fhsOk nm st l = false by rw [HQ.out, hg]; rfl)
    go_wp2
    go_ret2
    rw [HF.out e1.out, e1.out]
    exact ⟨none, 0, 0, rfl, Owned.nil strE_len _ _ _, by omega, B1⟩
  · have k0 := K1.cell 0; have k1 := K1.cell 1; have k2 := K1.cell 2
    simp only [List.getElem?_cons_zero, List.getElem?_cons_succ] at k0 k1 k2
    go_wp2_with fail
    refine (spec_l11Heads hn H1 hz hs hnm h9 hg).mono ?_; rintro e w2 ⟨A2, m, c2, rfl, ho, hm, hb2⟩
    have e0 := Lib.hid ho.len
    by_cases hm8 : m ≤ 800
    · have e1 := Lib.hid (show fhsOk nm st l = true by rw [HQ.out, hg, e0.out, decide_eq_true hm8]; rfl)
      have hI8 : ¬ (800 : Int) < (m : Int) := by omega
      go_wp2
      go_ret2
      rw [HT.out e1.out, e1.out]
      exact ⟨_, _, _, rfl, ho.base_le B1.size, hm8, below_go B1 hb2⟩
    · have e1 := Lib.hid (show fhsOk nm st l = false by rw [HQ.out, hg, e0.out, decide_eq_false hm8]; rfl)
      have hI8 : (800 : Int) < (m : Int) := by omega
      go_wp2
      go_ret2
      rw [HF.out e1.out, e1.out]
      exact ⟨none, 0, 0, rfl, Owned.nil strE_len _ _ _, by omega, below_go B1 hb2⟩
end Go.Proofs.YtidolgonmimicaaGreat
