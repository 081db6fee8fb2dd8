/- Texts 3 of 4 that the claim leans on: plain laws and the walks' contracts, in order. -/
import Derived.Test.YtoheahbkopbmhaaGreatMExactMakeProof2
import Derived.PlainAid
import Derived.Shelf.Small.Strs
import Derived.Shelf.LaysM
import Derived.Test.YtoheahbkopbmhaaGreatProg
import Derived.Shelf.SlSortCmp.WholeK
/- The form of a proof, both sides. -/
namespace Go.Proofs.YtoheahbkopbmhaaGreat
set_option linter.unusedVariables false
set_option linter.unusedSimpArgs false
open Go.ChangeShapes Go.WideShapes Go.ChangeAt Go.RowKit Go.Deep
def digB (s : ByteArray) (k : Nat) : Bool := inB (PlainAid.bt s k) 48 57
def digOk (s : ByteArray) : Bool := (List.range s.size).all (digB s) && inB s.size 1 8
def goodLn (x : Line3) : Bool := digOk x.1 && (inB x.2.1 0 60 && inB x.2.2 0 40)
def goodPf (lH : List ByteArray) (lL : List Line3) : Bool := (decide (lH.length ≤ 61) && decide (lL.length ≤ 800)) && (lH.all digOk && lL.all goodLn)
theorem digB_eq (s : ByteArray) (k : Nat) : digB s k = (!decide (PlainAid.bt s k < 48) && !decide (57 < PlainAid.bt s k)) := by
  rw [digB, inB, Bool.eq_iff_iff]
  simp
theorem allIdx {α : Type} {l : List α} {f : α → Bool} (h : ∀ j, j < l.length → ∀ x, l[j]? = some x → f x = true) : l.all f = true := by
  rw [List.all_eq_true]
  intro x hx
  obtain ⟨j, hj⟩ := List.getElem?_of_mem hx
  exact h j (List.getElem?_eq_some_iff.1 hj).1 x hj
theorem allNot {α : Type} {l : List α} {f : α → Bool} {j : Nat} {x : α} (hx : l[j]? = some x) (h : f x = false) : l.all f = false := by
  rw [List.all_eq_false]
  exact ⟨x, List.mem_of_getElem? hx, by rw [h]; simp⟩
theorem uptoIdx {α : Type} {l : List α} {f : α → Bool} {k : Nat} (h : ∀ j, j < k → ∀ x, l[j]? = some x → f x = true) {y : α} (hy : l[k]? = some y) (hf : f y = true) : ∀ j, j < k + 1 → ∀ x, l[j]? = some x → f x = true := by
  intro j hj x hx
  by_cases e : j = k
  · subst e
    rw [hy] at hx
    injection hx with hx
    subst hx
    exact hf
  · exact h j (by omega) x hx
end Go.Proofs.YtoheahbkopbmhaaGreat
/- The walks through the heads of a touch, the program's side. -/
namespace Go.Proofs.YtoheahbkopbmhaaGreat
set_option linter.unusedVariables false
set_option linter.unusedSimpArgs false
open Go.ChangeShapes Go.WideShapes Go.ChangeAt Go.RowKit Go.Deep
open Go.Maps (Keyed string_keyed int_keyed)
open Go.Maps (keyOf_int_mk)
theorem Below.step {w0 w w' : World} (C : Below w0.heap.size w0 w) (hb : Below w.heap.size w w') : Below w0.heap.size w0 w' := C.trans (hb.mono C.size)
/-- What a map from the three bytes reads as when some are laid. -/
def triL (p q r : Bool) (X Y Z : ByteArray) : List (Lit × DataW Unit) :=
  (if q = true then [(.int .u8 98, .lit (sLi Y))] else []) ++ ((if p = true then [(.int .u8 112, .lit (sLi X))] else []) ++ (if r = true then [(.int .u8 115, .lit (sLi Z))] else []))
theorem triL_len (p q r : Bool) (X Y Z : ByteArray) : (triL p q r X Y Z).length ≤ 3 := by cases p <;> cases q <;> cases r <;> simp [triL]
theorem triL_p (p q r : Bool) (X Y Z : ByteArray) : (DataW.map (triL p q r X Y Z)).put (.int .u8 112) (.lit (sLi X)) = .map (triL true q r X Y Z) := by cases p <;> cases q <;> cases r <;> rfl
theorem triL_q (p q r : Bool) (X Y Z : ByteArray) : (DataW.map (triL p q r X Y Z)).put (.int .u8 98) (.lit (sLi Y)) = .map (triL p true r X Y Z) := by cases p <;> cases q <;> cases r <;> rfl
theorem triL_r (p q r : Bool) (X Y Z : ByteArray) : (DataW.map (triL p q r X Y Z)).put (.int .u8 115) (.lit (sLi Z)) = .map (triL p q true X Y Z) := by cases p <;> cases q <;> cases r <;> rfl
/-- Block b, made behind w0, is such a map; nothing below w0's end has changed. -/
def Tri (P : Program) (X Y Z : ByteArray) (w0 w : World) (b : Nat) (p q r : Bool) : Prop := w0.heap.size ≤ b ∧ Below w0.heap.size w0 w ∧ w.ownsMap P 5 (plainElem P 9) b 3 (.map (triL p q r X Y Z))
def IsTri (P : Program) (X Y Z : ByteArray) (w0 w : World) (b : Nat) : Prop := ∃ p q r, Tri P X Y Z w0 w b p q r
section
variable {P : Program} {w0 w w' : World} {b : Nat} {p q r : Bool} {X Y Z : ByteArray}
theorem Tri.made (C : Below w0.heap.size w0 w) : Tri P X Y Z w0 (w.alloc (.map #[] 0)) w.heap.size false false false :=
  ⟨C.size, C.alloc C.size _, ownsMap_tight (l := triL false false false X Y Z) (World.ownsMap_made w P _ _) (triL_len _ _ _ _ _ _)⟩
theorem Tri.up (h : Tri P X Y Z w0 w b p q r) (hb : Below w.heap.size w w') : Tri P X Y Z w0 w' b p q r := ⟨h.1, Below.step h.2.1 hb, h.2.2.kept (grown_of_below hb) (by simp)⟩
theorem Tri.c (h : Tri P X Y Z w0 w b p q r) : Below w0.heap.size w0 w := h.2.1
theorem IsTri.c (h : IsTri P X Y Z w0 w b) : Below w0.heap.size w0 w := by obtain ⟨p, q, r, h⟩ := h; exact h.2.1
theorem IsTri.up (h : IsTri P X Y Z w0 w b) (hb : Below w.heap.size w w') : IsTri P X Y Z w0 w' b := by obtain ⟨p, q, r, h⟩ := h; exact ⟨p, q, r, h.up hb⟩
theorem IsTri.made (C : Below w0.heap.size w0 w) : IsTri P X Y Z w0 (w.alloc (.map #[] 0)) w.heap.size := ⟨_, _, _, Tri.made C⟩
theorem Tri.put (h : Tri P X Y Z w0 w b p q r) (K : Keyed P 5) {t : TypeId} (ht : P.underlying t = some (.map 5 9)) (he : P.underlying 9 = some .string) {key : Value} {kl : Lit} (hkey : keyOf P 5 key = some kl) {x : ByteArray} (hx : x.size ≤ 16777216) {p' q' r' : Bool}
    (hL : (DataW.map (triL p q r X Y Z)).put kl (.lit (sLi x)) = .map (triL p' q' r' X Y Z)) :
    (Instr.mapUpdate t (.map (some b)) key (.string x)).run P w = .ok () (putW P t b key (.string x) w) ∧ Tri P X Y Z w0 (putW P t b key (.string x) w) b p' q' r' := by
  obtain ⟨h1, h2, h3⟩ := h
  obtain ⟨w', hrun, hown, hg⟩ := h3.update K ht (by decide) hkey (sLi_pe he hx)
  rw [putW_eq hrun]
  rw [hL] at hown
  exact ⟨hrun, h1, h2.trans ((Below.refl _ _).grown hg h2.size fun k hk => by injection hk with hk; rw [← hk]; exact h1), ownsMap_tight hown (triL_len _ _ _ _ _ _)⟩
end
theorem Tri.get {P : Program} {w0 w : World} {b : Nat} {X Y Z : ByteArray} (h : Tri P X Y Z w0 w b true true true) (K : Keyed P 5) {t : TypeId} (ht : P.underlying t = some (.map 5 9)) (he : P.underlying 9 = some .string)
    (hz : (zeroValue 9).run P w = .ok (.string ByteArray.empty) w) (k1 : keyOf P 5 (.int .u8 112) = some (.int .u8 112)) (k2 : keyOf P 5 (.int .u8 98) = some (.int .u8 98)) (k3 : keyOf P 5 (.int .u8 115) = some (.int .u8 115)) :
    (Instr.lookup t (.map (some b)) (.int .u8 112) false).run P w = .ok (.string X) w ∧ (Instr.lookup t (.map (some b)) (.int .u8 98) false).run P w = .ok (.string Y) w ∧ (Instr.lookup t (.map (some b)) (.int .u8 115) false).run P w = .ok (.string Z) w := by
  have go : ∀ (a : Int) (x : ByteArray), keyOf P 5 (.int .u8 a) = some (.int .u8 a) → (DataW.map (triL true true true X Y Z)).atKey (.int .u8 a) (.lit (sLi ByteArray.empty)) = .lit (sLi x) → (Instr.lookup t (.map (some b)) (.int .u8 a) false).run P w = .ok (.string x) w := by
    intro a x hkey hat
    obtain ⟨v, ps, hrun, hv⟩ := h.2.2.lookup K ht hz (sLi_pe he (by decide)) hkey
    rw [hat] at hv
    rw [hrun, sLi_in he _ _ _ hv]
  exact ⟨go 112 X k1 rfl, go 98 Y k2 rfl, go 115 Z k3 rfl⟩
def Holds (I : World → Nat → Prop) (u : World) (b : Nat) : Prop := I u b
theorem heads_kit {P : Program} (w0 : World) {X Y Z : ByteArray} (K : Keyed P 5) {t : TypeId} (ht : P.underlying t = some (.map 5 9)) (he : P.underlying 9 = some .string) (hu : P.underlying 5 = some (.int .u8)) (hX : X.size ≤ 16777216) (hY : Y.size ≤ 16777216) (hZ : Z.size ≤ 16777216) :
    ∃ (T : World → Nat → Bool → Bool → Bool → Prop) (I : World → Nat → Prop) (PP PQ PR : World → Nat → World),
      (∀ u b, Holds I u b → Below w0.heap.size w0 u) ∧ (∀ u b p q r, T u b p q r → Holds I u b) ∧ (∀ u b, Holds I u b → Holds I (PP u b) b) ∧ (∀ u b, Holds I u b → Holds I (PQ u b) b) ∧ (∀ u b, Holds I u b → Holds I (PR u b) b) ∧
      (∀ u b, Holds I u b → Sem.run P (Instr.mapUpdate t (.map (some b)) (.int .u8 112) (.string X)) u = .ok () (PP u b)) ∧ (∀ u b, Holds I u b → Sem.run P (Instr.mapUpdate t (.map (some b)) (.int .u8 98) (.string Y)) u = .ok () (PQ u b)) ∧ (∀ u b, Holds I u b → Sem.run P (Instr.mapUpdate t (.map (some b)) (.int .u8 115) (.string Z)) u = .ok () (PR u b)) ∧
      (∀ u, Below w0.heap.size w0 u → T (u.alloc (.map #[] 0)) u.heap.size false false false) ∧ (∀ u u' b p q r, T u b p q r → Below u.heap.size u u' → T u' b p q r) ∧
      (∀ u b p q r, T u b p q r → T (PP u b) b true q r) ∧ (∀ u b p q r, T u b p q r → T (PQ u b) b p true r) ∧ (∀ u b p q r, T u b p q r → T (PR u b) b p q true) ∧ (∀ u b p q r, T u b p q r → Tri P X Y Z w0 u b p q r) := by
  have hp : ∀ u b p q r, Tri P X Y Z w0 u b p q r → _ := fun u b p q r h => h.put K ht he (keyOf_int_mk hu (a := 112) (by decide)) hX (triL_p p q r X Y Z)
  have hq : ∀ u b p q r, Tri P X Y Z w0 u b p q r → _ := fun u b p q r h => h.put K ht he (keyOf_int_mk hu (a := 98) (by decide)) hY (triL_q p q r X Y Z)
  have hr : ∀ u b p q r, Tri P X Y Z w0 u b p q r → _ := fun u b p q r h => h.put K ht he (keyOf_int_mk hu (a := 115) (by decide)) hZ (triL_r p q r X Y Z)
  refine ⟨Tri P X Y Z w0, IsTri P X Y Z w0, fun u b => putW P t b (.int .u8 112) (.string X) u, fun u b => putW P t b (.int .u8 98) (.string Y) u, fun u b => putW P t b (.int .u8 115) (.string Z) u, fun u b h => h.c, fun u b p q r h => ⟨p, q, r, h⟩, ?_, ?_, ?_, ?_, ?_, ?_, fun u h => Tri.made h, fun u u' b p q r h hb => h.up hb, fun u b p q r h => (hp u b p q r h).2, fun u b p q r h => (hq u b p q r h).2, fun u b p q r h => (hr u b p q r h).2, fun _ _ _ _ _ h => h⟩
  · rintro u b ⟨p, q, r, h⟩; exact ⟨_, _, _, (hp u b p q r h).2⟩
  · rintro u b ⟨p, q, r, h⟩; exact ⟨_, _, _, (hq u b p q r h).2⟩
  · rintro u b ⟨p, q, r, h⟩; exact ⟨_, _, _, (hr u b p q r h).2⟩
  · rintro u b ⟨p, q, r, h⟩; exact (hp u b p q r h).1
  · rintro u b ⟨p, q, r, h⟩; exact (hq u b p q r h).1
  · rintro u b ⟨p, q, r, h⟩; exact (hr u b p q r h).1
set_option maxHeartbeats 40000000 in
set_option maxRecDepth 100000 in
theorem impl_heads {A : Option Addr} {n c st : Nat} {nm : ByteArray} {l : List ByteArray} {kb ks : ByteArray} {t : ByteArray} {w : World} (hn : l.length = n) (h : Strs w A l) (hk : goodK nm (st : Int) l kb ks = true) (hg : goodT t = true) :
    Calls Tryz.prog 27 #[.agg #[.string nm, .int .i64 st, .slice A n c], .agg #[.string kb, .string ks], .string t] w fun e w' => ∃ A' c', e = .returned (.slice A' (t.size + 1) c') ∧ Owned strE 1 9 w' w.heap.size A' (t.size + 1) c' (hdsL st l kb ks t (t.size + 1)) ∧ Below w.heap.size w w' := by
  have b0 : Below w.heap.size w ((w.alloc (.cells ⟨[.string nm, .int .i64 st, .slice A n c]⟩ 34)).alloc (.cells ⟨[.string kb, .string ks]⟩ 36)) := by (repeat' (first | (with_reducible exact Below.refl _ _) | (with_reducible assumption) | (with_reducible refine below_drewN ?_ _) | (with_reducible refine Below.drew ?_) | (with_reducible refine below_alloc ?_ _) | (with_reducible refine Below.alloc ?_ ?_ _) | (with_reducible refine Below.setCell ?_ ?_ _) | (with_reducible refine below_go ?_ (by with_reducible assumption)) | (with_reducible refine below_then (by with_reducible assumption) ?_ ?_) | go_size))
  have K0 := (Blk.at_ w 34 [.string nm, .int .i64 st, .slice A n c] (b := w.heap.size) rfl).alloc (.cells ⟨[.string kb, .string ks]⟩ 36)
  have K1 := Blk.at_ (w.alloc (.cells ⟨[.string nm, .int .i64 st, .slice A n c]⟩ 34)) 36 [.string kb, .string ks] (b := w.heap.size + 1) (by simp)
  have hmm := @run_makeMap Tryz.prog
  have KU := int_keyed (P := Tryz.prog) (k := 5) Tryz.underlying5
  go_in
  go_upto_region 1 with fail
  obtain ⟨w0, hw0⟩ : ∃ u, u = ((w.alloc (.cells #[.string nm, .int .i64 st, .slice A n c] 34)).alloc (.cells #[.string kb, .string ks] 36)) := ⟨_, rfl⟩
  rw [← hw0] at b0 K0 K1 ⊢
  clear hw0
  have H0 := Lib.hid (h.up b0)
  have carry : Hid (∀ u : World, Below w0.heap.size w0 u → (u.cell? ⟨w.heap.size, 0, none⟩ = some (.string nm) ∧ u.cell? ⟨w.heap.size, 1, none⟩ = some (.int .i64 st) ∧ u.cell? ⟨w.heap.size, 2, none⟩ = some (.slice A n c)) ∧ u.cell? ⟨w.heap.size + 1, 0, none⟩ = some (.string kb) ∧ u.cell? ⟨w.heap.size + 1, 1, none⟩ = some (.string ks)) := Lib.hid (fun u hu => by
    have L0 := K0.up hu; have L1 := K1.up hu
    exact ⟨⟨by simpa using L0.cell 0, by simpa using L0.cell 1, by simpa using L0.cell 2⟩, by simpa using L1.cell 0, by simpa using L1.cell 1⟩)
  clear h K0 K1
  have cf := Lib.hid (fun (u : World) (s : ByteArray) (hb : Below w0.heap.size w0 u) => impl_callHead (c := c) (s := s) hn (H0.out.up hb) hk)
  have C0 : Below w0.heap.size w0 w0.drew := (Below.refl _ _).drew
  have PG := Lib.hid (callHd_good hk)
  have PS := Lib.hid (fun s => show (callHd st l kb ks s).size ≤ 16777216 from by rw [(PG.out s).2]; have := (goodK_all hk).1; omega)
  obtain ⟨T, I, PP, PQ, PR, hC, hTI, HIP, HIQ, HIR, HUP, HUQ, HUR, hM, hU, hP, hQ, hR, hT⟩ := heads_kit (P := Tryz.prog) w0 KU Tryz.underlying74 Tryz.underlying9 Tryz.underlying5 (PS.out ⟨#[112]⟩) (PS.out ⟨#[98]⟩) (PS.out ⟨#[115]⟩)
  have HC := Lib.hid hC; have TI := Lib.hid hTI; have TM := Lib.hid hM; have TU := Lib.hid hU; have TP := Lib.hid hP; have TQ := Lib.hid hQ; have TR := Lib.hid hR; have TT := Lib.hid hT
  clear hC hTI hM hU hP hQ hR hT
  have N0 := TU.out _ _ _ _ _ _ (TM.out w0 (Below.refl _ _)) (Below.refl _ _).drew
  have M0 := TI.out _ _ _ _ _ N0
  go_cut [7] (fun s7 wx => ∃ b, s7 = .map (some b) ∧ T wx b true true true)
  case first =>
    go_region_held3 (fun u => (u.cell? ⟨w.heap.size, 0, none⟩ = some (.string nm) ∧ u.cell? ⟨w.heap.size, 1, none⟩ = some (.int .i64 st) ∧ u.cell? ⟨w.heap.size, 2, none⟩ = some (.slice A n c)) ∧ u.cell? ⟨w.heap.size + 1, 0, none⟩ = some (.string kb) ∧ u.cell? ⟨w.heap.size + 1, 1, none⟩ = some (.string ks)) (first | exact carry.out _ (by first | assumption | (apply HC.out; repeat (with_reducible first | assumption | apply HIP | apply HIQ | apply HIR)))) (first
      | (go_at_call 49; ((with_reducible refine (cf.out _ _ (by first | assumption | (apply HC.out; repeat (with_reducible first | assumption | apply HIP | apply HIQ | apply HIR)))).mono ?_); rintro e w1 ⟨rfl, hb1⟩; (first | (have N := TU.out _ _ _ _ _ _ (by assumption) hb1) | (have N := TU.out _ _ _ _ _ _ (TP.out _ _ _ _ _ (by assumption)) hb1) | (have N := TU.out _ _ _ _ _ _ (TQ.out _ _ _ _ _ (by assumption)) hb1) | (have N := TU.out _ _ _ _ _ _ (TQ.out _ _ _ _ _ (TP.out _ _ _ _ _ (by assumption))) hb1) | (have N := TU.out _ _ _ _ _ _ (TP.out _ _ _ _ _ (TQ.out _ _ _ _ _ (by assumption))) hb1) | (have C := Below.step (w0 := w0) (by assumption) hb1; have N := TM.out _ C)); have M := TI.out _ _ _ _ _ N; have MP := HIP _ _ M; have MQ := HIQ _ _ M; have MR := HIR _ _ M)))
    all_goals
      go_wp2_with fail
      go_meet
      refine ⟨_, rfl, ?_⟩
      repeat (with_reducible first | assumption | apply TP.out | apply TQ.out | apply TR.out)
  case rest =>
    obtain ⟨b, rfl, hT0⟩ := hcut
    have hT := TT.out _ _ _ _ _ hT0
    clear hT0 HIP HIQ HIR HUP HUQ HUR N0 M0
    rename World => w1
    obtain ⟨⟨k0, k1, k2⟩, q0, q1⟩ := carry.out _ hT.c
    have hB1 := b0.trans (hT.c.mono b0.size)
    obtain ⟨h8, h40, _⟩ := goodK_all hk
    have gb := PlainAid.get_bt t
    obtain ⟨ht1, ht60, htl⟩ := goodT_t hg
    have HL := Lib.hid htl
    have HD := Lib.hid (fun k => hdAt_good h8.1 h8.2 l kb ks t k)
    have H1 : Hid (Owned strE 1 9 (w1.alloc (.cells #[.string (roundsS st)] 9)) w1.heap.size (some ⟨w1.heap.size, 0, none⟩) 1 1 (hdsL st l kb ks t 1)) := Lib.hid ⟨strE_len, by simp [hdsL], by simpa [hdsL, hdAt, strE] using World.ownsRow_lit (e := 9) (base := w1.heap.size) (size := 1) w1 #[.string (roundsS st)] 1 (Nat.le_refl _) (by decide) (by simp)⟩
    clear htl hmm
    go_wp2_with fail
    refine (impl_rounds h8.2).mono ?_; rintro e w' ⟨rfl, rfl⟩
    go_wp2
    go_loopw [8, 9, 29] (fun r v i wr => ∃ (k : Nat) (A' : Option Addr) (m c' : Nat), k ≤ t.size ∧ i = .int .i64 k ∧ r = .string (hdAt st l kb ks t k) ∧ v = .slice A' m c' ∧ m = k + 1 ∧ Owned strE 1 9 wr w1.heap.size A' m c' (hdsL st l kb ks t (k + 1)) ∧ Below w1.heap.size w1 wr) (fun _ _ i _ => t.size - (intOf i).toNat)
    case atStart => exact ⟨0, _, _, _, Nat.zero_le _, rfl, rfl, rfl, rfl, H1.out, by (repeat' (first | (with_reducible exact Below.refl _ _) | (with_reducible assumption) | (with_reducible refine below_drewN ?_ _) | (with_reducible refine Below.drew ?_) | (with_reducible refine below_alloc ?_ _) | (with_reducible refine Below.alloc ?_ ?_ _) | (with_reducible refine Below.setCell ?_ ?_ _) | (with_reducible refine below_go ?_ (by with_reducible assumption)) | (with_reducible refine below_then (by with_reducible assumption) ?_ ?_) | go_size))⟩
    case round =>
      obtain ⟨k, A', m, c', hk1, rfl, rfl, rfl, rfl, ho, hb⟩ := hrel
      have HO := Lib.hid ho
      have hsz := hb.size
      clear ho
      by_cases hlt : k < t.size
      · have hLK := (hT.up hb).get KU Tryz.underlying74 Tryz.underlying9 (by kernel_rfl) (keyOf_int_mk Tryz.underlying5 (by decide)) (keyOf_int_mk Tryz.underlying5 (by decide)) (keyOf_int_mk Tryz.underlying5 (by decide))
        have LK : Sem.run Tryz.prog (Instr.lookup 74 (.map (some b)) (.int .u8 (PlainAid.bt t k)) false) wr = .ok (.string (callHd st l kb ks (letter t k))) wr := by
          have hcb := HL.out k hlt
          by_cases f1 : PlainAid.bt t k = 112
          · rw [f1, letter_p hlt f1]; exact hLK.1
          · by_cases f2 : PlainAid.bt t k = 98
            · rw [f2, letter_b hlt f2]; exact hLK.2.1
            · have f3 : PlainAid.bt t k = 115 := by
                rw [callB] at hcb
                simpa [f1, f2] using hcb
              rw [f3, letter_s hlt f3]; exact hLK.2.2
        clear hLK
        have p1 := PG.out (letter t k)
        have p2 := HD.out k
        have z1 : (hdAt st l kb ks t k).size ≤ 16777216 := by rw [p2.2]; omega
        have z2 : (callHd st l kb ks (letter t k)).size ≤ 16777216 := by rw [p1.2]; omega
        have hf : fits (hdAt st l kb ks t k) (callHd st l kb ks (letter t k)) := fits_good p1.1 (by rw [p1.2, p2.2])
        have E := Lib.hid (show timesS (hdAt st l kb ks t k) (callHd st l kb ks (letter t k)) = hdAt st l kb ks t (k + 1) from rfl)
        have HT := Lib.hid (hdsL_succ st l kb ks t (k + 1))
        clear p1 p2
        go_wp2_with (first | (go_at_call 50; refine (impl_times z1 z2 hf).mono ?_; rw [E.out]; rintro e w2 ⟨rfl, hb2⟩; have HO1 := Lib.hid (HO.out.up hb2); have hsz1 := hb2.size) | (at_builtin; go_must ((refine wpList_append_rec Tryz.elStr rfl (.tmp 39) (.tmp 41) rfl rfl (HO1.out.alloc _) (hdAt st l kb ks t (k + 1)) rfl (Box.at_ _ [.string (hdAt st l kb ks t (k + 1))] _ ?_) (strE_one _) ?_ (by decide) ?_ ?_; (focus (first | omega | (simp only [World.size_alloc]; done) | (simp only [World.size_alloc]; omega) | (simp; done) | (simp; omega))); (focus (first | omega | (simp only [World.size_alloc]; done) | (simp only [World.size_alloc]; omega) | (simp; done) | (simp; omega))); (focus (first | omega | (simp only [World.size_alloc]; done) | (simp only [World.size_alloc]; omega) | (simp; done) | (simp; omega))); intro A2 c2 w3 ho3 hg3 hb3))))
        go_roundw
        case rel => exact ⟨k + 1, A2, k + 1 + 1, c2, by omega, by go_num, rfl, by go_num, rfl, by rw [HT.out]; exact ho3, ((hb.trans (hb2.mono hsz)).alloc (by omega) _).trans hb3⟩
        case measure => simp [intOf]; omega
      · obtain rfl : k = t.size := by omega
        go_wp2
        go_ret
        exact ⟨_, _, rfl, HO.out.base_le hB1.size, below_go hB1 hb⟩
end Go.Proofs.YtoheahbkopbmhaaGreat
/- The heads and rows of a touch, the reference's side. -/
namespace Go.Proofs.YtoheahbkopbmhaaGreat
set_option linter.unusedVariables false
set_option linter.unusedSimpArgs false
open Go.ChangeShapes Go.WideShapes Go.ChangeAt Go.RowKit Go.Deep
theorem goodF_t' {nm : ByteArray} {st : Int} {l : List ByteArray} {kb ks t : ByteArray} (h : goodF nm st l kb ks t = true) : goodK nm st l kb ks = true ∧ goodT t = true := by
  rw [goodF, Bool.and_eq_true] at h; exact h
theorem Below.step' {w0 w w' : World} {b : Nat} (C : Below b w0 w) (hbs : b ≤ w0.heap.size) (hb : Below w.heap.size w w') : Below b w0 w' := C.trans (hb.mono (Nat.le_trans hbs C.size))
end Go.Proofs.YtoheahbkopbmhaaGreat
/- The rows of a touch, the program's side. -/
namespace Go.Proofs.YtoheahbkopbmhaaGreat
set_option linter.unusedVariables false
set_option linter.unusedSimpArgs false
open Go.ChangeShapes Go.WideShapes Go.ChangeAt Go.RowKit Go.Deep
theorem rowsL_cut (a : ByteArray) (l : List ByteArray) (n : Nat) : (rowsL a l (n + 1)).take n = rowsL a l n := by
  rw [rowsL_succ, List.take_append_of_le_length (by rw [rowsL_len]; exact Nat.le_refl _), List.take_of_length_le (by rw [rowsL_len]; exact Nat.le_refl _)]
theorem hdsL_cut (st : Nat) (l : List ByteArray) (b s t : ByteArray) (n : Nat) : (hdsL st l b s t (n + 1)).take n = hdsL st l b s t n := by
  rw [hdsL_succ, List.take_append_of_le_length (by rw [hdsL_len]; exact Nat.le_refl _), List.take_of_length_le (by rw [hdsL_len]; exact Nat.le_refl _)]
theorem Recs.front {α : Type} {e : α → List Value} {s : Nat} {w : World} {g : Nat} {l : List α} (h : Recs e s w (some ⟨g, 0, none⟩) l) (n : Nat) (hn : n ≤ l.length) : Recs e s w (some ⟨g, 0, none⟩) (l.take n) := by
  have := h.part 0 n (Nat.zero_le _) hn
  simpa using this
set_option maxHeartbeats 1000000 in
set_option maxRecDepth 100000 in
theorem impl_leadRows {A : Option Addr} {n c : Nat} {nm a : ByteArray} {st : Int} {l : List ByteArray} {w : World} (ha : a.size ≤ 8) (hn : l.length = n) (h : Strs w A l) (hz : n ≤ 1048576) (hs : ∀ s ∈ l, s.size ≤ 16777216) (hg : ∀ s ∈ l, isDash s = true ∨ validD s = true) :
    Calls Tryz.prog 87 #[.agg #[.string nm, .int .i64 st, .slice A n c], .string a] w fun e w' => ∃ A' c', e = .returned (.slice A' n c') ∧ Strs w' A' (rowsL a l n) ∧ Below w.heap.size w w' := by
  have b0 : Below w.heap.size w (w.alloc (.cells ⟨[.string nm, .int .i64 st, .slice A n c]⟩ 34)) := by (repeat' (first | (with_reducible exact Below.refl _ _) | (with_reducible assumption) | (with_reducible refine below_drewN ?_ _) | (with_reducible refine Below.drew ?_) | (with_reducible refine below_alloc ?_ _) | (with_reducible refine Below.alloc ?_ ?_ _) | (with_reducible refine Below.setCell ?_ ?_ _) | (with_reducible refine below_go ?_ (by with_reducible assumption)) | (with_reducible refine below_then (by with_reducible assumption) ?_ ?_) | go_size))
  have K0 := Blk.at_ w 34 [.string nm, .int .i64 st, .slice A n c] (b := w.heap.size) rfl
  have HG := Lib.hid hg
  have HS := Lib.hid hs
  clear hg hs
  go_in
  go_wp2_with fail
  obtain ⟨w0, hw0⟩ : ∃ u, u = (w.alloc (.cells #[.string nm, .int .i64 st, .slice A n c] 34)) := ⟨_, rfl⟩
  rw [← hw0] at b0 K0 ⊢
  clear hw0
  have H0 := Lib.hid (h.up b0)
  have carry : Hid (∀ u : World, Below w0.heap.size w0 u → u.cell? ⟨w.heap.size, 2, none⟩ = some (.slice A n c)) := Lib.hid (fun u hu => by
    have L0 := K0.up hu
    simpa using L0.cell 2)
  clear h K0
  have hwk : IntKind.i64.wrap (n : Int) = (n : Int) := wrap_id (by omega)
  have hle3 : (0 : Int) ≤ (n : Int) := by omega
  go_region_held3 (fun u => u.cell? ⟨w.heap.size, 2, none⟩ = some (.slice A n c)) (first | exact carry.out _ hb1 | exact carry.out _ (Below.refl _ _) | exact carry.out _ (Below.refl _ _).drew) (first | (go_at_call 88; ((refine (impl_rowsUnder ha hn H0.out.drew (by omega) HS.out HG.out).mono ?_); rintro e w1 ⟨A1, c1, rfl, ho, hbd⟩; have hb1 := below_of_drew hbd; have hcp := ho.cap; have hcI : (n : Int) ≤ (c1 : Int) := (by omega); obtain ⟨g, rfl, _⟩ := ho.at_ (by omega))))
  go_wp2
  go_ret
  exact ⟨_, _, rfl, by have q := ho.recs.front n (by rw [rowsL_len]; omega); rw [rowsL_cut] at q; exact q, below_go b0 hb1⟩
set_option maxHeartbeats 1000000 in
set_option maxRecDepth 100000 in
theorem impl_leadsFrom {A : Option Addr} {n c st : Nat} {nm : ByteArray} {l : List ByteArray} {kb ks : ByteArray} {t : ByteArray} {B : Option Addr} {m d : Nat} {w : World} (hn : l.length = n) (h : Strs w A l) (hk : goodK nm (st : Int) l kb ks = true) (hB : Strs w B (hdsL st l kb ks t m)) (hm : m ≤ 60) :
    Calls Tryz.prog 67 #[.agg #[.string nm, .int .i64 st, .slice A n c], .slice B m d] w fun e w' => ∃ A' m' c', e = .returned (.slice A' m' c') ∧ m' = m * n ∧ Owned strE 1 9 w' w.heap.size A' m' c' (tRows st l kb ks t m) ∧ Below w.heap.size w w' := by
  have b0 : Below w.heap.size w (w.alloc (.cells ⟨[.string nm, .int .i64 st, .slice A n c]⟩ 34)) := by (repeat' (first | (with_reducible exact Below.refl _ _) | (with_reducible assumption) | (with_reducible refine below_drewN ?_ _) | (with_reducible refine Below.drew ?_) | (with_reducible refine below_alloc ?_ _) | (with_reducible refine Below.alloc ?_ ?_ _) | (with_reducible refine Below.setCell ?_ ?_ _) | (with_reducible refine below_go ?_ (by with_reducible assumption)) | (with_reducible refine below_then (by with_reducible assumption) ?_ ?_) | go_size))
  have K0 := Blk.at_ w 34 [.string nm, .int .i64 st, .slice A n c] (b := w.heap.size) rfl
  obtain ⟨h8, h40, hgl, _⟩ := goodK_all hk
  have hn40 : n ≤ 40 := by omega
  have HS := Lib.hid (fun (s' : ByteArray) (hs' : s' ∈ l) => show s'.size ≤ 16777216 from by have := goodChange_small (hgl s' hs'); omega)
  have HG := Lib.hid (fun (x : ByteArray) (hx : x ∈ l) => good_valid (hgl x hx))
  clear hgl
  have HD := Lib.hid (fun k => hdAt_good h8.1 h8.2 l kb ks t k)
  go_in
  go_wp2_with fail
  obtain ⟨w1, hw1⟩ : ∃ u, u = (w.alloc (.cells #[.string nm, .int .i64 st, .slice A n c] 34)) := ⟨_, rfl⟩
  have sz1 : w1.heap.size = w.heap.size + 1 := by rw [hw1]; simp
  rw [← hw1] at b0 K0 ⊢
  clear hw1
  have H0 := Lib.hid (h.up b0)
  have HB := Lib.hid (hB.up b0)
  have carry : Hid (∀ u : World, Below w1.heap.size w1 u → u.cell? ⟨w.heap.size, 0, none⟩ = some (.string nm) ∧ u.cell? ⟨w.heap.size, 1, none⟩ = some (.int .i64 st) ∧ u.cell? ⟨w.heap.size, 2, none⟩ = some (.slice A n c)) := Lib.hid (fun u hu => by
    have L0 := K0.up hu
    exact ⟨by simpa using L0.cell 0, by simpa using L0.cell 1, by simpa using L0.cell 2⟩)
  clear h hB K0
  have HE : Hid (Owned strE 1 9 (w1.alloc (.cells #[] 9)) w1.heap.size (some ⟨w.heap.size + 1, 0, none⟩) 0 0 (tRows st l kb ks t 0)) := Lib.hid (by rw [← sz1]; exact Owned.empty (E := 9) strE_len w1 (Nat.le_refl _))
  clear sz1
  go_wp2
  go_loopw [5, 11] (fun v i wr => ∃ (k : Nat) (A' : Option Addr) (q c' : Nat), k ≤ m ∧ i = .int .i64 k ∧ v = .slice A' q c' ∧ q = k * n ∧ Owned strE 1 9 wr w1.heap.size A' q c' (tRows st l kb ks t k) ∧ Below w1.heap.size w1 wr) (fun _ i _ => m - (intOf i).toNat)
  case atStart => exact ⟨0, _, 0, _, Nat.zero_le _, rfl, rfl, by omega, HE.out, by (repeat' (first | (with_reducible exact Below.refl _ _) | (with_reducible assumption) | (with_reducible refine below_drewN ?_ _) | (with_reducible refine Below.drew ?_) | (with_reducible refine below_alloc ?_ _) | (with_reducible refine Below.alloc ?_ ?_ _) | (with_reducible refine Below.setCell ?_ ?_ _) | (with_reducible refine below_go ?_ (by with_reducible assumption)) | (with_reducible refine below_then (by with_reducible assumption) ?_ ?_) | go_size))⟩
  case round =>
    obtain ⟨k, A', q, c', hk1, rfl, rfl, hq, ho, hb⟩ := hrel
    have HO := Lib.hid ho
    have HM := Lib.hid hq
    have hmb : q ≤ 2400 := by rw [hq]; exact Nat.le_trans (Nat.mul_le_mul (show k ≤ 60 by omega) hn40) (by decide)
    have hsz := hb.size
    clear ho hq
    by_cases hlt : k < m
    · obtain ⟨b3, o3, y, rfl, hbb, hy, hcy⟩ := (HB.out.below hb (Nat.le_refl _)).at_str (k := k) (by rw [hdsL_len]; exact hlt)
      rw [hdsL_at hlt] at hy
      injection hy with hy
      subst hy
      obtain ⟨c0, c1, c2⟩ := carry.out _ hb
      have p2 := HD.out k
      have z1 : (hdAt st l kb ks t k).size ≤ 8 := by rw [p2.2]; omega
      have HT := Lib.hid (tRows_succ st l kb ks t k)
      clear p2
      go_wp2_with fail
      refine (impl_leadRows z1 hn (H0.out.below hb (Nat.le_refl _)) (by omega) HS.out HG.out).mono ?_; rintro e w2 ⟨A2, c3, rfl, hr2, hb2⟩
      have HO1 := Lib.hid (HO.out.up hb2)
      have hsz1 := hb2.size
      have hl2 : (rowsL (hdAt st l kb ks t k) l n).length = n := by rw [rowsL_len]
      go_wp2_with (first | (at_builtin; go_must ((refine wpList_append_recs Tryz.elStr strE_one rfl (.tmp 15) (.tmp 18) rfl rfl HO1.out rfl hr2 hl2 ?_ (by decide) ?_ ?_; (focus (first | omega | (simp only [World.size_alloc]; done) | (simp only [World.size_alloc]; omega) | (simp; done) | (simp; omega))); (focus (first | omega | (simp only [World.size_alloc]; done) | (simp only [World.size_alloc]; omega) | (simp; done) | (simp; omega))); intro A3 c4 w3 ho3 hg3 hn3))))
      go_roundw
      case rel => exact ⟨k + 1, A3, q + n, c4, by omega, by go_num, by go_num, by rw [HM.out, Nat.succ_mul], by rw [HT.out]; subst hn; exact ho3, (hb.trans (hb2.mono hsz)).trans ((grown_base hg3 (by omega) (fun z hz => (HO.out.range z hz).1)))⟩
      case measure => simp [intOf]; omega
    · obtain rfl : k = m := by omega
      go_wp2
      go_ret
      exact ⟨_, _, _, rfl, HM.out, HO.out.base_le b0.size, below_go b0 hb⟩
set_option maxHeartbeats 2000000 in
set_option maxRecDepth 100000 in
theorem impl_touchRows {A : Option Addr} {n c st : Nat} {nm : ByteArray} {l : List ByteArray} {kb ks : ByteArray} {t : ByteArray} {w : World} (hn : l.length = n) (h : Strs w A l) (hk : goodK nm (st : Int) l kb ks = true) (hg : goodT t = true) :
    Calls Tryz.prog 46 #[.agg #[.string nm, .int .i64 st, .slice A n c], .agg #[.string kb, .string ks], .string t] w fun e w' => ∃ A' m' c', e = .returned (.tuple #[.slice A' m' c', .bool (decide (t.size * n ≤ 800))]) ∧ (t.size * n ≤ 800 → m' = t.size * n ∧ Owned strE 1 9 w' w.heap.size A' m' c' (tRows st l kb ks t t.size)) ∧ (¬ t.size * n ≤ 800 → A' = none ∧ m' = 0 ∧ c' = 0) ∧ Below w.heap.size w w' := by
  have b0 : Below w.heap.size w ((w.alloc (.cells ⟨[.string nm, .int .i64 st, .slice A n c]⟩ 34)).alloc (.cells ⟨[.string kb, .string ks]⟩ 36)) := by (repeat' (first | (with_reducible exact Below.refl _ _) | (with_reducible assumption) | (with_reducible refine below_drewN ?_ _) | (with_reducible refine Below.drew ?_) | (with_reducible refine below_alloc ?_ _) | (with_reducible refine Below.alloc ?_ ?_ _) | (with_reducible refine Below.setCell ?_ ?_ _) | (with_reducible refine below_go ?_ (by with_reducible assumption)) | (with_reducible refine below_then (by with_reducible assumption) ?_ ?_) | go_size))
  have K0 := (Blk.at_ w 34 [.string nm, .int .i64 st, .slice A n c] (b := w.heap.size) rfl).alloc (.cells ⟨[.string kb, .string ks]⟩ 36)
  have K1 := Blk.at_ (w.alloc (.cells ⟨[.string nm, .int .i64 st, .slice A n c]⟩ 34)) 36 [.string kb, .string ks] (b := w.heap.size + 1) (by simp)
  obtain ⟨h8, h40, _⟩ := goodK_all hk
  obtain ⟨ht1, ht60, _⟩ := goodT_t hg
  have hn40 : n ≤ 40 := by omega
  have hmul : t.size * n ≤ 2400 := Nat.le_trans (Nat.mul_le_mul ht60 hn40) (by decide)
  have hmI : ((t.size * n : Nat) : Int) = (t.size : Int) * (n : Int) := by push_cast; rfl
  have hwr : IntKind.i64.wrap ((t.size : Int) * (n : Int)) = (t.size : Int) * (n : Int) := wrap_id (by omega)
  go_in
  by_cases hle : t.size * n ≤ 800
  · have hI : ¬ (800 : Int) < (t.size : Int) * (n : Int) := by omega
    have ED := Lib.hid (decide_eq_true hle)
    clear hmI
    go_wp2_with fail
    obtain ⟨w0, hw0⟩ : ∃ u, u = ((w.alloc (.cells #[.string nm, .int .i64 st, .slice A n c] 34)).alloc (.cells #[.string kb, .string ks] 36)) := ⟨_, rfl⟩
    rw [← hw0] at b0 K0 K1 ⊢
    clear hw0
    have H0 := Lib.hid (h.up b0)
    have carry : Hid (∀ u : World, Below w0.heap.size w0 u → (u.cell? ⟨w.heap.size, 0, none⟩ = some (.string nm) ∧ u.cell? ⟨w.heap.size, 1, none⟩ = some (.int .i64 st) ∧ u.cell? ⟨w.heap.size, 2, none⟩ = some (.slice A n c)) ∧ u.cell? ⟨w.heap.size + 1, 0, none⟩ = some (.string kb) ∧ u.cell? ⟨w.heap.size + 1, 1, none⟩ = some (.string ks)) := Lib.hid (fun u hu => by
      have L0 := K0.up hu; have L1 := K1.up hu
      exact ⟨⟨by simpa using L0.cell 0, by simpa using L0.cell 1, by simpa using L0.cell 2⟩, by simpa using L1.cell 0, by simpa using L1.cell 1⟩)
    clear h K0 K1
    have hwk : IntKind.i64.wrap (t.size : Int) = (t.size : Int) := wrap_id (by omega)
    have hle3 : (0 : Int) ≤ (t.size : Int) := by omega
    go_region_held3 (fun u => (u.cell? ⟨w.heap.size, 0, none⟩ = some (.string nm) ∧ u.cell? ⟨w.heap.size, 1, none⟩ = some (.int .i64 st) ∧ u.cell? ⟨w.heap.size, 2, none⟩ = some (.slice A n c)) ∧ u.cell? ⟨w.heap.size + 1, 0, none⟩ = some (.string kb) ∧ u.cell? ⟨w.heap.size + 1, 1, none⟩ = some (.string ks)) (first | exact carry.out _ C2 | exact carry.out _ hb1 | exact carry.out _ (Below.refl _ _) | exact carry.out _ (Below.refl _ _).drew) (first | (go_at_call 67; ((refine (impl_leadsFrom hn (H0.out.up hb1) hk hR1 ht60).mono ?_); rintro e w2 ⟨A2, m2, c2, rfl, hm2, ho2, hb2⟩; have C2 := Below.step' hb1 (Nat.le_refl _) hb2)) | (go_at_call 27; ((refine (impl_heads hn H0.out.drew hk hg).mono ?_); rintro e w1 ⟨A1, c1, rfl, ho, hbd⟩; have hb1 := below_of_drew hbd; have hcp := ho.cap; have hcI : (t.size : Int) ≤ (c1 : Int) := (by omega); obtain ⟨g, rfl, _⟩ := ho.at_ (by omega); have hR1 : Strs w1 (some ⟨g, 0, none⟩) (hdsL st l kb ks t t.size) := (by have q := ho.recs.front t.size (by rw [hdsL_len]; omega); rw [hdsL_cut] at q; exact q))))
    subst hm2
    go_wp2
    go_ret2
    rw [ED.out]
    exact ⟨_, _, _, rfl, fun _ => ⟨rfl, ho2.base_le (below_go b0 hb1).size⟩, fun hc => absurd hle hc, below_go (below_go b0 hb1) hb2⟩
  · have hI : (800 : Int) < (t.size : Int) * (n : Int) := by omega
    have ED := Lib.hid (decide_eq_false hle)
    clear hmI
    go_wp2
    go_ret2
    rw [ED.out]
    exact ⟨none, 0, 0, rfl, fun hc => absurd hc hle, fun _ => ⟨rfl, rfl, rfl⟩, b0⟩
set_option maxHeartbeats 1000000 in
theorem impl_TouchRows {A : Option Addr} {n c : Nat} {nm : ByteArray} {st : Int} {l : List ByteArray} {kb ks : ByteArray} {t : ByteArray} {w : World} (hn : l.length = n) (h : Strs w A l) (hz : n ≤ 1048576) (hs : ∀ s ∈ l, s.size ≤ 16777216) (hnm : nm.size ≤ 16777216) (hst : I64 st) (hkb : kb.size ≤ 16777216) (hks : ks.size ≤ 16777216) (ht : t.size ≤ 16777216) :
    Calls Tryz.prog 24 #[.agg #[.string nm, .int .i64 st, .slice A n c], .agg #[.string kb, .string ks], .string t] w fun e w' => ∃ A' m' c', e = .returned (.tuple #[.slice A' m' c', .bool (rowsOk nm st l kb ks t)]) ∧ (rowsOk nm st l kb ks t = true → m' = t.size * n ∧ Owned strE 1 9 w' w.heap.size A' m' c' (tRows st.toNat l kb ks t t.size)) ∧ (rowsOk nm st l kb ks t = false → A' = none ∧ m' = 0 ∧ c' = 0) ∧ Below w.heap.size w w' := by
  have b0 : Below w.heap.size w ((w.alloc (.cells ⟨[.string nm, .int .i64 st, .slice A n c]⟩ 34)).alloc (.cells ⟨[.string kb, .string ks]⟩ 36)) := by (repeat' (first | (with_reducible exact Below.refl _ _) | (with_reducible assumption) | (with_reducible refine below_drewN ?_ _) | (with_reducible refine Below.drew ?_) | (with_reducible refine below_alloc ?_ _) | (with_reducible refine Below.alloc ?_ ?_ _) | (with_reducible refine Below.setCell ?_ ?_ _) | (with_reducible refine below_go ?_ (by with_reducible assumption)) | (with_reducible refine below_then (by with_reducible assumption) ?_ ?_) | go_size))
  have K0 := (Blk.at_ w 34 [.string nm, .int .i64 st, .slice A n c] (b := w.heap.size) rfl).alloc (.cells ⟨[.string kb, .string ks]⟩ 36)
  have K1 := Blk.at_ (w.alloc (.cells ⟨[.string nm, .int .i64 st, .slice A n c]⟩ 34)) 36 [.string kb, .string ks] (b := w.heap.size + 1) (by simp)
  have HQ : Hid (rowsOk nm st l kb ks t = (goodF nm st l kb ks t && decide (t.size * l.length ≤ 800))) := Lib.hid rfl
  go_in
  go_wp2_with fail
  obtain ⟨w0, hw0⟩ : ∃ u, u = ((w.alloc (.cells #[.string nm, .int .i64 st, .slice A n c] 34)).alloc (.cells #[.string kb, .string ks] 36)) := ⟨_, rfl⟩
  rw [← hw0] at b0 K0 K1 ⊢
  clear hw0
  refine (impl_goodFor hn (h.up b0) hz hs hnm hst hkb hks ht).mono ?_; rintro e w1 ⟨rfl, hb1⟩
  have hB1 := below_go b0 hb1
  rcases hf : goodF nm st l kb ks t
  · have e1 := Lib.hid (show rowsOk nm st l kb ks t = false by rw [HQ.out, hf]; rfl)
    go_wp2
    go_ret2
    rw [e1.out]
    exact ⟨none, 0, 0, rfl, fun h => (by cases h), fun _ => ⟨rfl, rfl, rfl⟩, hB1⟩
  · obtain ⟨hk, hg⟩ := goodF_t' hf
    obtain ⟨m, rfl⟩ : ∃ m : Nat, st = (m : Int) := ⟨st.toNat, by
      have := (goodM_t (goodK_t hk).1).2.1
      omega⟩
    have L0 := K0.up hb1; have L1 := K1.up hb1
    have k0 := L0.cell 0; have k1 := L0.cell 1; have k2 := L0.cell 2; have q0 := L1.cell 0; have q1 := L1.cell 1
    simp only [List.getElem?_cons_zero, List.getElem?_cons_succ] at k0 k1 k2 q0 q1
    have e1 := Lib.hid (show rowsOk nm m l kb ks t = decide (t.size * n ≤ 800) by rw [HQ.out, hf, hn]; rfl)
    go_wp2_with fail
    refine (impl_touchRows hn (h.up hB1) hk hg).mono ?_; rintro e w2 ⟨A2, m2, c2, rfl, hy2, hn2, hb2⟩
    have HY := Lib.hid hy2
    have HN := Lib.hid hn2
    clear hy2 hn2
    go_wp2
    go_ret2
    rw [e1.out]
    refine ⟨_, _, _, rfl, fun hc => ?_, fun hc => HN.out (of_decide_eq_false hc), below_go hB1 hb2⟩
    obtain ⟨y1, y2⟩ := HY.out (of_decide_eq_true hc)
    exact ⟨y1, y2.base_le hB1.size⟩
end Go.Proofs.YtoheahbkopbmhaaGreat
/- Faults of a touch, both sides. -/
namespace Go.Proofs.YtoheahbkopbmhaaGreat
set_option linter.unusedVariables false
set_option linter.unusedSimpArgs false
open Go.ChangeShapes Go.WideShapes Go.ChangeAt Go.RowKit Go.Deep
/-- Do two leads and two rows of a lead lie in a touch? -/
def inF (t n f0 f1 f2 f3 : Int) : Bool := inB f0 0 (t - 1) && (inB f2 0 (t - 1) && (inB f1 0 (n - 1) && inB f3 0 (n - 1)))
def cfV (nm : ByteArray) (st : Int) (l : List ByteArray) (kb ks t : ByteArray) (f0 f1 f2 f3 : Int) : Bool :=
  if rowsOk nm st l kb ks t = true ∧ inF t.size l.length f0 f1 f2 f3 = true then decide (f0 * l.length + f1 < f2 * l.length + f3) && decide ((tRows st.toNat l kb ks t t.size)[(f0 * l.length + f1).toNat]? = (tRows st.toNat l kb ks t t.size)[(f2 * l.length + f3).toNat]?) else false
theorem cfV_no {nm : ByteArray} {st : Int} {l : List ByteArray} {kb ks t : ByteArray} {f0 f1 f2 f3 : Int} (h : rowsOk nm st l kb ks t = false) : cfV nm st l kb ks t f0 f1 f2 f3 = false := by rw [cfV, if_neg (by rw [h]; simp)]
theorem cfV_out {nm : ByteArray} {st : Int} {l : List ByteArray} {kb ks t : ByteArray} {f0 f1 f2 f3 : Int} (h : inF t.size l.length f0 f1 f2 f3 = false) : cfV nm st l kb ks t f0 f1 f2 f3 = false := by rw [cfV, if_neg (by rw [h]; simp)]
theorem cfV_in {nm : ByteArray} {m : Nat} {l : List ByteArray} {kb ks t : ByteArray} {f0 f1 f2 f3 : Int} (h : rowsOk nm (m : Int) l kb ks t = true) (h2 : inF t.size l.length f0 f1 f2 f3 = true) {a b : Nat} (ha : f0 * l.length + f1 = a) (hb : f2 * l.length + f3 = b) {x y : ByteArray} (hx : (tRows m l kb ks t t.size)[a]? = some x) (hy : (tRows m l kb ks t t.size)[b]? = some y) :
    cfV nm m l kb ks t f0 f1 f2 f3 = (decide ((a : Int) < (b : Int)) && decide (x = y)) := by
  rw [cfV, if_pos ⟨h, h2⟩, ha, hb]
  simp only [Int.toNat_natCast, hx, hy, Option.some.injEq]
theorem inF_t {t n f0 f1 f2 f3 : Int} (h : inF t n f0 f1 f2 f3 = true) : (0 ≤ f0 ∧ f0 < t) ∧ (0 ≤ f1 ∧ f1 < n) ∧ (0 ≤ f2 ∧ f2 < t) ∧ 0 ≤ f3 ∧ f3 < n := by
  simp only [inF, Bool.and_eq_true] at h
  have h1 := inB_t h.1; have h2 := inB_t h.2.1; have h3 := inB_t h.2.2.1; have h4 := inB_t h.2.2.2
  omega
theorem dec_str (x y : ByteArray) : decide (x = y) = (x.toList == y.toList) := by
  rcases h : (x.toList == y.toList)
  · exact decide_eq_false (fun e => by subst e; simp at h)
  · have h1 : x.toList = y.toList := by simpa using h
    exact decide_eq_true (ba_ext (by rw [← ByteArray.toList_eq, ← ByteArray.toList_eq]; exact h1))
theorem spot_lt {a0 a1 t n : Nat} (h0 : a0 < t) (h1 : a1 < n) : a0 * n + a1 < t * n := by
  have := Nat.mul_le_mul (show a0 + 1 ≤ t by omega) (Nat.le_refl n)
  rw [Nat.succ_mul] at this
  omega
end Go.Proofs.YtoheahbkopbmhaaGreat
/- Signs: a change turns the sign of a row as often as it swaps; the sign of a product. -/
namespace Go.Proofs.YtoheahbkopbmhaaGreat
set_option linter.unusedVariables false
set_option linter.unusedSimpArgs false
open Go.ChangeShapes Go.WideShapes Go.ChangeAt Go.RowKit Go.Deep
def invs : List Int → Nat
  | [] => 0
  | x :: r => cnt x r + invs r
def gt (y : Int) (l : List Int) : Nat := l.countP fun z => decide (y < z)
theorem gt_cons (y z : Int) (l : List Int) : gt y (z :: l) = gt y l + (if y < z then 1 else 0) := by
  rw [gt, List.countP_cons, gt]
  by_cases h : y < z <;> simp [h]
theorem cnt_snoc (x y : Int) (l : List Int) : cnt x (l ++ [y]) = cnt x l + (if y < x then 1 else 0) := by
  rw [cnt, List.countP_append, cnt]
  by_cases h : y < x <;> simp [h]
theorem invs_snoc (y : Int) : ∀ l : List Int, invs (l ++ [y]) = invs l + gt y l
  | [] => by simp [invs, gt, cnt]
  | x :: r => by
    rw [List.cons_append, invs, invs_snoc y r, cnt_snoc, invs, gt_cons]
    omega
theorem drop_someZ {α : Type} {l : List α} {k : Nat} {x : α} (h : l[k]? = some x) : l.drop k = x :: l.drop (k + 1) := by
  rw [List.drop_eq_getElem_cons (List.getElem?_eq_some_iff.1 h).1, (List.getElem?_eq_some_iff.1 h).2]
def evB (n : Nat) : Bool := decide (n % 2 = 0)
theorem evB_succ (n : Nat) : evB (n + 1) = !evB n := by
  simp only [evB]
  by_cases h : n % 2 = 0
  · rw [decide_eq_true h, decide_eq_false (by omega)]; rfl
  · rw [decide_eq_false h, decide_eq_true (by omega)]; rfl
theorem tg_gt (s : ByteArray) (i : Nat) (c : Nat) : ∀ k, k ≤ s.size → tg s i k (evB c) = evB (c + gt (PlainAid.bt s i) ((nums s).take k))
  | 0, _ => by simp [tg, gt]
  | k + 1, h => by
    have ih := tg_gt s i c k (by omega)
    have e : (nums s).take (k + 1) = (nums s).take k ++ [PlainAid.bt s k] := take_succ_some (nums_at (by omega))
    have e2 : gt (PlainAid.bt s i) ((nums s).take k ++ [PlainAid.bt s k]) = gt (PlainAid.bt s i) ((nums s).take k) + (if PlainAid.bt s i < PlainAid.bt s k then 1 else 0) := by
      rw [gt, List.countP_append, gt]
      by_cases h : PlainAid.bt s i < PlainAid.bt s k <;> simp [h]
    rw [e, e2]
    by_cases hlt : PlainAid.bt s i < PlainAid.bt s k
    · rw [tg_yes hlt, ih, if_pos hlt, ← Nat.add_assoc, evB_succ]
    · rw [tg_no hlt, ih, if_neg hlt, Nat.add_zero]
theorem evo_invs (s : ByteArray) : ∀ k, k ≤ s.size → evo s k = evB (invs ((nums s).take k))
  | 0, _ => by simp [evo, invs, evB]
  | k + 1, h => by
    have e : (nums s).take (k + 1) = (nums s).take k ++ [PlainAid.bt s k] := take_succ_some (nums_at (by omega))
    rw [evo, evo_invs s k (by omega), tg_gt s k _ k (by omega), e, invs_snoc]
theorem even_invs (s : ByteArray) : evenRow s = evB (invs (nums s)) := by
  rw [evenRow, evo_invs s _ (Nat.le_refl _), List.take_of_length_le (by rw [nums_len]; exact Nat.le_refl _)]
theorem cnt_swap (z x y : Int) (q : List Int) : cnt z (x :: y :: q) = cnt z (y :: x :: q) := by
  rw [cnt_cons, cnt_cons, cnt_cons, cnt_cons]; omega
theorem invs_swap {x y : Int} (h : x ≠ y) (q : List Int) : ∀ p : List Int, evB (invs (p ++ x :: y :: q)) = !evB (invs (p ++ y :: x :: q))
  | [] => by
    simp only [List.nil_append, invs, cnt_cons]
    rcases Int.lt_or_lt_of_ne h with h1 | h1
    · rw [if_neg (by omega), if_pos h1]
      rw [show cnt x q + 0 + (cnt y q + invs q) = cnt x q + cnt y q + invs q by omega, show cnt y q + 1 + (cnt x q + invs q) = (cnt x q + cnt y q + invs q) + 1 by omega, evB_succ, Bool.not_not]
    · rw [if_pos h1, if_neg (by omega)]
      rw [show cnt x q + 1 + (cnt y q + invs q) = (cnt x q + cnt y q + invs q) + 1 by omega, show cnt y q + 0 + (cnt x q + invs q) = cnt x q + cnt y q + invs q by omega, evB_succ]
  | z :: p => by
    have ih := invs_swap h q p
    have hc : cnt z (p ++ x :: y :: q) = cnt z (p ++ y :: x :: q) := by
      rw [cnt, cnt, List.countP_append, List.countP_append]
      congr 1
      exact cnt_swap z x y q
    have key : ∀ a b c : Nat, evB a = !evB b → evB (c + a) = !evB (c + b) := fun a b c e => by
      induction c with
      | zero => simpa using e
      | succ c ih => rw [Nat.add_right_comm, Nat.add_right_comm c 1 b, evB_succ, evB_succ, ih]
    rw [List.cons_append, List.cons_append, invs, invs, hc]
    exact key _ _ _ ih
theorem invs_set {l : List Int} {p : Nat} {x y : Int} (hx : l[p]? = some x) (hy : l[p + 1]? = some y) (h : x ≠ y) : evB (invs ((l.set p y).set (p + 1) x)) = !evB (invs l) := by
  have hp := (List.getElem?_eq_some_iff.1 hy).1
  have e1 : l = l.take p ++ x :: y :: l.drop (p + 2) := by
    conv => lhs; rw [← List.take_append_drop p l]
    congr 1
    rw [drop_someZ hx, drop_someZ hy]
  have e2 : (l.set p y).set (p + 1) x = l.take p ++ y :: x :: l.drop (p + 2) := by
    have ht : (l.take p).length = p := by rw [List.length_take]; omega
    conv => lhs; rw [e1]
    rw [List.set_append_right _ _ (by omega), ht, Nat.sub_self, List.set_cons_zero, List.set_append_right _ _ (by omega), ht, Nat.add_sub_cancel_left, List.set_cons_succ, List.set_cons_zero]
  rw [e2, invs_swap (fun e => h e.symm)]
  conv => rhs; rw [e1]
/-- How often the first k swaps turn. -/
theorem rowV_take {n : Nat} {sw : List Int} (hin : ∀ x ∈ sw, ((1 : Nat) : Int) ≤ x ∧ x < n) (hfar : sw.Pairwise fun x y => x + 2 ≤ y) {a : ByteArray} (ha : isRowL (nums a)) (hn : a.size = n) :
    ∀ k, k ≤ sw.length → evB (invs ((rowV n (sw.take k)).map fun z => PlainAid.bt a (z - 49).toNat)) = (evB (invs (nums a)) == evB k)
  | 0, _ => by
    have e : ((rowV n []).map fun z => PlainAid.bt a (z - 49).toNat) = nums a := by
      apply List.ext_getElem (by rw [List.length_map, rowV_len, nums_len, hn])
      intro i h1 h2
      simp only [rowV, List.getElem_map, List.getElem_range, nums]
      congr 1
      simp [cval]
      omega
    rw [List.take_zero, e]
    rcases evB (invs (nums a)) <;> rfl
  | k + 1, h => by
    have ih := rowV_take hin hfar ha hn k (by omega)
    have hy : sw[k]? = some sw[k] := List.getElem?_eq_getElem (by omega)
    have hyin := hin _ (List.mem_of_getElem? hy)
    obtain ⟨q, hq⟩ : ∃ q : Nat, sw[k] = (q : Int) + 1 := ⟨(sw[k] - 1).toNat, by omega⟩
    have hqn : q + 1 < n := by omega
    have hfr : ∀ x ∈ sw.take k, x + 2 ≤ ((q + 1 : Nat) : Int) := fun x hx => by have := take_far hfar hy x hx; omega
    have hpl := rowV_plain hqn hfr
    have ht : sw.take (k + 1) = sw.take k ++ [((q + 1 : Nat) : Int)] := by rw [take_succ_some hy, hq]; rfl
    rw [ht, rowV_step (p := q + 1) (by omega) hqn hfr, Nat.add_sub_cancel, List.map_set, List.map_set]
    have b1 : PlainAid.bt a ((49 + ((q + 1 : Nat) : Int)) - 49).toNat = PlainAid.bt a (q + 1) := by congr 1; omega
    have b2 : PlainAid.bt a ((48 + ((q + 1 : Nat) : Int)) - 49).toNat = PlainAid.bt a q := by congr 1; omega
    have b3 : PlainAid.bt a ((49 + (q : Int)) - 49).toNat = PlainAid.bt a q := by congr 1; omega
    have b4 : PlainAid.bt a ((49 + ((q : Int) + 1)) - 49).toNat = PlainAid.bt a (q + 1) := by congr 1; omega
    rw [b1, b2]
    have m1 : ((rowV n (sw.take k)).map fun z => PlainAid.bt a (z - 49).toNat)[q]? = some (PlainAid.bt a q) := by
      rw [List.getElem?_map, hpl.1]
      show some (PlainAid.bt a ((49 + (q : Int)) - 49).toNat) = _
      rw [b3]
    have m2 : ((rowV n (sw.take k)).map fun z => PlainAid.bt a (z - 49).toNat)[q + 1]? = some (PlainAid.bt a (q + 1)) := by
      rw [List.getElem?_map, hpl.2]
      show some (PlainAid.bt a ((49 + ((q : Int) + 1)) - 49).toNat) = _
      rw [b4]
    have hne : PlainAid.bt a q ≠ PlainAid.bt a (q + 1) := by
      have hp := ha.1
      rw [List.nodup_iff_pairwise_ne, List.pairwise_iff_getElem] at hp
      have := hp q (q + 1) (by rw [nums_len]; omega) (by rw [nums_len]; omega) (by omega)
      have h1 := nums_at (s := a) (k := q) (by omega); have h2 := nums_at (s := a) (k := q + 1) (by omega)
      rw [List.getElem?_eq_getElem (by rw [nums_len]; omega)] at h1 h2
      injection h1 with h1; injection h2 with h2
      rw [← h1, ← h2]; exact this
    rw [invs_set m1 m2 hne, ih, evB_succ]
    rcases evB (invs (nums a)) <;> rcases evB k <;> rfl
theorem sign_apply {a : ByteArray} (h : goodRow a = true) (c : ByteArray) : evenRow (applyR a c) = (evenRow a == evenSwaps a.size c) := by
  have hn := goodRow_n h
  have hr := goodRow_list h
  have h2 := rowL_times hr (by rw [chRow, nums_strOf (rowL_bytes (rowL_ch a.size c) (by rw [rowV_len]; omega))]; exact rowL_ch a.size c) (chRow_size a.size c).symm
  have e1 : nums (applyR a c) = (rowV a.size (swaps a.size c)).map fun z => PlainAid.bt a (z - 49).toNat := by
    rw [applyR, timesS, nums_strOf (rowL_bytes h2 (by rw [timesL_len, chRow_size]; omega)), timesL, chRow, nums_strOf (rowL_bytes (rowL_ch a.size c) (by rw [rowV_len]; omega))]
  have e2 := rowV_take (sws_in (stays c) a.size 1) (sws_far (stays c) a.size 1) hr rfl (swaps a.size c).length (Nat.le_refl _)
  rw [show sws (stays c) a.size 1 = swaps a.size c from rfl, List.take_of_length_le (Nat.le_refl _)] at e2
  rw [even_invs, e1, e2, even_invs]
  rfl
/-! products -/
theorem nums_times {a b : ByteArray} (h : goodRow a = true) (g : goodRow b = true) (e : a.size = b.size) : nums (timesS a b) = timesL a b := by
  have hn := goodRow_n h
  rw [timesS, nums_strOf (rowL_bytes (rowL_times (goodRow_list h) (goodRow_list g) e) (by rw [timesL_len]; omega))]
theorem times_assoc {a b c : ByteArray} (ha : goodRow a = true) (hb : goodRow b = true) (hc : goodRow c = true) (e1 : a.size = b.size) (e2 : b.size = c.size) : timesS a (timesS b c) = timesS (timesS a b) c := by
  suffices h : timesL a (timesS b c) = timesL (timesS a b) c by
    show strOfNums (timesL a (timesS b c)) = strOfNums (timesL (timesS a b) c)
    rw [h]
  show (nums (timesS b c)).map _ = (nums c).map _
  rw [nums_times hb hc e2, timesL, List.map_map]
  apply List.map_congr_left
  intro z hz
  have hz2 := (goodRow_list hc).2 z hz
  rw [nums_len] at hz2
  have hk : (z - 49).toNat < b.size := by omega
  have h1 := timesL_at (a := a) hk
  rw [← nums_times ha hb e1, nums_at (by rw [timesS, strOfNums_size, timesL_len]; exact hk)] at h1
  injection h1 with h1
  rw [h1]; rfl
theorem times_rounds {a : ByteArray} (h : goodRow a = true) : timesS a (roundsS a.size) = a := by
  have hn := goodRow_n h
  apply nums_inj
  rw [nums_times h (good_rounds _ (by omega) (by omega)) (rounds_size _ (by omega)).symm, timesL, rowV_nil _ (by omega)]
  apply List.ext_getElem (by rw [List.length_map, rowV_len, nums_len])
  intro i h1 h2
  simp only [rowV, List.getElem_map, List.getElem_range, nums]
  congr 1
  simp [cval]
  omega
theorem times_apply {a b : ByteArray} (ha : goodRow a = true) (hb : goodRow b = true) (e : a.size = b.size) (c : ByteArray) : timesS a (applyR b c) = applyR (timesS a b) c := by
  have hs : (timesS a b).size = b.size := by rw [timesS, strOfNums_size, timesL_len]
  rw [applyR, applyR, hs, times_assoc ha hb (good_ch (goodRow_n hb) c) e (chRow_size _ _).symm]
theorem sign_times_rAt {a : ByteArray} (ha : goodRow a = true) (l : List ByteArray) : ∀ k, evenRow (timesS a (rAt (roundsS a.size) l k)) = (evenRow a == evenRow (rAt (roundsS a.size) l k))
  | 0 => by
    rw [rAt, times_rounds ha]
    have : ∀ n, n < 9 → evenRow (roundsS n) = true := of_decide_eq_true (by kernel_rfl)
    rw [this _ (by have := goodRow_n ha; omega)]
    rcases evenRow a <;> rfl
  | k + 1 => by
    have hn := goodRow_n ha
    have hg := good_rAt (good_rounds a.size (by omega) (by omega)) l k
    have hs : (rAt (roundsS a.size) l k).size = a.size := by rw [rAt_size, rounds_size _ (by omega)]
    have ht : (timesS a (rAt (roundsS a.size) l k)).size = a.size := by rw [timesS, strOfNums_size, timesL_len, hs]
    rw [rAt, times_apply ha hg hs.symm, sign_apply (good_times ha hg hs.symm), sign_apply hg, sign_times_rAt ha l k, ht, hs]
    rcases evenRow a <;> rcases evenRow (rAt (roundsS a.size) l k) <;> rcases evenSwaps a.size _ <;> rfl
theorem sign_times_head {a : ByteArray} (ha : goodRow a = true) {l : List ByteArray} (x : ByteArray) (h : 0 < l.length) : evenRow (timesS a (headX a.size l x)) = (evenRow a == evenRow (headX a.size l x)) := by
  have := sign_times_rAt ha (l.set (l.length - 1) x) l.length
  rwa [headX_set h] at this
end Go.Proofs.YtoheahbkopbmhaaGreat
/- The sign of a touch, the reference's side. -/
namespace Go.Proofs.YtoheahbkopbmhaaGreat
set_option linter.unusedVariables false
set_option linter.unusedSimpArgs false
open Go.ChangeShapes Go.WideShapes Go.ChangeAt Go.RowKit Go.Deep
/-- The sign of the last head. -/
def tsV (nm : ByteArray) (st : Int) (l : List ByteArray) (kb ks t : ByteArray) : Bool := if goodF nm st l kb ks t = true then evenRow (hdAt st.toNat l kb ks t t.size) else false
theorem tsV_f {nm : ByteArray} {st : Int} {l : List ByteArray} {kb ks t : ByteArray} (h : goodF nm st l kb ks t = false) : tsV nm st l kb ks t = false := by rw [tsV, if_neg (by rw [h]; simp)]
theorem tsV_t {nm : ByteArray} {st : Nat} {l : List ByteArray} {kb ks t : ByteArray} (h : goodF nm (st : Int) l kb ks t = true) : tsV nm st l kb ks t = evenRow (hdAt st l kb ks t t.size) := by rw [tsV, if_pos h]; rfl
theorem goodF_t {nm : ByteArray} {st : Int} {l : List ByteArray} {kb ks t : ByteArray} (h : goodF nm st l kb ks t = true) : goodK nm st l kb ks = true ∧ goodT t = true := by
  rw [goodF, Bool.and_eq_true] at h; exact h
theorem ev_step {nm : ByteArray} {st : Nat} {l : List ByteArray} {kb ks t : ByteArray} (h : goodK nm (st : Int) l kb ks = true) (k : Nat) :
    evenRow (hdAt st l kb ks t (k + 1)) = (evenRow (hdAt st l kb ks t k) == evenRow (callHd st l kb ks (letter t k))) := by
  obtain ⟨h8, h40, _⟩ := goodK_all h
  have g := hdAt_good h8.1 h8.2 l kb ks t k
  have e := sign_times_head g.1 (chOf l kb ks (letter t k)) (l := l) (by omega)
  rw [g.2] at e
  exact e
theorem ev_zero {st : Nat} (h : 3 ≤ st) (h8 : st ≤ 8) (l : List ByteArray) (kb ks t : ByteArray) : evenRow (hdAt st l kb ks t 0) = true := by
  rw [hdAt]
  have : ∀ n : Nat, n < 9 → 3 ≤ n → evenRow (roundsS n) = true := by decide +kernel
  exact this st (by omega) h
end Go.Proofs.YtoheahbkopbmhaaGreat
/- The sign of a touch, the program's side. -/
namespace Go.Proofs.YtoheahbkopbmhaaGreat
set_option linter.unusedVariables false
set_option linter.unusedSimpArgs false
open Go.ChangeShapes Go.WideShapes Go.ChangeAt Go.RowKit Go.Deep
set_option maxRecDepth 100000 in
theorem impl_touchEnd {A : Option Addr} {n c st : Nat} {nm : ByteArray} {l : List ByteArray} {kb ks : ByteArray} {t : ByteArray} {w : World} (hn : l.length = n) (h : Strs w A l) (hk : goodK nm (st : Int) l kb ks = true) (hg : goodT t = true) :
    Calls Tryz.prog 47 #[.agg #[.string nm, .int .i64 st, .slice A n c], .agg #[.string kb, .string ks], .string t] w fun e w' => e = .returned (.string (hdAt st l kb ks t t.size)) ∧ Below w.heap.size w w' := by
  have b0 : Below w.heap.size w ((w.alloc (.cells ⟨[.string nm, .int .i64 st, .slice A n c]⟩ 34)).alloc (.cells ⟨[.string kb, .string ks]⟩ 36)) := by (repeat' (first | (with_reducible exact Below.refl _ _) | (with_reducible assumption) | (with_reducible refine below_drewN ?_ _) | (with_reducible refine Below.drew ?_) | (with_reducible refine below_alloc ?_ _) | (with_reducible refine Below.alloc ?_ ?_ _) | (with_reducible refine Below.setCell ?_ ?_ _) | (with_reducible refine below_go ?_ (by with_reducible assumption)) | (with_reducible refine below_then (by with_reducible assumption) ?_ ?_) | go_size))
  have h60 := (goodT_t hg).2.1
  go_in
  go_wp2_with fail
  refine (impl_heads hn (h.up b0) hk hg).mono ?_; rintro e w1 ⟨A1, c1, rfl, ho, hb1⟩
  obtain ⟨g, rfl, _, _, gc, _⟩ := ho.at_ (by omega)
  have cg := gc t.size _ 0 _ (hdsL_at (Nat.lt_succ_self _)) rfl
  simp only [Nat.mul_one, Nat.add_zero] at cg
  clear gc
  go_wp2
  go_ret
  exact ⟨rfl, below_go b0 hb1⟩
end Go.Proofs.YtoheahbkopbmhaaGreat
/- The heads of a proof, both sides. -/
namespace Go.Proofs.YtoheahbkopbmhaaGreat
set_option linter.unusedVariables false
set_option linter.unusedSimpArgs false
open Go.ChangeShapes Go.WideShapes Go.ChangeAt Go.RowKit Go.Deep
set_option maxHeartbeats 1000000 in
theorem spec_CallHead {A : Option Addr} {n c st : Nat} {nm : ByteArray} {l : List ByteArray} {kb ks : ByteArray} {s : ByteArray} {w : World} (hn : l.length = n) (h : Strs w A l) (hk : goodK nm (st : Int) l kb ks = true) (hcap : n ≤ c) (hc : isCl s = true) :
    Calls Tryz.prog 40 #[.agg #[.string nm, .int .i64 st, .slice A n c], .agg #[.string kb, .string ks], .string s] w fun e w' => e = .returned (.tuple #[.string (callHd st l kb ks s), .bool true]) ∧ Below w.heap.size w w' := by
  have b0 : Below w.heap.size w ((w.alloc (.cells ⟨[.string nm, .int .i64 st, .slice A n c]⟩ 34)).alloc (.cells ⟨[.string kb, .string ks]⟩ 36)) := by (repeat' (first | (with_reducible exact Below.refl _ _) | (with_reducible assumption) | (with_reducible refine below_drewN ?_ _) | (with_reducible refine Below.drew ?_) | (with_reducible refine below_alloc ?_ _) | (with_reducible refine Below.alloc ?_ ?_ _) | (with_reducible refine Below.setCell ?_ ?_ _) | (with_reducible refine below_go ?_ (by with_reducible assumption)) | (with_reducible refine below_then (by with_reducible assumption) ?_ ?_) | go_size))
  have K0 := (Blk.at_ w 34 [.string nm, .int .i64 st, .slice A n c] (b := w.heap.size) rfl).alloc (.cells ⟨[.string kb, .string ks]⟩ 36)
  have K1 := Blk.at_ (w.alloc (.cells ⟨[.string nm, .int .i64 st, .slice A n c]⟩ 34)) 36 [.string kb, .string ks] (b := w.heap.size + 1) (by simp)
  obtain ⟨h8, h40, hgl, hgb, hgs⟩ := goodK_all hk
  have HS := Lib.hid (fun (s' : ByteArray) (hs' : s' ∈ l) => show s'.size ≤ 16777216 from by have := goodChange_small (hgl s' hs'); omega)
  have sk1 := goodChange_small hgb
  have sk2 := goodChange_small hgs
  have hI : I64 (st : Int) := by unfold I64; omega
  have hnm : nm.size ≤ 16777216 := by
    have h1 := (goodM_t (goodK_t hk).1).1
    rw [nameOk, Bool.and_eq_true] at h1
    have := inB_t h1.2
    omega
  clear hgl hgb hgs
  have e1 := Lib.hid (show (goodK nm st l kb ks && isCl s) = true by rw [hk, hc]; rfl)
  go_in
  go_wp2_with fail
  obtain ⟨w0, hw0⟩ : ∃ u, u = ((w.alloc (.cells #[.string nm, .int .i64 st, .slice A n c] 34)).alloc (.cells #[.string kb, .string ks] 36)) := ⟨_, rfl⟩
  rw [← hw0] at b0 K0 K1 ⊢
  clear hw0
  refine (spec_l8Asked (s := s) hn (h.up b0) (by omega) HS.out hnm hI (by omega) (by omega)).mono ?_; rw [e1.out]; rintro e w1 ⟨rfl, hb1⟩
  have hB1 := below_go b0 hb1
  have L0 := K0.up hb1; have L1 := K1.up hb1
  have k0 := L0.cell 0; have k1 := L0.cell 1; have k2 := L0.cell 2; have q0 := L1.cell 0; have q1 := L1.cell 1
  simp only [List.getElem?_cons_zero, List.getElem?_cons_succ] at k0 k1 k2 q0 q1
  go_wp2_with fail
  refine (spec_l8Head (s := s) hn (h.up hB1) hk hcap).mono ?_; rintro e w2 ⟨rfl, hb2⟩
  go_wp2
  go_ret2
  exact ⟨rfl, below_go hB1 hb2⟩
set_option maxHeartbeats 1000000 in
theorem spec_l20Asked {A : Option Addr} {n c : Nat} {nm : ByteArray} {st : Int} {l : List ByteArray} {kb ks : ByteArray} {t : ByteArray} {w : World} (hn : l.length = n) (h : Strs w A l) (hz : n ≤ 1048576) (hs : ∀ s ∈ l, s.size ≤ 16777216) (hnm : nm.size ≤ 16777216) (hst : I64 st) (hkb : kb.size ≤ 16777216) (hks : ks.size ≤ 16777216) (ht : t.size ≤ 16777216) :
    Calls Tryz.prog 16 #[.agg #[.string nm, .int .i64 st, .slice A n c], .agg #[.string kb, .string ks], .string t] w fun e w' => e = .returned (.bool (goodF nm st l kb ks t)) ∧ Below w.heap.size w w' := by
  have HQ : Hid (goodF nm st l kb ks t = (goodK nm st l kb ks && goodT t)) := Lib.hid rfl
  have HK : Hid (goodK nm st l kb ks = (goodM nm st l && (goodChange st kb && goodChange st ks))) := Lib.hid rfl
  have b0 : Below w.heap.size w ((w.alloc (.cells ⟨[.string nm, .int .i64 st, .slice A n c]⟩ 34)).alloc (.cells ⟨[.string kb, .string ks]⟩ 36)) := by (repeat' (first | (with_reducible exact Below.refl _ _) | (with_reducible assumption) | (with_reducible refine below_drewN ?_ _) | (with_reducible refine Below.drew ?_) | (with_reducible refine below_alloc ?_ _) | (with_reducible refine Below.alloc ?_ ?_ _) | (with_reducible refine Below.setCell ?_ ?_ _) | (with_reducible refine below_go ?_ (by with_reducible assumption)) | (with_reducible refine below_then (by with_reducible assumption) ?_ ?_) | go_size))
  have K0 := (Blk.at_ w 34 [.string nm, .int .i64 st, .slice A n c] (b := w.heap.size) rfl).alloc (.cells ⟨[.string kb, .string ks]⟩ 36)
  have K1 := Blk.at_ (w.alloc (.cells ⟨[.string nm, .int .i64 st, .slice A n c]⟩ 34)) 36 [.string kb, .string ks] (b := w.heap.size + 1) (by simp)
  go_in
  go_wp2_with fail
  obtain ⟨w0, hw0⟩ : ∃ u, u = ((w.alloc (.cells #[.string nm, .int .i64 st, .slice A n c] 34)).alloc (.cells #[.string kb, .string ks] 36)) := ⟨_, rfl⟩
  rw [← hw0] at b0 K0 K1 ⊢
  clear hw0
  refine (spec_l4Good hn (h.up b0) hz hs hnm hst).mono ?_; rintro e w1 ⟨rfl, hb1⟩
  have hB1 := below_go b0 hb1
  rcases h0 : goodM nm st l
  · have e1 := Lib.hid (show goodF nm st l kb ks t = false by rw [HQ.out, HK.out, h0]; rfl)
    go_wp2
    go_ret
    rw [e1.out]
    exact ⟨rfl, hB1⟩
  have L0 := K0.up hb1; have L1 := K1.up hb1
  have k0 := L0.cell 0; have k1 := L0.cell 1; have k2 := L0.cell 2; have q0 := L1.cell 0; have q1 := L1.cell 1
  simp only [List.getElem?_cons_zero, List.getElem?_cons_succ] at k0 k1 k2 q0 q1
  go_wp2_with fail
  refine (spec_GoodCalls hn (h.up hB1) hz hs hnm hst hkb hks).mono ?_; rintro e w2 ⟨rfl, hb2⟩
  have hB2 := below_go hB1 hb2
  clear k0 k1 k2 q0 q1
  rcases h1 : goodK nm st l kb ks
  · have e1 := Lib.hid (show goodF nm st l kb ks t = false by rw [HQ.out, h1]; rfl)
    go_wp2
    go_ret
    rw [e1.out]
    exact ⟨rfl, hB2⟩
  · have e1 := Lib.hid (show goodF nm st l kb ks t = goodT t by rw [HQ.out, h1]; rfl)
    go_wp2_with fail
    refine (spec_GoodTouch ht).mono ?_; rintro e w' ⟨rfl, rfl⟩
    go_wp2
    go_ret
    rw [e1.out]
    exact ⟨rfl, hB2⟩
set_option maxHeartbeats 2000000 in
set_option maxRecDepth 100000 in
theorem spec_l20Heads {A : Option Addr} {n c st : Nat} {nm : ByteArray} {l : List ByteArray} {kb ks : ByteArray} {t : ByteArray} {w : World} (hn : l.length = n) (h : Strs w A l) (hk : goodK nm (st : Int) l kb ks = true) (hg : goodT t = true) (hcap : n ≤ c) :
    Calls Tryz.prog 17 #[.agg #[.string nm, .int .i64 st, .slice A n c], .agg #[.string kb, .string ks], .string t] w fun e w' => ∃ A' c', e = .returned (.slice A' (t.size + 1) c') ∧ Owned strE 1 9 w' w.heap.size A' (t.size + 1) c' (hdsL st l kb ks t (t.size + 1)) ∧ Below w.heap.size w w' := by
  have b0 : Below w.heap.size w ((w.alloc (.cells ⟨[.string nm, .int .i64 st, .slice A n c]⟩ 34)).alloc (.cells ⟨[.string kb, .string ks]⟩ 36)) := by (repeat' (first | (with_reducible exact Below.refl _ _) | (with_reducible assumption) | (with_reducible refine below_drewN ?_ _) | (with_reducible refine Below.drew ?_) | (with_reducible refine below_alloc ?_ _) | (with_reducible refine Below.alloc ?_ ?_ _) | (with_reducible refine Below.setCell ?_ ?_ _) | (with_reducible refine below_go ?_ (by with_reducible assumption)) | (with_reducible refine below_then (by with_reducible assumption) ?_ ?_) | go_size))
  have K0 := (Blk.at_ w 34 [.string nm, .int .i64 st, .slice A n c] (b := w.heap.size) rfl).alloc (.cells ⟨[.string kb, .string ks]⟩ 36)
  have K1 := Blk.at_ (w.alloc (.cells ⟨[.string nm, .int .i64 st, .slice A n c]⟩ 34)) 36 [.string kb, .string ks] (b := w.heap.size + 1) (by simp)
  obtain ⟨h8, h40, _⟩ := goodK_all hk
  obtain ⟨ht1, ht60, htl⟩ := goodT_t hg
  have HL := Lib.hid htl
  have gb := PlainAid.get_bt t
  clear htl
  go_in
  go_wp2_with fail
  obtain ⟨w1, hw1⟩ : ∃ u, u = ((w.alloc (.cells #[.string nm, .int .i64 st, .slice A n c] 34)).alloc (.cells #[.string kb, .string ks] 36)) := ⟨_, rfl⟩
  rw [← hw1] at b0 K0 K1 ⊢
  clear hw1
  have H0 := Lib.hid (h.up b0)
  have carry : Hid (∀ u : World, Below w1.heap.size w1 u → (u.cell? ⟨w.heap.size, 0, none⟩ = some (.string nm) ∧ u.cell? ⟨w.heap.size, 1, none⟩ = some (.int .i64 st) ∧ u.cell? ⟨w.heap.size, 2, none⟩ = some (.slice A n c)) ∧ u.cell? ⟨w.heap.size + 1, 0, none⟩ = some (.string kb) ∧ u.cell? ⟨w.heap.size + 1, 1, none⟩ = some (.string ks)) := Lib.hid (fun u hu => by
    have L0 := K0.up hu; have L1 := K1.up hu
    exact ⟨⟨by simpa using L0.cell 0, by simpa using L0.cell 1, by simpa using L0.cell 2⟩, by simpa using L1.cell 0, by simpa using L1.cell 1⟩)
  clear h K0 K1
  have PG := Lib.hid (callHd_good hk)
  have HD := Lib.hid (fun k => hdAt_good h8.1 h8.2 l kb ks t k)
  have H1 : Hid (Owned strE 1 9 (w1.alloc (.cells #[.string (roundsS st)] 9)) w1.heap.size (some ⟨w1.heap.size, 0, none⟩) 1 1 (hdsL st l kb ks t 1)) := Lib.hid ⟨strE_len, by simp [hdsL], by simpa [hdsL, hdAt, strE] using World.ownsRow_lit (e := 9) (base := w1.heap.size) (size := 1) w1 #[.string (roundsS st)] 1 (Nat.le_refl _) (by decide) (by simp)⟩
  refine (spec_l1Rounds h8.2).mono ?_; rintro e w' ⟨rfl, rfl⟩
  go_wp2
  go_loopw [7, 8, 9] (fun r v i wr => ∃ (k : Nat) (A' : Option Addr) (m c' : Nat), k ≤ t.size ∧ i = .int .i64 k ∧ r = .string (hdAt st l kb ks t k) ∧ v = .slice A' m c' ∧ m = k + 1 ∧ Owned strE 1 9 wr w1.heap.size A' m c' (hdsL st l kb ks t (k + 1)) ∧ Below w1.heap.size w1 wr) (fun _ _ i _ => t.size - (intOf i).toNat)
  case atStart => exact ⟨0, _, _, _, Nat.zero_le _, rfl, rfl, rfl, rfl, H1.out, by (repeat' (first | (with_reducible exact Below.refl _ _) | (with_reducible assumption) | (with_reducible refine below_drewN ?_ _) | (with_reducible refine Below.drew ?_) | (with_reducible refine below_alloc ?_ _) | (with_reducible refine Below.alloc ?_ ?_ _) | (with_reducible refine Below.setCell ?_ ?_ _) | (with_reducible refine below_go ?_ (by with_reducible assumption)) | (with_reducible refine below_then (by with_reducible assumption) ?_ ?_) | go_size))⟩
  case round =>
    obtain ⟨k, A', m, c', hk1, rfl, rfl, rfl, rfl, ho, hb⟩ := hrel
    have HO := Lib.hid ho
    have hsz := hb.size
    clear ho
    by_cases hlt : k < t.size
    · have p1 := PG.out (letter t k)
      have p2 := HD.out k
      have z1 : (hdAt st l kb ks t k).size ≤ 16777216 := by rw [p2.2]; omega
      have z2 : (callHd st l kb ks (letter t k)).size ≤ 16777216 := by rw [p1.2]; omega
      have hf : fits (hdAt st l kb ks t k) (callHd st l kb ks (letter t k)) := fits_good p1.1 (by rw [p1.2, p2.2])
      have hc := Lib.hid (show isCl (letter t k) = true by rw [isCl_letter hlt]; exact HL.out k hlt)
      have E := Lib.hid (show timesS (hdAt st l kb ks t k) (callHd st l kb ks (letter t k)) = hdAt st l kb ks t (k + 1) from rfl)
      have HT := Lib.hid (hdsL_succ st l kb ks t (k + 1))
      clear p1 p2
      have hwk : IntKind.i64.wrap ((k : Int) + 1) = (k : Int) + 1 := wrap_id (by omega)
      have hle1 : (k : Int) + 1 ≤ (t.size : Int) := by omega
      have hle2 : (k : Int) ≤ (k : Int) + 1 := by omega
      have hle3 : (0 : Int) ≤ (k : Int) := by omega
      have HB := Lib.hid hb
      go_wp2_with fail
      go_region_held3 (fun u => (u.cell? ⟨w.heap.size, 0, none⟩ = some (.string nm) ∧ u.cell? ⟨w.heap.size, 1, none⟩ = some (.int .i64 st) ∧ u.cell? ⟨w.heap.size, 2, none⟩ = some (.slice A n c)) ∧ u.cell? ⟨w.heap.size + 1, 0, none⟩ = some (.string kb) ∧ u.cell? ⟨w.heap.size + 1, 1, none⟩ = some (.string ks)) (first | exact carry.out _ C2 | exact carry.out _ HB.out | exact carry.out _ HB.out.drew) (first | (go_at_call 40; refine (spec_CallHead (s := letter t k) hn ((H0.out.below HB.out (Nat.le_refl _)).drew) hk hcap hc.out).mono ?_; rintro e w2 ⟨rfl, hbd2⟩; have hb2 := below_of_drew hbd2; have C2 := HB.out.trans (hb2.mono HB.out.size); have HO1 := Lib.hid (HO.out.up hb2); have hsz1 := hb2.size))
      go_wp2_with (first | (go_at_call 41; refine (spec_l1Times z1 z2 hf).mono ?_; rw [E.out]; rintro e w' ⟨rfl, rfl⟩) | (at_builtin; go_must ((refine wpList_append_rec Tryz.elStr rfl (.tmp 37) (.tmp 39) rfl rfl (HO1.out.alloc _) (hdAt st l kb ks t (k + 1)) rfl (Box.at_ _ [.string (hdAt st l kb ks t (k + 1))] _ ?_) (strE_one _) ?_ (by decide) ?_ ?_; (focus (first | omega | (simp only [World.size_alloc]; done) | (simp only [World.size_alloc]; omega) | (simp; done) | (simp; omega))); (focus (first | omega | (simp only [World.size_alloc]; done) | (simp only [World.size_alloc]; omega) | (simp; done) | (simp; omega))); (focus (first | omega | (simp only [World.size_alloc]; done) | (simp only [World.size_alloc]; omega) | (simp; done) | (simp; omega))); intro A2 c2 w3 ho3 hg3 hb3))))
      go_roundw
      case rel => exact ⟨k + 1, A2, k + 1 + 1, c2, by omega, by go_num, rfl, by go_num, rfl, by rw [HT.out]; exact ho3, ((HB.out.trans (hb2.mono hsz)).alloc (by omega) _).trans hb3⟩
      case measure => simp [intOf]; omega
    · obtain rfl : k = t.size := by omega
      go_wp2
      go_ret
      exact ⟨_, _, rfl, HO.out.base_le b0.size, below_go b0 hb⟩
end Go.Proofs.YtoheahbkopbmhaaGreat
/- The right heads of a proof, both sides. -/
namespace Go.Proofs.YtoheahbkopbmhaaGreat
set_option linter.unusedVariables false
set_option linter.unusedSimpArgs false
open Go.ChangeShapes Go.WideShapes Go.ChangeAt Go.RowKit Go.Deep
def rightB (st : Nat) (l : List ByteArray) (kb ks t : ByteArray) (lH : List ByteArray) : Bool := decide (lH = hdsL st l kb ks t (t.size + 1)) && decide (hdAt st l kb ks t t.size = roundsS st)
def Qd (w w' : World) : Prop := ∃ n, w' = w.drewN n
theorem Qd.refl (w : World) : Qd w w := ⟨0, rfl⟩
theorem Qd.drewN {w w' : World} (h : Qd w w') (n : Nat) : Qd w (w'.drewN n) := by
  obtain ⟨m, rfl⟩ := h
  exact ⟨m + n, by simp only [World.drewN, Nat.add_assoc]⟩
theorem Qd.below {w w' : World} (h : Qd w w') : Below w.heap.size w w' := by
  obtain ⟨m, rfl⟩ := h
  exact below_drewN (Below.refl _ _) _
theorem Qd.more {P : Program} {f : FuncId} {args : Array Value} {w : World} {n : Nat} {v : Value} (h : Calls P f args (w.drewN n) fun e w' => e = .returned v ∧ Qd (w.drewN n) w') :
    Calls P f args (w.drewN n) fun e w'' => e = .returned v ∧ ∃ m, w'' = w.drewN m :=
  h.mono fun _ _ h => ⟨h.1, by obtain ⟨m, rfl⟩ := h.2; exact Qd.drewN (w := w) (w' := w.drewN n) ⟨n, rfl⟩ m⟩
set_option maxHeartbeats 1000000 in
set_option maxRecDepth 100000 in
theorem impl_comesRound {A : Option Addr} {n c st : Nat} {nm : ByteArray} {l : List ByteArray} {kb ks : ByteArray} {t : ByteArray} {w : World} (hn : l.length = n) (h : Strs w A l) (hk : goodK nm (st : Int) l kb ks = true) (hg : goodT t = true) :
    Calls Tryz.prog 26 #[.agg #[.string nm, .int .i64 st, .slice A n c], .agg #[.string kb, .string ks], .string t] w fun e w' => e = .returned (.bool (decide (hdAt st l kb ks t t.size = roundsS st))) ∧ Below w.heap.size w w' := by
  have b0 : Below w.heap.size w ((w.alloc (.cells ⟨[.string nm, .int .i64 st, .slice A n c]⟩ 34)).alloc (.cells ⟨[.string kb, .string ks]⟩ 36)) := by (repeat' (first | (with_reducible exact Below.refl _ _) | (with_reducible assumption) | (with_reducible refine below_drewN ?_ _) | (with_reducible refine Below.drew ?_) | (with_reducible refine below_alloc ?_ _) | (with_reducible refine Below.alloc ?_ ?_ _) | (with_reducible refine Below.setCell ?_ ?_ _) | (with_reducible refine below_go ?_ (by with_reducible assumption)) | (with_reducible refine below_then (by with_reducible assumption) ?_ ?_) | go_size))
  have K0 := (Blk.at_ w 34 [.string nm, .int .i64 st, .slice A n c] (b := w.heap.size) rfl).alloc (.cells ⟨[.string kb, .string ks]⟩ 36)
  have K1 := Blk.at_ (w.alloc (.cells ⟨[.string nm, .int .i64 st, .slice A n c]⟩ 34)) 36 [.string kb, .string ks] (b := w.heap.size + 1) (by simp)
  have h8 := (goodK_all hk).1.2
  go_in
  go_wp2_with fail
  obtain ⟨w0, hw0⟩ : ∃ u, u = ((w.alloc (.cells #[.string nm, .int .i64 st, .slice A n c] 34)).alloc (.cells #[.string kb, .string ks] 36)) := ⟨_, rfl⟩
  rw [← hw0] at b0 K0 K1 ⊢
  clear hw0
  have H0 := Lib.hid (h.up b0)
  have carry : Hid (∀ u : World, Below w0.heap.size w0 u → (u.cell? ⟨w.heap.size, 0, none⟩ = some (.string nm) ∧ u.cell? ⟨w.heap.size, 1, none⟩ = some (.int .i64 st) ∧ u.cell? ⟨w.heap.size, 2, none⟩ = some (.slice A n c)) ∧ u.cell? ⟨w.heap.size + 1, 0, none⟩ = some (.string kb) ∧ u.cell? ⟨w.heap.size + 1, 1, none⟩ = some (.string ks)) := Lib.hid (fun u hu => by
    have L0 := K0.up hu; have L1 := K1.up hu
    exact ⟨⟨by simpa using L0.cell 0, by simpa using L0.cell 1, by simpa using L0.cell 2⟩, by simpa using L1.cell 0, by simpa using L1.cell 1⟩)
  clear h K0 K1
  go_region_held3 (fun u => (u.cell? ⟨w.heap.size, 0, none⟩ = some (.string nm) ∧ u.cell? ⟨w.heap.size, 1, none⟩ = some (.int .i64 st) ∧ u.cell? ⟨w.heap.size, 2, none⟩ = some (.slice A n c)) ∧ u.cell? ⟨w.heap.size + 1, 0, none⟩ = some (.string kb) ∧ u.cell? ⟨w.heap.size + 1, 1, none⟩ = some (.string ks)) (first | exact carry.out _ hb1 | exact carry.out _ (Below.refl _ _) | exact carry.out _ (Below.refl _ _).drew) (first | (go_at_call 47; ((refine (impl_touchEnd hn H0.out.drew hk hg).mono ?_); rintro e w1 ⟨rfl, hbd⟩; have hb1 := below_of_drew hbd)) | (go_at_call 48; ((refine (impl_rounds h8).mono ?_); rintro e w' ⟨rfl, rfl⟩)))
  all_goals
    go_wp2
    go_ret
    rw [dec_str]
    exact ⟨rfl, below_go b0 hb1⟩
end Go.Proofs.YtoheahbkopbmhaaGreat
/- All changes of a stage as plain functions. -/
namespace Go.Proofs.YtoheahbkopbmhaaGreat
set_option linter.unusedVariables false
set_option linter.unusedSimpArgs false
open Go.ChangeShapes Go.WideShapes Go.ChangeAt Go.RowKit Go.Deep
/-- All ways to go on from place p with k places left: the places that stay. -/
def fromK : Nat → Nat → List (List Int)
  | _, 0 => [[]]
  | p, 1 => [[(p : Int)]]
  | p, k + 2 => (fromK (p + 1) (k + 1)).map (fun r => (p : Int) :: r) ++ fromK (p + 2) k
def fibK : Nat → Nat
  | 0 => 1
  | 1 => 1
  | k + 2 => fibK (k + 1) + fibK k
theorem fromK_len : ∀ (k p : Nat), (fromK p k).length = fibK k
  | 0, _ => rfl
  | 1, _ => rfl
  | k + 2, p => by rw [fromK, List.length_append, List.length_map, fromK_len (k + 1), fromK_len k, fibK]
theorem fib_le : ∀ k, k < 9 → fibK k ≤ 34 := of_decide_eq_true (by kernel_rfl)
theorem fromK_le {k : Nat} (h : k ≤ 8) (p : Nat) : (fromK p k).length ≤ 34 := by rw [fromK_len]; exact fib_le k (by omega)
theorem fromK_row : ∀ (k p : Nat), ∀ r ∈ fromK p k, r.length ≤ k ∧ ∀ x ∈ r, (p : Int) ≤ x ∧ x < (p : Int) + k
  | 0, p, r, h => by
    simp only [fromK, List.mem_singleton] at h
    subst h; exact ⟨Nat.le_refl _, fun x hx => by cases hx⟩
  | 1, p, r, h => by
    simp only [fromK, List.mem_singleton] at h
    subst h
    refine ⟨Nat.le_refl _, fun x hx => ?_⟩
    rw [List.mem_singleton.1 hx]; omega
  | k + 2, p, r, h => by
    rw [fromK, List.mem_append, List.mem_map] at h
    rcases h with ⟨q, hq, rfl⟩ | h
    · have ih := fromK_row (k + 1) (p + 1) q hq
      refine ⟨by rw [List.length_cons]; omega, fun x hx => ?_⟩
      rcases List.mem_cons.1 hx with rfl | hx
      · omega
      · have := ih.2 x hx; omega
    · have ih := fromK_row k (p + 2) r h
      exact ⟨by omega, fun x hx => by have := ih.2 x hx; omega⟩
/-- A digit. -/
def dig1 (x : Int) : ByteArray := strOfNums [48 + x]
/-- The text of some places. -/
def placesS (l : List Int) : ByteArray := strOfNums (l.map fun x => 48 + x)
theorem placesS_snoc (l : List Int) (x : Int) : placesS (l ++ [x]) = placesS l ++ dig1 x := by
  rw [placesS, placesS, dig1, strOf_append, List.map_append]; rfl
theorem placesS_size (l : List Int) : (placesS l).size = l.length := by rw [placesS, strOfNums_size, List.length_map]
def ofPl (l : List Int) : ByteArray := if l.length = 0 then ⟨#[45]⟩ else placesS l
theorem ofPl_0 {l : List Int} (h : l.length = 0) : ofPl l = ⟨#[45]⟩ := by rw [ofPl, if_pos h]
theorem ofPl_pos {l : List Int} (h : 0 < l.length) : ofPl l = placesS l := by rw [ofPl, if_neg (by omega)]
theorem ofPl_size {l : List Int} (h : l.length ≤ 8) : (ofPl l).size ≤ 8 := by
  by_cases h0 : l.length = 0
  · rw [ofPl_0 h0]; decide
  · rw [ofPl_pos (by omega), placesS_size]; exact h
/-- The changes of stage n, in the order in which their places are told. -/
def chsRaw (n : Nat) : List ByteArray := ((fromK 1 n).map ofPl).filter fun c => goodChange n c
end Go.Proofs.YtoheahbkopbmhaaGreat
/- The change between two rows: the program's way and the reference's agree on whether there is one. -/
namespace Go.Proofs.YtoheahbkopbmhaaGreat
set_option linter.unusedVariables false
set_option linter.unusedSimpArgs false
open Go.ChangeShapes Go.WideShapes Go.ChangeAt Go.RowKit Go.Deep
/-- From which places the bytes come, k places left from place i on, ps the places (from 1) that stay. -/
def idxK : Nat → Nat → List Int → List Nat
  | _, 0, _ => []
  | i, 1, _ => [i]
  | i, k + 2, ps => match ps with
    | [] => (i + 1) :: i :: idxK (i + 2) k []
    | x :: r => if x = (i : Int) + 1 then i :: idxK (i + 1) (k + 1) r else (i + 1) :: i :: idxK (i + 2) k (x :: r)
theorem idx_stay (i k : Nat) (r : List Int) : idxK i (k + 2) (((i : Int) + 1) :: r) = i :: idxK (i + 1) (k + 1) r := by rw [idxK, if_pos rfl]
theorem idx_swap {i k : Nat} {ps : List Int} (h : ∀ x ∈ ps, (i : Int) + 1 < x) : idxK i (k + 2) ps = (i + 1) :: i :: idxK (i + 2) k ps := by
  rcases ps with _ | ⟨x, r⟩
  · rw [idxK]
  · rw [idxK, if_neg (by have := h x (List.mem_cons_self ..); omega)]
theorem idxK_len : ∀ (k i : Nat) (ps : List Int), (idxK i k ps).length = k
  | 0, _, _ => rfl
  | 1, _, _ => rfl
  | k + 2, i, [] => by rw [idxK, List.length_cons, List.length_cons, idxK_len k]
  | k + 2, i, x :: r => by
    rw [idxK]
    split
    · rw [List.length_cons, idxK_len (k + 1)]
    · rw [List.length_cons, List.length_cons, idxK_len k]
/-- The program's way: k places left, i done, whether a pair has been swapped. -/
def btwK (a b : ByteArray) : Nat → Nat → Bool → Bool
  | 0, _, sw => sw
  | 1, i, sw => if PlainAid.bt a i = PlainAid.bt b i then sw else false
  | k + 2, i, sw => if PlainAid.bt a i = PlainAid.bt b i then btwK a b (k + 1) (i + 1) sw else
      if PlainAid.bt a i = PlainAid.bt b (i + 1) ∧ PlainAid.bt a (i + 1) = PlainAid.bt b i then btwK a b k (i + 2) true else false
def fromIdx (a b : ByteArray) (i k : Nat) (ps : List Int) : Prop := ∀ j, j < k → PlainAid.bt b (i + j) = PlainAid.bt a ((idxK i k ps).getD j 0)
theorem btw_iff {a b : ByteArray} (n : Nat) (hd : ∀ i j, i < j → j < n → PlainAid.bt a i ≠ PlainAid.bt a j) : ∀ (k i : Nat) (sw : Bool), i + k = n →
    (btwK a b k i sw = true ↔ ∃ ps ∈ fromK (i + 1) k, fromIdx a b i k ps ∧ (sw = true ∨ ps.length < k))
  | 0, i, sw, h => by
    simp only [btwK, fromK, List.mem_singleton, exists_eq_left, fromIdx, List.length_nil]
    constructor
    · intro h; exact ⟨fun j hj => absurd hj (by omega), .inl h⟩
    · rintro ⟨_, h | h⟩
      · exact h
      · omega
  | 1, i, sw, h => by
    simp only [btwK, fromK, List.mem_singleton, exists_eq_left, fromIdx, List.length_cons, List.length_nil]
    constructor
    · intro h
      split at h
      · rename_i e
        exact ⟨fun j hj => by obtain rfl : j = 0 := by omega
                              simp [idxK, e], .inl h⟩
      · cases h
    · rintro ⟨h1, h | h⟩
      · have := h1 0 (by omega)
        simp [idxK] at this
        rw [if_pos this.symm]; exact h
      · omega
  | k + 2, i, sw, h => by
    have ih1 := btw_iff (b := b) n hd (k + 1) (i + 1) sw (by omega)
    have ih2 := btw_iff (b := b) n hd k (i + 2) true (by omega)
    have hsplit : ∀ ps, ps ∈ fromK (i + 1) (k + 2) ↔ (∃ r ∈ fromK (i + 2) (k + 1), ps = ((i : Int) + 1) :: r) ∨ ps ∈ fromK (i + 3) k := fun ps => by
      rw [fromK, List.mem_append, List.mem_map]
      constructor
      · rintro (⟨r, hr, rfl⟩ | h)
        · exact .inl ⟨r, hr, by congr 1⟩
        · exact .inr h
      · rintro (⟨r, hr, rfl⟩ | h)
        · exact .inl ⟨r, hr, by congr 1⟩
        · exact .inr h
    rw [btwK]
    constructor
    · intro hb
      split at hb
      · rename_i e
        obtain ⟨r, hr, h1, h2⟩ := ih1.1 hb
        refine ⟨((i : Int) + 1) :: r, (hsplit _).2 (.inl ⟨r, hr, rfl⟩), fun j hj => ?_, ?_⟩
        · rw [idx_stay]
          rcases j with _ | j
          · simpa using e.symm
          · have := h1 j (by omega)
            rw [show i + (j + 1) = i + 1 + j by omega]
            simpa using this
        · rcases h2 with h2 | h2
          · exact .inl h2
          · right; rw [List.length_cons]; omega
      · split at hb
        · rename_i e
          obtain ⟨ps, hps, h1, h2⟩ := ih2.1 hb
          have hx := (fromK_row k (i + 3) ps hps)
          refine ⟨ps, (hsplit _).2 (.inr hps), fun j hj => ?_, .inr (by omega)⟩
          rw [idx_swap (fun x hx' => by have := hx.2 x hx'; omega)]
          rcases j with _ | _ | j
          · simpa using e.2.symm
          · simpa using e.1.symm
          · have := h1 j (by omega)
            rw [show i + (j + 1 + 1) = i + 2 + j by omega]
            simpa using this
        · cases hb
    · rintro ⟨ps, hps, h1, h2⟩
      rcases (hsplit ps).1 hps with ⟨r, hr, rfl⟩ | hps
      · rw [fromIdx, idx_stay] at h1
        have h0 := h1 0 (by omega)
        simp at h0
        rw [if_pos h0.symm]
        refine ih1.2 ⟨r, hr, fun j hj => ?_, ?_⟩
        · have := h1 (j + 1) (by omega)
          rw [show i + (j + 1) = i + 1 + j by omega] at this
          simpa using this
        · rcases h2 with h2 | h2
          · exact .inl h2
          · right; rw [List.length_cons] at h2; omega
      · have hx := (fromK_row k (i + 3) ps hps)
        rw [fromIdx, idx_swap (fun x hx' => by have := hx.2 x hx'; omega)] at h1
        have h0 := h1 0 (by omega)
        have h3 := h1 1 (by omega)
        simp at h0 h3
        have hne := hd i (i + 1) (by omega) (by omega)
        rw [if_neg (fun e => hne (by rw [e, h0])), if_pos ⟨h3.symm, h0.symm⟩]
        refine ih2.2 ⟨ps, hps, fun j hj => ?_, .inl rfl⟩
        have := h1 (j + 1 + 1) (by omega)
        rw [show i + (j + 1 + 1) = i + 2 + j by omega] at this
        simpa using this
/-! sws by fuel, for the kernel -/
def swsF (st : Int → Bool) (n : Nat) : Nat → Nat → List Int
  | 0, _ => []
  | f + 1, p => if p < n then (if st p then swsF st n f (p + 1) else (p : Int) :: swsF st n f (p + 2)) else []
theorem sws_F (st : Int → Bool) (n : Nat) : ∀ (f p : Nat), n ≤ p + f → sws st n p = swsF st n f p
  | 0, p, h => by rw [sws_end (by omega), swsF]
  | f + 1, p, h => by
    rw [swsF]
    by_cases hp : p < n
    · rw [if_pos hp]
      rcases hs : st p
      · rw [sws_swap hp hs, if_neg (by simp), sws_F st n f (p + 2) (by omega)]
      · rw [sws_stay hp hs, if_pos rfl, sws_F st n f (p + 1) (by omega)]
    · rw [sws_end hp, if_neg hp]
def idxC (n : Nat) (ps : List Int) : List Nat := (List.range n).map fun j => (cval (swsF (stays (ofPl ps)) n 9 1) j - 49).toNat
def okPs (n : Nat) (ps : List Int) : Bool := (idxC n ps == idxK 0 n ps) && (goodChange n (ofPl ps) == decide (ps.length < n))
theorem all_ok : ∀ n, n < 9 → 3 ≤ n → (fromK 1 n).all (okPs n) = true := of_decide_eq_true (by kernel_rfl)
end Go.Proofs.YtoheahbkopbmhaaGreat
/- A change leads from one row to another just where the program finds one. -/
namespace Go.Proofs.YtoheahbkopbmhaaGreat
set_option linter.unusedVariables false
set_option linter.unusedSimpArgs false
open Go.ChangeShapes Go.WideShapes Go.ChangeAt Go.RowKit Go.Deep
theorem nums_apply {a : ByteArray} (h : goodRow a = true) (c : ByteArray) : nums (applyR a c) = (rowV a.size (swaps a.size c)).map fun z => PlainAid.bt a (z - 49).toNat := by
  have hn := goodRow_n h
  have hr := goodRow_list h
  have e0 : nums (chRow a.size c) = rowV a.size (swaps a.size c) := by rw [chRow, nums_strOf (rowL_bytes (rowL_ch a.size c) (by rw [rowV_len]; omega))]
  have h2 := rowL_times hr (by rw [e0]; exact rowL_ch a.size c) (chRow_size a.size c).symm
  rw [applyR, timesS, nums_strOf (rowL_bytes h2 (by rw [timesL_len, chRow_size]; omega)), timesL, e0]
theorem apply_iff {a b : ByteArray} (ha : goodRow a = true) (e : a.size = b.size) {ps : List Int} (hps : ps ∈ fromK 1 a.size) : applyR a (ofPl ps) = b ↔ fromIdx a b 0 a.size ps := by
  have hn := goodRow_n ha
  have hok := all_ok a.size (by omega) (by omega)
  rw [List.all_eq_true] at hok
  have hok := hok ps hps
  rw [okPs, Bool.and_eq_true] at hok
  have hi : idxC a.size ps = idxK 0 a.size ps := by simpa using hok.1
  have hsw : swsF (stays (ofPl ps)) a.size 9 1 = swaps a.size (ofPl ps) := (sws_F _ _ _ _ (by omega)).symm
  have hat : ∀ j, j < a.size → (nums (applyR a (ofPl ps)))[j]? = some (PlainAid.bt a ((idxK 0 a.size ps).getD j 0)) := fun j hj => by
    rw [nums_apply ha, ← hi, rowV, List.map_map, List.getElem?_map, List.getElem?_range hj, idxC, hsw]
    simp [hj]
  constructor
  · intro h j hj
    have h1 := hat j hj
    rw [h, nums_at (by omega)] at h1
    injection h1 with h1
    rw [Nat.zero_add]; exact h1
  · intro h
    apply nums_inj
    apply List.ext_getElem?
    intro j
    by_cases hj : j < a.size
    · rw [hat j hj, nums_at (by omega)]
      have := h j hj
      rw [Nat.zero_add] at this
      rw [this]
    · rw [List.getElem?_eq_none (by rw [nums_len, applyR_size]; omega), List.getElem?_eq_none (by rw [nums_len]; omega)]
theorem mem_chs {n : Nat} {c : ByteArray} : c ∈ chsRaw n ↔ (∃ ps ∈ fromK 1 n, ofPl ps = c) ∧ goodChange n c = true := by
  rw [chsRaw, List.mem_filter, List.mem_map]
theorem row_ne {a : ByteArray} (ha : goodRow a = true) {i j : Nat} (hij : i < j) (hj : j < a.size) : PlainAid.bt a i ≠ PlainAid.bt a j := by
  have hp := (goodRow_list ha).1
  rw [List.nodup_iff_pairwise_ne, List.pairwise_iff_getElem] at hp
  have := hp i j (by rw [nums_len]; omega) (by rw [nums_len]; omega) hij
  have h1 := nums_at (s := a) (k := i) (by omega); have h2 := nums_at (s := a) (k := j) (by omega)
  rw [List.getElem?_eq_getElem (by rw [nums_len]; omega)] at h1 h2
  injection h1 with h1; injection h2 with h2
  rw [← h1, ← h2]; exact this
/-- Whether a change leads from a to b. -/
def btwB (a b : ByteArray) : Bool := btwK a b a.size 0 false
theorem btw_change {a b : ByteArray} (ha : goodRow a = true) (e : a.size = b.size) : btwB a b = true ↔ ∃ c ∈ chsRaw a.size, applyR a c = b := by
  have hn := goodRow_n ha
  have hok := all_ok a.size (by omega) (by omega)
  rw [List.all_eq_true] at hok
  rw [btwB, btw_iff (b := b) a.size (fun i j h1 h2 => row_ne ha h1 h2) a.size 0 false (by omega)]
  constructor
  · rintro ⟨ps, hps, h1, h2⟩
    have h3 := hok ps hps
    rw [okPs, Bool.and_eq_true] at h3
    have hl : ps.length < a.size := by rcases h2 with h2 | h2; cases h2; exact h2
    have hg : goodChange a.size (ofPl ps) = true := by
      have := h3.2
      rw [decide_eq_true hl] at this
      simpa using this
    exact ⟨ofPl ps, mem_chs.2 ⟨⟨ps, hps, rfl⟩, hg⟩, (apply_iff ha e hps).2 h1⟩
  · rintro ⟨c, hc, h1⟩
    obtain ⟨⟨ps, hps, rfl⟩, hg⟩ := mem_chs.1 hc
    have h3 := hok ps hps
    rw [okPs, Bool.and_eq_true, hg] at h3
    refine ⟨ps, hps, (apply_iff ha e hps).1 h1, .inr ?_⟩
    have := h3.2
    by_cases hl : ps.length < a.size
    · exact hl
    · rw [decide_eq_false hl] at this; simp at this
end Go.Proofs.YtoheahbkopbmhaaGreat
/- The walks through all changes of a stage, the reference's side. -/
namespace Go.Proofs.YtoheahbkopbmhaaGreat
set_option linter.unusedVariables false
set_option linter.unusedSimpArgs false
open Go.ChangeShapes Go.WideShapes Go.ChangeAt Go.RowKit Go.Deep
theorem own_lit1 {α : Type} {e : α → List Value} {s : Nat} (he : ∀ x, (e x).length = s) (w : World) (E : TypeId) (x : α) {base : Nat} (hb : base ≤ w.heap.size) : Owned e s E (w.alloc (.cells ⟨e x⟩ E)) base (some ⟨w.heap.size, 0, none⟩) 1 1 [x] :=
  ⟨he, rfl, by simpa using World.ownsRow_lit (e := E) (base := base) (size := s) w ⟨e x⟩ 1 hb (by unfold maxLen; omega) (by simp [he])⟩
end Go.Proofs.YtoheahbkopbmhaaGreat
/- The walks through the text of places and the list of all changes, the reference's side. -/
namespace Go.Proofs.YtoheahbkopbmhaaGreat
set_option linter.unusedVariables false
set_option linter.unusedSimpArgs false
open Go.ChangeShapes Go.WideShapes Go.ChangeAt Go.RowKit Go.Deep
end Go.Proofs.YtoheahbkopbmhaaGreat
/- The walk through the list of all changes, the reference's side. -/
namespace Go.Proofs.YtoheahbkopbmhaaGreat
set_option linter.unusedVariables false
set_option linter.unusedSimpArgs false
open Go.ChangeShapes Go.WideShapes Go.ChangeAt Go.RowKit Go.Deep
theorem ins_at {α : Type} {M : List α} {y : α} {q : Nat} (h : q ≤ M.length) : (M.take q ++ y :: M.drop q)[q]? = some y := by
  rw [List.getElem?_append_right (by rw [List.length_take]; omega), List.length_take, Nat.min_eq_left h, Nat.sub_self, List.getElem?_cons_zero]
theorem ins_before {α : Type} {M : List α} {y : α} {q : Nat} (h : q < M.length) : (M.take (q + 1) ++ y :: M.drop (q + 1))[q]? = M[q]? := by
  rw [List.getElem?_append_left (by rw [List.length_take]; omega), List.getElem?_take, if_pos (by omega)]
theorem ins_set {α : Type} {M : List α} {y z : α} {q : Nat} (h : q ≤ M.length) : (M.take q ++ y :: M.drop q).set q z = M.take q ++ z :: M.drop q := by
  rw [List.set_append_right _ _ (by rw [List.length_take]; omega), List.length_take, Nat.min_eq_left h, Nat.sub_self, List.set_cons_zero]
theorem ins_down {α : Type} {M : List α} {y z : α} {q : Nat} (hz : M[q]? = some z) : (M.take (q + 1) ++ y :: M.drop (q + 1)).set (q + 1) z = M.take q ++ z :: M.drop q := by
  have h := (List.getElem?_eq_some_iff.1 hz).1
  rw [ins_set (by omega), take_succ_some hz, List.append_assoc]
  congr 1
  rw [List.drop_eq_getElem_cons h, (List.getElem?_eq_some_iff.1 hz).2]; rfl
theorem ins_len {α : Type} {M : List α} {y : α} {q : Nat} (h : q ≤ M.length) : (M.take q ++ y :: M.drop q).length = M.length + 1 := by
  rw [List.length_append, List.length_cons, List.length_take, List.length_drop]; omega
theorem ins_perm {α : Type} {M : List α} {y : α} {q : Nat} : (M.take q ++ y :: M.drop q).Perm (M ++ [y]) := by
  refine (List.perm_middle).trans ?_
  rw [List.take_append_drop]
  exact (List.perm_append_singleton y M).symm
theorem filt_hit {f : ByteArray → Bool} {g : List Int → ByteArray} {T : List (List Int)} {j : Nat} {r : List Int} (hr : T[j]? = some r) (h : f (g r) = true) : ((T.take (j + 1)).map g).filter f = ((T.take j).map g).filter f ++ [g r] := by
  rw [take_succ_some hr, List.map_append, List.filter_append]
  simp [h]
theorem filt_miss {f : ByteArray → Bool} {g : List Int → ByteArray} {T : List (List Int)} {j : Nat} {r : List Int} (hr : T[j]? = some r) (h : f (g r) = false) : ((T.take (j + 1)).map g).filter f = ((T.take j).map g).filter f := by
  rw [take_succ_some hr, List.map_append, List.filter_append]
  simp [h]
end Go.Proofs.YtoheahbkopbmhaaGreat
/- The walks through the change between two rows, both sides. -/
namespace Go.Proofs.YtoheahbkopbmhaaGreat
set_option linter.unusedVariables false
set_option linter.unusedSimpArgs false
open Go.ChangeShapes Go.WideShapes Go.ChangeAt Go.RowKit Go.Deep
theorem chs_len {n : Nat} (h : n ≤ 8) : (chsRaw n).length ≤ 34 := by
  rw [chsRaw]
  exact Nat.le_trans (List.length_filter_le _ _) (by rw [List.length_map]; exact fromK_le h 1)
theorem btw_eq {a b : ByteArray} {k i : Nat} {sw : Bool} (h : PlainAid.bt a i = PlainAid.bt b i) : btwK a b (k + 1) i sw = btwK a b k (i + 1) sw := by
  rcases k with _ | k
  · show (if PlainAid.bt a i = PlainAid.bt b i then sw else false) = sw
    exact if_pos h
  · rw [btwK, if_pos h]
theorem btw_no1 {a b : ByteArray} {i : Nat} {sw : Bool} (h : ¬ PlainAid.bt a i = PlainAid.bt b i) : btwK a b 1 i sw = false := by rw [btwK, if_neg h]
theorem btw_swap {a b : ByteArray} {k i : Nat} {sw : Bool} (h : ¬ PlainAid.bt a i = PlainAid.bt b i) (h1 : PlainAid.bt a i = PlainAid.bt b (i + 1)) (h2 : PlainAid.bt a (i + 1) = PlainAid.bt b i) : btwK a b (k + 2) i sw = btwK a b k (i + 2) true := by
  rw [btwK, if_neg h, if_pos ⟨h1, h2⟩]
theorem btw_no {a b : ByteArray} {k i : Nat} {sw : Bool} (h : ¬ PlainAid.bt a i = PlainAid.bt b i) (h1 : ¬ (PlainAid.bt a i = PlainAid.bt b (i + 1) ∧ PlainAid.bt a (i + 1) = PlainAid.bt b i)) : btwK a b (k + 2) i sw = false := by
  rw [btwK, if_neg h, if_neg h1]
end Go.Proofs.YtoheahbkopbmhaaGreat
/- The walks through lists of changes between rows, truth by sorting, factorials, and extents. -/
namespace Go.Proofs.YtoheahbkopbmhaaGreat
set_option linter.unusedVariables false
set_option linter.unusedSimpArgs false
open Go.ChangeShapes Go.WideShapes Go.ChangeAt Go.RowKit Go.Deep
theorem fact_le : ∀ k, k < 9 → fact k ≤ 40320 := of_decide_eq_true (by kernel_rfl)
theorem fact_one {n : Nat} (h : n ≤ 1) : fact n = 1 := by
  rcases n with _ | _ | n
  · rfl
  · rfl
  · omega
theorem spec_l1Fact {n : Nat} {w : World} (hn : n ≤ 8) :
    Calls Tryz.prog 42 #[.int .i64 n] w fun e w' => e = .returned (.int .i64 (fact n)) ∧ w = w' := by
  have HF : Hid (∀ k, fact (k + 1) = (k + 1) * fact k) := Lib.hid (fun _ => rfl)
  have hfn := fact_le n (by omega)
  go_in
  go_wp2
  go_loopw [0, 3] (fun i v wr => ∃ (k q : Nat), k ≤ n ∧ i = .int .i64 k ∧ v = .int .i64 q ∧ q ≤ 40320 ∧ Hid (q * fact k = fact n) ∧ w = wr) (fun i _ _ => (intOf i).toNat)
  case atStart => exact ⟨n, 1, Nat.le_refl _, rfl, rfl, by omega, Lib.hid (Nat.one_mul _), rfl⟩
  case round =>
    obtain ⟨k, q, hk, rfl, rfl, hq, HQ, rfl⟩ := hrel
    by_cases hlt : 1 < k
    · obtain ⟨m, rfl⟩ : ∃ m, k = m + 1 := ⟨k - 1, by omega⟩
      have hI : (1 : Int) < (m : Int) + 1 := by omega
      have h2 := Lib.hid (show q * (m + 1) * fact m = fact n by rw [Nat.mul_assoc, ← HF.out, HQ.out])
      have h3 : q * (m + 1) ≤ 40320 := Nat.le_trans (Nat.le_mul_of_pos_right _ (fact_pos m)) (by rw [h2.out]; exact hfn)
      have h4 : ((q : Int) * ((m : Int) + 1)) = ((q * (m + 1) : Nat) : Int) := by rw [Int.natCast_mul]; rfl
      have h5 : 0 ≤ (q : Int) * ((m : Int) + 1) ∧ (q : Int) * ((m : Int) + 1) ≤ 40320 := by rw [h4]; omega
      have H4 := Lib.hid h4
      obtain ⟨h6, h7⟩ := h5
      clear h4
      go_wp2
      go_roundw
      case rel => exact ⟨m, q * (m + 1), by omega, by first | go_num | rfl, by rw [H4.out], h3, Lib.hid h2.out, trivial⟩
      case measure => simp [intOf]
    · have hI : ¬ (1 : Int) < (k : Int) := by omega
      have e1 := Lib.hid (show q = fact n by rw [← HQ.out, fact_one (by omega : k ≤ 1), Nat.mul_one])
      go_wp2
      go_ret
      rw [← e1.out]
      exact ⟨rfl, rfl⟩
/-- Row k of a list of rows, cyclically. -/
def cyc (l : List ByteArray) (k : Nat) : ByteArray := l.getD (k % l.length) ByteArray.empty
def nextAt (l : List ByteArray) (k : Nat) : Bool := btwB (cyc l k) (cyc l (k + 1))
def nextsB (l : List ByteArray) : Bool := (List.range l.length).all (nextAt l)
theorem cyc_at {l : List ByteArray} {k : Nat} {x : ByteArray} (h : l[k]? = some x) : cyc l k = x := by
  have := (List.getElem?_eq_some_iff.1 h).1
  rw [cyc, Nat.mod_eq_of_lt this, List.getD, h]; rfl
theorem cyc_last {l : List ByteArray} {x : ByteArray} (h : l[0]? = some x) : cyc l l.length = x := by
  rw [cyc, Nat.mod_self, List.getD, h]; rfl
theorem btw_self (a : ByteArray) : ∀ (k i : Nat) (sw : Bool), btwK a a k i sw = sw
  | 0, _, _ => by rw [btwK]
  | k + 1, i, sw => by rw [btw_eq rfl, btw_self a k]
theorem nexts_one {l : List ByteArray} (h : l.length = 1) : nextsB l = false := by
  match l, h with
  | [x], _ =>
    show (List.all [0] (nextAt [x])) = false
    simp [nextAt, cyc, btwB, btw_self]
theorem goodRows_size {l : List ByteArray} (h : goodRows l = true) {i j : Nat} {x y : ByteArray} (hx : l[i]? = some x) (hy : l[j]? = some y) : x.size = y.size := by
  rw [goodRows, Bool.and_eq_true, List.all_eq_true] at h
  have key : ∀ (k : Nat) (z : ByteArray), l[k]? = some z → z.size = (l.getD 0 ByteArray.empty).size := fun k z hz => by
    have := h.1 k (List.mem_range.2 (List.getElem?_eq_some_iff.1 hz).1)
    rw [okRow, Bool.and_eq_true, List.getD, hz] at this
    simpa using this.2
  rw [key i x hx, key j y hy]
/-! extents -/
def smallR (l : List ByteArray) : Bool := goodRows l && (decide (0 < l.length) && decide ((l.getD 0 ByteArray.empty).size ≤ 6))
def extR (l : List ByteArray) : Bool := smallR l && (nextsB l && (nodupB l && (l.length == fact (l.getD 0 ByteArray.empty).size)))
theorem small_t {l : List ByteArray} (h : smallR l = true) : goodRows l = true ∧ 0 < l.length ∧ ∀ x, l[0]? = some x → x.size ≤ 6 := by
  simp only [smallR, Bool.and_eq_true, decide_eq_true_eq] at h
  exact ⟨h.1, h.2.1, fun x hx => by have := h.2.2; rw [List.getD, hx] at this; exact this⟩
end Go.Proofs.YtoheahbkopbmhaaGreat
/- The walk through a row's place, the reference's side; the row of marks by places. -/
namespace Go.Proofs.YtoheahbkopbmhaaGreat
set_option linter.unusedVariables false
set_option linter.unusedSimpArgs false
open Go.ChangeShapes Go.WideShapes Go.ChangeAt Go.RowKit Go.Deep
theorem nums_drop {s : ByteArray} {k : Nat} (h : k < s.size) : (nums s).drop k = PlainAid.bt s k :: (nums s).drop (k + 1) := drop_someZ (nums_at h)
set_option maxRecDepth 100000 in
theorem spec_l1Place {s : ByteArray} {w : World} (hz : s.size ≤ 8) :
    Calls Tryz.prog 20 #[.string s] w fun e w' => e = .returned (.int .i64 (place s)) ∧ Below w.heap.size w w' := by
  have gb := PlainAid.get_bt s
  have hpl := place_lt s
  have h40 := fact_le s.size (by omega)
  have hP : place s ≤ 40320 := by omega
  have H0 := Lib.hid (show lh 0 ((nums s).drop 0) = place s from (place_lh s).symm)
  have HL := Lib.hid (fun k (r : List Int) => lh_le r k)
  have HC := Lib.hid (fun x (r : List Int) => cnt_le x r)
  clear hpl h40
  go_in
  go_wp2
  go_loopw [3, 4] (fun v i wr => ∃ i' k : Nat, i' ≤ s.size ∧ i = .int .i64 i' ∧ v = .int .i64 k ∧ k ≤ place s ∧ Hid (lh k ((nums s).drop i') = place s) ∧ Below w.heap.size w wr) (fun _ i _ => s.size - (intOf i).toNat)
  case atStart => exact ⟨0, 0, Nat.zero_le _, rfl, rfl, Nat.zero_le _, H0, Below.refl _ _⟩
  case round =>
    obtain ⟨i, k, hi, rfl, rfl, hk, HK, hbl⟩ := hrel
    by_cases hlt : i < s.size
    · have HD := Lib.hid (nums_drop hlt)
      go_wp2
      go_loopw [5, 6] (fun v x wr => ∃ j q : Nat, i + 1 ≤ j ∧ j ≤ s.size ∧ x = .int .i64 j ∧ v = .int .i64 q ∧ q ≤ j ∧ Hid (q + cnt (PlainAid.bt s i) ((nums s).drop j) = cnt (PlainAid.bt s i) ((nums s).drop (i + 1))) ∧ Below w.heap.size w wr) (fun _ x _ => s.size - (intOf x).toNat)
      case atStart => exact ⟨i + 1, 0, Nat.le_refl _, hlt, by go_num, rfl, Nat.zero_le _, Lib.hid (Nat.zero_add _), hbl⟩
      case round =>
        obtain ⟨j, q, hij, hj, rfl, rfl, hq, HQ, hb2⟩ := hrel
        by_cases hjl : j < s.size
        · have HJ := Lib.hid (nums_drop hjl)
          by_cases hc : PlainAid.bt s j < PlainAid.bt s i
          · have E := Lib.hid (show q + 1 + cnt (PlainAid.bt s i) ((nums s).drop (j + 1)) = cnt (PlainAid.bt s i) ((nums s).drop (i + 1)) by rw [← HQ.out, HJ.out, cnt_cons, if_pos hc]; omega)
            go_wp2
            go_quiet (fail)
            go_wp2
            go_roundw
            case rel => exact ⟨j + 1, q + 1, by omega, by omega, by go_num, by go_num, by omega, E, by (repeat' (first | (with_reducible exact Below.refl _ _) | (with_reducible assumption) | (with_reducible refine below_drewN ?_ _) | (with_reducible refine Below.drew ?_) | (with_reducible refine below_alloc ?_ _) | (with_reducible refine Below.alloc ?_ ?_ _) | (with_reducible refine Below.setCell ?_ ?_ _) | (with_reducible refine below_go ?_ (by with_reducible assumption)) | (with_reducible refine below_then (by with_reducible assumption) ?_ ?_) | go_size))⟩
            case measure => simp [intOf]; omega
          · have E := Lib.hid (show q + cnt (PlainAid.bt s i) ((nums s).drop (j + 1)) = cnt (PlainAid.bt s i) ((nums s).drop (i + 1)) by rw [← HQ.out, HJ.out, cnt_cons, if_neg hc]; omega)
            go_wp2
            go_quiet (fail)
            go_wp2
            go_roundw
            case rel => exact ⟨j + 1, q, by omega, by omega, by go_num, rfl, by omega, E, by (repeat' (first | (with_reducible exact Below.refl _ _) | (with_reducible assumption) | (with_reducible refine below_drewN ?_ _) | (with_reducible refine Below.drew ?_) | (with_reducible refine below_alloc ?_ _) | (with_reducible refine Below.alloc ?_ ?_ _) | (with_reducible refine Below.setCell ?_ ?_ _) | (with_reducible refine below_go ?_ (by with_reducible assumption)) | (with_reducible refine below_then (by with_reducible assumption) ?_ ?_) | go_size))⟩
            case measure => simp [intOf]; omega
        · obtain rfl : j = s.size := by omega
          have E := Lib.hid (show q = cnt (PlainAid.bt s i) ((nums s).drop (i + 1)) by
            rw [← HQ.out, List.drop_eq_nil_of_le (by rw [nums_len]; exact Nat.le_refl _)]; rfl)
          have E2 := Lib.hid (show lh (k * (s.size - i) + q) ((nums s).drop (i + 1)) = place s by
            rw [← HK.out, HD.out, lh, E.out, List.length_drop, nums_len, show s.size - (i + 1) + 1 = s.size - i by omega])
          have h1 : k * (s.size - i) + q ≤ place s := by
            have := HL.out (k * (s.size - i) + q) ((nums s).drop (i + 1))
            rw [E2.out] at this; exact this
          obtain ⟨p, hp⟩ : ∃ p, p = k * (s.size - i) := ⟨_, rfl⟩
          have e0 : (s.size : Int) - (i : Int) = ((s.size - i : Nat) : Int) := by omega
          have e3 : (k : Int) * ((s.size : Int) - (i : Int)) = (p : Int) := by rw [e0, hp]; push_cast; rfl
          rw [← hp] at E2 h1
          have e4 : IntKind.i64.wrap ((s.size : Int) - (i : Int)) = (s.size : Int) - (i : Int) := wrap_id (by omega)
          have e5 : IntKind.i64.wrap ((k : Int) * ((s.size : Int) - (i : Int))) = (p : Int) := by rw [e3]; exact wrap_id (by omega)
          have e6 : IntKind.i64.wrap ((p : Int) + (q : Int)) = ((p + q : Nat) : Int) := by rw [wrap_id (by omega)]; push_cast; rfl
          clear hp e0 e3
          go_wp2
          go_roundw
          case rel => exact ⟨i + 1, p + q, by omega, by go_num, by go_num, h1, E2, hb2⟩
          case measure => simp [intOf]; omega
    · obtain rfl : i = s.size := by omega
      have E := Lib.hid (show k = place s by
        rw [← HK.out, List.drop_eq_nil_of_le (by rw [nums_len]; exact Nat.le_refl _)]; rfl)
      go_wp2
      go_ret
      rw [E.out]
      exact ⟨rfl, hbl⟩
/-- Which rows of a stage a list has, by their places. -/
def MarkR (n : Nat) (L : List ByteArray) (m : List Bool) : Prop := m.length = fact n ∧ ∀ s, RowN n s → m[place s]? = some (inL L s)
theorem MarkR.none (n : Nat) : MarkR n [] (List.replicate (fact n) false) :=
  ⟨by simp, fun s hs => by rw [List.getElem?_replicate, if_pos (rowN_place hs)]; rfl⟩
theorem MarkR.add {n : Nat} {L : List ByteArray} {m : List Bool} {x : ByteArray} (h : MarkR n L m) (hx : RowN n x) : MarkR n (L ++ [x]) (m.set (place x) true) := by
  refine ⟨by rw [List.length_set]; exact h.1, fun s hs => ?_⟩
  rw [List.getElem?_set]
  by_cases e : place x = place s
  · rw [if_pos e, if_pos (by rw [h.1]; exact rowN_place hx)]
    rw [rowN_inj hx hs e, inL_iff.2 (by simp)]
  · rw [if_neg e, h.2 s hs]
    have hne : ¬ x = s := fun q => e (by rw [q])
    congr 1
    rw [inL, inL, List.any_append]
    simp [hne]
theorem MarkR.at_ {n : Nat} {L : List ByteArray} {m : List Bool} {x : ByteArray} (h : MarkR n L m) (hx : RowN n x) : m[place x]? = some (inL L x) := h.2 x hx
theorem spec_l6Seen {n : Nat} {w : World} (h8 : n ≤ 8) :
    Calls Tryz.prog 18 #[.int .i64 n] w fun e w' => ∃ g, e = .returned (.slice (some ⟨g, 0, none⟩) (fact n) (fact n)) ∧ Owned boolE 1 4 w' w.heap.size (some ⟨g, 0, none⟩) (fact n) (fact n) (List.replicate (fact n) false) ∧ Below w.heap.size w w' := by
  have h40 := fact_le n (by omega)
  have hmk := run_make_rec (P := Tryz.prog) (e := boolE) Tryz.elBool false rfl (fact n) (by omega) (by decide)
  have O0 := Owned.made (e := boolE) boolE_len w 4 false (fact n) (by omega) (Nat.le_refl w.heap.size)
  go_in
  go_wp2_with (first | (go_at_call 42; refine (spec_l1Fact h8).mono ?_; rintro e w' ⟨rfl, rfl⟩))
  go_ret
  exact ⟨_, rfl, by simpa using O0, by (repeat' (first | (with_reducible exact Below.refl _ _) | (with_reducible assumption) | (with_reducible refine below_drewN ?_ _) | (with_reducible refine Below.drew ?_) | (with_reducible refine below_alloc ?_ _) | (with_reducible refine Below.alloc ?_ ?_ _) | (with_reducible refine Below.setCell ?_ ?_ _) | (with_reducible refine below_go ?_ (by with_reducible assumption)) | (with_reducible refine below_then (by with_reducible assumption) ?_ ?_) | go_size))⟩
end Go.Proofs.YtoheahbkopbmhaaGreat
/- The walk through the reference's MakeProof. -/
namespace Go.Proofs.YtoheahbkopbmhaaGreat
set_option linter.unusedVariables false
set_option linter.unusedSimpArgs false
open Go.ChangeShapes Go.WideShapes Go.ChangeAt Go.RowKit Go.Deep
set_option maxHeartbeats 8000000 in
set_option maxRecDepth 100000 in
theorem spec_MakeProof {A : Option Addr} {n c : Nat} {nm : ByteArray} {st : Int} {l : List ByteArray} {kb ks : ByteArray} {t : ByteArray} {w : World} (hn : l.length = n) (h : Strs w A l) (hz : n ≤ 1048576) (hs : ∀ s ∈ l, s.size ≤ 16777216) (hnm : nm.size ≤ 16777216) (hst : I64 st) (hkb : kb.size ≤ 16777216) (hks : ks.size ≤ 16777216) (hcap : n ≤ c) (ht : t.size ≤ 16777216) :
    Calls Tryz.prog 6 #[.agg #[.string nm, .int .i64 st, .slice A n c], .agg #[.string kb, .string ks], .string t] w fun e w' => ∃ AH cH AL cL, e = .returned (.tuple #[.agg #[.slice AH (mkH nm st l kb ks t).length cH, .slice AL (mkM nm st l kb ks t).length cL], .bool (mkOk nm st l kb ks t)]) ∧ Owned strE 1 9 w' w.heap.size AH (mkH nm st l kb ks t).length cH (mkH nm st l kb ks t) ∧ Owned lineE 3 55 w' w.heap.size AL (mkM nm st l kb ks t).length cL (mkM nm st l kb ks t) ∧ Below w.heap.size w w' := by
  have b0 : Below w.heap.size w (((w.alloc (.cells ⟨[.string nm, .int .i64 st, .slice A n c]⟩ 34)).alloc (.cells ⟨[.string kb, .string ks]⟩ 36)).alloc (.cells ⟨[.slice none 0 0, .slice none 0 0]⟩ 31)) := by (repeat' (first | (with_reducible exact Below.refl _ _) | (with_reducible assumption) | (with_reducible refine below_drewN ?_ _) | (with_reducible refine Below.drew ?_) | (with_reducible refine below_alloc ?_ _) | (with_reducible refine Below.alloc ?_ ?_ _) | (with_reducible refine Below.setCell ?_ ?_ _) | (with_reducible refine below_go ?_ (by with_reducible assumption)) | (with_reducible refine below_then (by with_reducible assumption) ?_ ?_) | go_size))
  have K0 := ((Blk.at_ w 34 [.string nm, .int .i64 st, .slice A n c] (b := w.heap.size) rfl).alloc (.cells ⟨[.string kb, .string ks]⟩ 36)).alloc (.cells ⟨[.slice none 0 0, .slice none 0 0]⟩ 31)
  have K1 := (Blk.at_ (w.alloc (.cells ⟨[.string nm, .int .i64 st, .slice A n c]⟩ 34)) 36 [.string kb, .string ks] (b := w.heap.size + 1) (by simp)).alloc (.cells ⟨[.slice none 0 0, .slice none 0 0]⟩ 31)
  have K2 := Blk.at_ ((w.alloc (.cells ⟨[.string nm, .int .i64 st, .slice A n c]⟩ 34)).alloc (.cells ⟨[.string kb, .string ks]⟩ 36)) 31 [.slice none 0 0, .slice none 0 0] (b := w.heap.size + 1 + 1) (by simp)
  have HQ : Hid (mkOk nm st l kb ks t = ((rowsOk nm st l kb ks t && decide (tRows st.toNat l kb ks t t.size).Nodup) && decide (hdAt st.toNat l kb ks t t.size = roundsS st.toNat))) := Lib.hid rfl
  have HRQ : Hid (rowsOk nm st l kb ks t = (goodF nm st l kb ks t && decide (t.size * l.length ≤ 800))) := Lib.hid rfl
  go_in
  go_upto_region 1 with fail
  obtain ⟨w0, hw0⟩ : ∃ u, u = (((w.alloc (.cells #[.string nm, .int .i64 st, .slice A n c] 34)).alloc (.cells #[.string kb, .string ks] 36)).alloc (.cells #[.slice none 0 0, .slice none 0 0] 31)) := ⟨_, rfl⟩
  rw [← hw0] at b0 K0 K1 K2 ⊢
  clear hw0
  have k0 := K0.cell 0; have k1 := K0.cell 1; have k2 := K0.cell 2; have q0 := K1.cell 0; have q1 := K1.cell 1
  simp only [List.getElem?_cons_zero, List.getElem?_cons_succ] at k0 k1 k2 q0 q1
  go_wp2_with fail
  refine (spec_l20Asked hn (h.up b0) hz hs hnm hst hkb hks ht).mono ?_; rintro e w1 ⟨rfl, hb1⟩
  have B1 := below_go b0 hb1
  have K0 := K0.up hb1
  have K1 := K1.up hb1
  have K2 := K2.up hb1
  clear k0 k1 k2 q0 q1 hb1 b0
  rcases hf : goodF nm st l kb ks t
  · have NO := Lib.hid (show mkOk nm st l kb ks t = false by rw [HQ.out, HRQ.out, hf]; rfl)
    have r0 := K2.cell 0; have r1 := K2.cell 1
    simp only [List.getElem?_cons_zero, List.getElem?_cons_succ] at r0 r1
    have q0 := K2.frozen 0
    have q1 := K2.frozen 1
    clear hf
    go_wp2
    clear r0 r1
    have Z := (K2.set_ 0 (.slice none 0 0)).set_ 1 (.slice none 0 0)
    have y0 := Z.cell 0; have y1 := Z.cell 1
    simp only [List.set_cons_zero, List.set_cons_succ, List.getElem?_cons_zero, List.getElem?_cons_succ] at y0 y1
    (try simp only [Exit.inBlock, Exit.then])
    refine bodyPost_ret (v := .tuple #[.agg #[.slice none 0 0, .slice none 0 0], .bool false]) (by simp [results, Tryz.results6, go_sem, y0, y1]; try rfl) rfl ?_
    rw [(mk_f NO.out).1, (mk_f NO.out).2, NO.out]
    exact ⟨none, 0, none, 0, rfl, Owned.nil strE_len _ _ _, Owned.nil lineE_len _ _ _, by (repeat' (first | (with_reducible exact Below.refl _ _) | (with_reducible assumption) | (with_reducible refine below_drewN ?_ _) | (with_reducible refine Below.drew ?_) | (with_reducible refine below_alloc ?_ _) | (with_reducible refine Below.alloc ?_ ?_ _) | (with_reducible refine Below.setCell ?_ ?_ _) | (with_reducible refine below_go ?_ (by with_reducible assumption)) | (with_reducible refine below_then (by with_reducible assumption) ?_ ?_) | go_size))⟩
  obtain ⟨hk, hgt⟩ := goodF_t' hf
  obtain ⟨m, rfl⟩ : ∃ m : Nat, st = (m : Int) := ⟨st.toNat, by
    have := (goodM_t (goodK_t hk).1).2.1
    omega⟩
  have hm : ((m : Int)).toNat = m := rfl
  rw [hm] at HQ
  obtain ⟨⟨h3, h8⟩, ⟨hn1, hn40⟩, _⟩ := goodK_all hk
  obtain ⟨ht1, ht60, _⟩ := goodT_t hgt
  rw [hn] at hn1 hn40
  have hmul : t.size * n ≤ 2400 := Nat.le_trans (Nat.mul_le_mul ht60 hn40) (by decide)
  have hmI : ((t.size * n : Nat) : Int) = (t.size : Int) * (n : Int) := by push_cast; rfl
  have hwr : IntKind.i64.wrap ((t.size : Int) * (n : Int)) = (t.size : Int) * (n : Int) := wrap_id (by omega)
  have HF := Lib.hid hf
  have HN := Lib.hid hn
  have k0 := K0.cell 0; have k1 := K0.cell 1; have k2 := K0.cell 2; have q0 := K1.cell 0; have q1 := K1.cell 1
  simp only [List.getElem?_cons_zero, List.getElem?_cons_succ] at k0 k1 k2 q0 q1
  clear hf hn hm
  by_cases h800 : t.size * n ≤ 800
  rotate_left
  · have NO := Lib.hid (show mkOk nm m l kb ks t = false by rw [HQ.out, HRQ.out, HF.out, HN.out, decide_eq_false h800]; rfl)
    have r0 := K2.cell 0; have r1 := K2.cell 1
    simp only [List.getElem?_cons_zero, List.getElem?_cons_succ] at r0 r1
    have f0 := K2.frozen 0
    have f1 := K2.frozen 1
    have hI : (t.size : Int) * (n : Int) > 800 := by omega
    go_wp2
    clear r0 r1
    have Z := (K2.set_ 0 (.slice none 0 0)).set_ 1 (.slice none 0 0)
    have y0 := Z.cell 0; have y1 := Z.cell 1
    simp only [List.set_cons_zero, List.set_cons_succ, List.getElem?_cons_zero, List.getElem?_cons_succ] at y0 y1
    (try simp only [Exit.inBlock, Exit.then])
    refine bodyPost_ret (v := .tuple #[.agg #[.slice none 0 0, .slice none 0 0], .bool false]) (by simp [results, Tryz.results6, go_sem, y0, y1]; try rfl) rfl ?_
    rw [(mk_f NO.out).1, (mk_f NO.out).2, NO.out]
    exact ⟨none, 0, none, 0, rfl, Owned.nil strE_len _ _ _, Owned.nil lineE_len _ _ _, by (repeat' (first | (with_reducible exact Below.refl _ _) | (with_reducible assumption) | (with_reducible refine below_drewN ?_ _) | (with_reducible refine Below.drew ?_) | (with_reducible refine below_alloc ?_ _) | (with_reducible refine Below.alloc ?_ ?_ _) | (with_reducible refine Below.setCell ?_ ?_ _) | (with_reducible refine below_go ?_ (by with_reducible assumption)) | (with_reducible refine below_then (by with_reducible assumption) ?_ ?_) | go_size))⟩
  have hI : ¬ (t.size : Int) * (n : Int) > 800 := by omega
  have HRO := Lib.hid (show rowsOk nm m l kb ks t = true by rw [HRQ.out, HF.out, HN.out, decide_eq_true h800]; rfl)
  clear hmul
  go_wp2_with fail
  refine (spec_l20Heads HN.out (h.up B1) hk hgt hcap).mono ?_; rintro e w2 ⟨AH, cH, rfl, oH, hb2⟩
  have b3 : Below w2.heap.size w2 (w2.alloc (.cells #[.slice AH (t.size + 1) cH, .slice none 0 0] 31)) := by (repeat' (first | (with_reducible exact Below.refl _ _) | (with_reducible assumption) | (with_reducible refine below_drewN ?_ _) | (with_reducible refine Below.drew ?_) | (with_reducible refine below_alloc ?_ _) | (with_reducible refine Below.alloc ?_ ?_ _) | (with_reducible refine Below.setCell ?_ ?_ _) | (with_reducible refine below_go ?_ (by with_reducible assumption)) | (with_reducible refine below_then (by with_reducible assumption) ?_ ?_) | go_size))
  have K8 := Blk.at_ w2 31 [.slice AH (t.size + 1) cH, .slice none 0 0] (b := w2.heap.size) rfl
  have B2 := below_go B1 hb2
  go_upto_region 5 with fail
  obtain ⟨p8, hp8⟩ : ∃ p, p = w2.heap.size := ⟨_, rfl⟩
  obtain ⟨w3, hw3⟩ : ∃ u, u = w2.alloc (.cells #[.slice AH (t.size + 1) cH, .slice none 0 0] 31) := ⟨_, rfl⟩
  rw [← hw3] at b3 K8
  rw [← hw3, ← hp8]
  rw [← hp8] at K8
  have HP8 := Lib.hid hp8
  have HK2L := Lib.hid (show w.heap.size + 1 + 1 < w2.heap.size from Nat.lt_of_lt_of_le K2.lt hb2.size)
  have b13 := hb2.trans (b3.mono hb2.size)
  have B3 := below_go B1 b13
  have K0 := K0.up b13
  have K2 := K2.up b13
  have oH := oH.up b3
  have hs13 : w.heap.size ≤ w1.heap.size := B1.size
  have hs23 : w1.heap.size ≤ w3.heap.size := b13.size
  clear hw3 hp8 b3 hb2 b13 B1 B2 k0 k1 k2 q0 q1 K1
  have k1 := K0.cell 1
  simp only [List.getElem?_cons_zero, List.getElem?_cons_succ] at k1
  have hF40 := fact_le m (by omega)
  go_wp2_with fail
  refine (spec_l6Seen h8).mono ?_; rintro e w4 ⟨gb, rfl, oB, hb4⟩
  have B4 := below_go B3 hb4
  have K0 := K0.up hb4
  have K2 := K2.up hb4
  have K8 := K8.up hb4
  have oH := oH.up hb4
  have hs34 : w3.heap.size ≤ w4.heap.size := hb4.size
  have hmk := run_make_rec (P := Tryz.prog) (e := intE) Tryz.elInt 0 rfl (fact m) (by omega) (by decide)
  have oI := Owned.made (e := intE) intE_len w4 3 0 (fact m) (by omega) (Nat.le_refl w4.heap.size)
  obtain ⟨F, hF⟩ : ∃ F, F = fact m := ⟨_, rfl⟩
  rw [← hF] at hmk oI oB hF40
  rw [← hF]
  have HFF := Lib.hid hF
  rw [Nat.mul_one] at oI
  simp only [Nat.mul_one] at hmk
  have b5 : Below w4.heap.size w4 (w4.alloc (.cells (madeCells (intE 0).toArray F) 3)) := below_alloc (Below.refl _ _) _
  clear k1 hb4 hF
  go_upto_region 7 with fail
  obtain ⟨gi, hgi⟩ : ∃ g, g = w4.heap.size := ⟨_, rfl⟩
  obtain ⟨w5, hw5⟩ : ∃ u, u = w4.alloc (.cells (madeCells (intE 0).toArray F) 3) := ⟨_, rfl⟩
  rw [← hw5, ← hgi]
  rw [← hw5] at b5
  rw [← hw5, ← hgi] at oI
  have hcH := (capOf oH).1
  have B5 := below_go B4 b5
  have hs45 : w4.heap.size ≤ w5.heap.size := b5.size
  obtain ⟨gh, rfl, hgh, _, _⟩ := oH.at_ (by omega)
  obtain ⟨base, hbase⟩ : ∃ b, b = w5.heap.size := ⟨_, rfl⟩
  have HM0 : Hid (MP w w5 w.heap.size base w.heap.size (w.heap.size + 1 + 1) p8 [.string nm, .int .i64 (m : Int), .slice A n c] [.slice none 0 0, .slice none 0 0] [.slice (some ⟨gh, 0, none⟩) (t.size + 1) cH, .slice none 0 0] (some ⟨gh, 0, none⟩) (t.size + 1) cH (hdsL m l kb ks t (t.size + 1)) gb gi F (List.replicate F false) (List.replicate F 0) none 0 0 []) := Lib.hid
    { low := B5, k0 := K0.up b5, k2 := K2.up b5, k8 := K8.up b5, hd := (oH.up b5).base_le hs13, hr := fun k hk => by have := oH.blk hk; omega,
      wh := (oB.up b5).base_le (by omega), le := oI.base_le (by omega), al := Owned.nil strE_len _ _ _, wlo := Nat.le_refl _, lob := by omega, bs := by omega }
  have HMK : Hid (mkMarks F n [] (List.replicate F false) (List.replicate F 0)) := Lib.hid (marks_start F n _)
  have H800 := Lib.hid h800
  have HS := Lib.hid hs
  have HSTR := Lib.hid h
  have p0 := (HM0.out.k8).cell 0
  simp only [List.getElem?_cons_zero] at p0
  have htI : (t.size : Int) ≤ (cH : Int) := by omega
  have hgbi : ¬ gb = gi := fun e => HM0.out.wh.ne HM0.out.le (by decide) gb rfl (by rw [e]; rfl)
  have hgib : ¬ gi = gb := fun e => hgbi e.symm
  have hp82 : w.heap.size + 1 + 1 ≠ p8 := fun e => by have h1 := HP8.out; have h2 := HK2L.out; omega
  have hp8w : w.heap.size ≤ p8 := by have h1 := HP8.out; have h2 := HK2L.out; omega
  clear hw5 hgi hbase b5 oI oB oH K0 K2 K8 B3 B4 B5 hs13 hs23 hs34 hs45 hs h hmk hmI hwr h800 hI hst
  go_wp2
  clear p0
  go_loopw [9, 12, 13, 14, 15, 16, 17, 18, 54, 68] (fun v9 _ _ _ _ _ _ _ v54 _ wr => ∃ (k : Nat) (Aa : Option Addr) (ca : Nat) (B : List Bool) (I : List Int), v54 = .int .i64 k ∧ k ≤ t.size ∧ v9 = .slice Aa (k * n) ca ∧ Hid (MP w wr w.heap.size base w.heap.size (w.heap.size + 1 + 1) p8 [.string nm, .int .i64 (m : Int), .slice A n c] [.slice none 0 0, .slice none 0 0] [.slice (some ⟨gh, 0, none⟩) (t.size + 1) cH, .slice none 0 0] (some ⟨gh, 0, none⟩) (t.size + 1) cH (hdsL m l kb ks t (t.size + 1)) gb gi F B I Aa (k * n) ca (tRows m l kb ks t k)) ∧ Hid (mkMarks F n (tRows m l kb ks t k) B I)) (fun _ _ _ _ _ _ _ _ v54 _ _ => t.size - (intOf v54).toNat)
  case atStart => exact ⟨0, none, 0, _, _, rfl, Nat.zero_le _, by rw [Nat.zero_mul], by rw [Nat.zero_mul]; exact HM0, HMK⟩
  case round =>
    clear HM0 HMK
    obtain ⟨k, Aa, ca, B, I, rfl, hkt, rfl, HM, HMK⟩ := hrel
    rename World => wr
    by_cases hlt : k < t.size
    · have hI : (k : Int) < (t.size : Int) := by omega
      obtain ⟨gq, hgeq, _, _, fc, _⟩ := HM.out.hd.at_ (by omega)
      injection hgeq with hgeq
      injection hgeq with hgeq
      subst hgeq
      have hc := fc k (hdAt m l kb ks t k) 0 _ (hdsL_at (by omega)) rfl
      simp only [Nat.mul_one, Nat.add_zero] at hc
      have c2 := HM.out.k0.cell 2
      simp only [List.getElem?_cons_zero, List.getElem?_cons_succ] at c2
      have hgd := hdAt_good h3 h8 l kb ks t k
      have HRN := Lib.hid (show RowN m (hdAt m l kb ks t k) from hgd)
      have hgs : (hdAt m l kb ks t k).size ≤ 8 := by rw [hgd.2]; exact h8
      clear fc hgd
      go_wp2_with fail
      refine (spec_l4Lead (a := hdAt m l kb ks t k) hgs HN.out (HSTR.out.below HM.out.low (Nat.le_refl _)) (by omega) HS.out).mono ?_; rintro e w6 ⟨A14, c14, rfl, o14, hb6⟩
      obtain ⟨RW, hRW⟩ : ∃ RW, RW = rowsL (hdAt m l kb ks t k) l n := ⟨_, rfl⟩
      rw [← hRW] at o14
      have HRW := Lib.hid (show RW = rowsL (hdAt m l kb ks t k) l l.length by rw [HN.out]; exact hRW)
      have HRWN : Hid (∀ x ∈ RW, RowN m x) := Lib.hid (by rw [hRW]; exact rowsLN HRN.out l n)
      have HM6 := Lib.hid (HM.out.up hb6)
      have HO14 := Lib.hid o14
      have HNE : Hid (∀ q, (Value.slice A14 n c14).ownBlock = some q → (Value.slice Aa (k * n) ca).ownBlock ≠ some q) := Lib.hid (fun q hq e => by have h1 := (o14.blk hq).1; have h2 := (HM.out.al.blk e).2; omega)
      clear hc c2 hb6 o14 hRW HM hgs
      go_wp2
      go_loopw [9, 16, 17, 18, 68] (fun v9 _ _ _ v68 wq => ∃ (j : Nat) (Aa : Option Addr) (ca : Nat) (B : List Bool) (I : List Int), v68 = .int .i64 j ∧ j ≤ n ∧ v9 = .slice Aa (k * n + j) ca ∧ Hid (MP w wq w.heap.size base w.heap.size (w.heap.size + 1 + 1) p8 [.string nm, .int .i64 (m : Int), .slice A n c] [.slice none 0 0, .slice none 0 0] [.slice (some ⟨gh, 0, none⟩) (t.size + 1) cH, .slice none 0 0] (some ⟨gh, 0, none⟩) (t.size + 1) cH (hdsL m l kb ks t (t.size + 1)) gb gi F B I Aa (k * n + j) ca (tRows m l kb ks t k ++ RW.take j)) ∧ Hid (mkMarks F n (tRows m l kb ks t k ++ RW.take j) B I) ∧ Hid (Owned strE 1 9 wq wr.heap.size A14 n c14 RW) ∧ Hid (∀ q, (Value.slice A14 n c14).ownBlock = some q → (Value.slice Aa (k * n + j) ca).ownBlock ≠ some q)) (fun _ _ _ _ v68 _ => n - (intOf v68).toNat)
      case atStart => exact ⟨0, Aa, ca, B, I, rfl, Nat.zero_le _, rfl, by rw [List.take_zero, List.append_nil]; exact HM6, by rw [List.take_zero, List.append_nil]; exact HMK, HO14, HNE⟩
      case round =>
        clear HM6 HMK HO14 HNE
        obtain ⟨j, Aa, ca, B, I, rfl, hjn, rfl, HM, HMK, HO14, HNE⟩ := hrel
        rename World => wq
        by_cases hjlt : j < n
        · have hJ : (j : Int) < (n : Int) := by omega
          obtain ⟨r, hr⟩ := some_of_lt (l := RW) (k := j) (by rw [HO14.out.len]; exact hjlt)
          obtain ⟨g14, rfl, _, hg14, fc, _⟩ := HO14.out.at_ (by omega)
          have hc := fc j r 0 _ hr rfl
          simp only [Nat.mul_one, Nat.add_zero] at hc
          have HRR := Lib.hid hr
          have hrN := HRWN.out r (List.mem_of_getElem? hr)
          have HRN2 := Lib.hid hrN
          have hrs : r.size ≤ 8 := by rw [hrN.2]; exact h8
          have HPL := Lib.hid (rowN_place hrN)
          clear fc hr hrN
          go_wp2_with fail
          refine (spec_l1Place (s := r) hrs).mono ?_; rintro e w7 ⟨rfl, hb7⟩
          obtain ⟨p, hp⟩ : ∃ p, p = place r := ⟨_, rfl⟩
          have hpF : p < F := by rw [hp, HFF.out]; exact HPL.out
          rw [← hp]
          have HP := Lib.hid hp
          have HM7 := Lib.hid (HM.out.up hb7)
          have HO7 := Lib.hid (HO14.out.up hb7)
          clear hb7 hc HM HO14 hp
          obtain ⟨y, hy⟩ := some_of_lt (l := B) (k := p) (by rw [HM7.out.wh.len]; exact hpF)
          obtain ⟨gq, hge1, _, _, fb, fbz⟩ := HM7.out.wh.at_ (by omega)
          injection hge1 with hge1
          injection hge1 with hge1
          subst hge1
          have hcb := fb p y 0 _ hy rfl
          have fzb := fbz p
          simp only [Nat.mul_one, Nat.add_zero] at hcb
          have HYB := Lib.hid hy
          have hpI : (p : Int) < (F : Int) := by omega
          clear fb fbz hy
          rcases y
          · obtain ⟨yi, hyi⟩ := some_of_lt (l := I) (k := p) (by rw [HM7.out.le.len]; exact hpF)
            obtain ⟨gr, hge2, _, _, fi, fiz⟩ := HM7.out.le.at_ (by omega)
            injection hge2 with hge2
            injection hge2 with hge2
            subst hge2
            have hci := fi p yi 0 _ hyi rfl
            have fzi := fiz p
            simp only [Nat.mul_one, Nat.add_zero] at hci
            have hbs7 := HM7.out.bs
            have hkn : k * n + j ≤ 800 := by
              have h1 : (k + 1) * n ≤ t.size * n := Nat.mul_le_mul_right n hlt
              have h2 := H800.out
              rw [Nat.succ_mul] at h1
              omega
            have HM8 := HM7.out.setB (v := true) HYB.out
            have HM9 := Lib.hid (HM8.setI (v := (k : Int) * 40 + (j : Int)) hyi)
            have hRl : (tRows m l kb ks t k ++ RW.take j).length = k * n + j := by
              rw [List.length_append, tRows_len, List.length_take, HN.out, HO7.out.len]; omega
            have hdiv : (k * n + j) / n = k := by rw [Nat.add_comm, Nat.add_mul_div_right _ _ (by omega), Nat.div_eq_of_lt hjlt, Nat.zero_add]
            have hmod : (k * n + j) % n = j := by rw [Nat.add_comm, Nat.add_mul_mod_self_right, Nat.mod_eq_of_lt hjlt]
            have HMK2 : Hid (mkMarks F n (tRows m l kb ks t k ++ RW.take (j + 1)) (B.set p true) (I.set p ((k : Int) * 40 + (j : Int)))) := Lib.hid (by
              rw [take_succ_some HRR.out, ← List.append_assoc, HP.out]
              refine marks_step HMK.out (fun x hx => ?_) HRN2.out HFF.out (by rw [← HP.out]; exact HYB.out) HM7.out.wh.len HM7.out.le.len ?_
              · rcases List.mem_append.1 hx with q | q
                · exact tRowsN h3 h8 l kb ks t k x q
                · exact HRWN.out x (List.mem_of_mem_take q)
              · rw [hRl, hdiv, hmod]; push_cast; rfl)
            have HO9 : Hid (Owned strE 1 9 ((w7.setCell ⟨gb, p, none⟩ (.bool true)).setCell ⟨gi, p, none⟩ (.int .i64 ((k : Int) * 40 + (j : Int)))) wr.heap.size (some ⟨g14, 0, none⟩) n c14 RW) := Lib.hid
              ((HO7.out.kept (only_set (p := ⟨gb, p, none⟩) _ _) (fun q hq e => HO7.out.ne HM7.out.wh (by decide) q hq e)).kept (only_set (p := ⟨gi, p, none⟩) _ _) (fun q hq e => HO7.out.ne HM7.out.le (by decide) q hq e))
            have hg7 : g14 < w7.heap.size := HO7.out.at_own.2
            clear fi fiz hyi HM8 hRl hdiv hmod HMK HM7 HO7
            go_wp2_with (at_builtin; go_must ((refine wpList_append_rec3 Tryz.elStr rfl (.tmp 90) (.tmp 92) rfl rfl ((HM9.out.up (below_alloc (Below.refl _ _) _)).al) r rfl (Box.at_ _ [.string r] _ ?_) (strE_one _) ?_ (by decide) ?_ ?_; (focus (first | omega | (simp only [World.size_alloc]; done) | (simp only [World.size_alloc]; omega) | (simp; done) | (simp; omega))); (focus (first | omega | (simp only [World.size_alloc]; done) | (simp only [World.size_alloc]; omega) | (simp; done) | (simp; omega))); (focus (first | omega | (simp only [World.size_alloc]; done) | (simp only [World.size_alloc]; omega) | (simp; done) | (simp; omega))); intro A8 c8 w8 ho8 hg8 hl8)))
            have HM10 : Hid (MP w w8 w.heap.size base w.heap.size (w.heap.size + 1 + 1) p8 [.string nm, .int .i64 (m : Int), .slice A n c] [.slice none 0 0, .slice none 0 0] [.slice (some ⟨gh, 0, none⟩) (t.size + 1) cH, .slice none 0 0] (some ⟨gh, 0, none⟩) (t.size + 1) cH (hdsL m l kb ks t (t.size + 1)) gb gi F (B.set p true) (I.set p ((k : Int) * 40 + (j : Int))) A8 (k * n + (j + 1)) c8 (tRows m l kb ks t k ++ RW.take (j + 1))) := Lib.hid (by
              rw [take_succ_some HRR.out, ← List.append_assoc]
              exact (HM9.out.up (below_alloc (Below.refl _ _) _)).app ho8 hg8)
            have HNE2 : Hid (∀ q, (Value.slice (some ⟨g14, 0, none⟩) n c14).ownBlock = some q → (Value.slice A8 (k * n + (j + 1)) c8).ownBlock ≠ some q) := Lib.hid (fun q hq e => by
              rcases hl8 q e with h | h
              · exact HNE.out q hq h
              · injection hq with hq
                dsimp only at hq
                simp at h
                omega)
            have HO10 := Lib.hid ((HO9.out.up (below_alloc (Below.refl _ _) _)).kept hg8 (fun q hq e => HNE.out q hq e))
            clear ho8 hg8 hl8 hcb hci fzb fzi
            go_roundw
            case rel => exact ⟨j + 1, A8, c8, B.set p true, I.set p ((k : Int) * 40 + (j : Int)), by go_num, by omega, rfl, HM10, HMK2, HO10, HNE2⟩
            case measure => simp [intOf]; omega
          · have HD : Hid (¬ (tRows m l kb ks t t.size).Nodup) := Lib.hid (by
              obtain ⟨rest, e⟩ := tRows_pre (st := m) (l := l) (b := kb) (s := ks) (t := t) (T := t.size) hlt (by rw [← HRW.out]; exact HRR.out)
              rw [e, ← HRW.out]
              refine dup_no (marks_dup HMK.out (fun x hx => ?_) HRN2.out HFF.out (by rw [← HP.out]; exact HYB.out))
              rcases List.mem_append.1 hx with q | q
              · exact tRowsN h3 h8 l kb ks t k x q
              · exact HRWN.out x (List.mem_of_mem_take q))
            have NO := Lib.hid (show mkOk nm m l kb ks t = false by rw [HQ.out, HRO.out, decide_eq_false HD.out]; rfl)
            have r0 := HM7.out.k2.cell 0; have r1 := HM7.out.k2.cell 1
            simp only [List.getElem?_cons_zero, List.getElem?_cons_succ] at r0 r1
            have f0 := HM7.out.k2.frozen 0
            have f1 := HM7.out.k2.frozen 1
            have hlow := HM7.out.low
            have hlt2 := HM7.out.k2.lt
            go_wp2
            clear r0 r1
            have Z := ((HM7.out.k2).set_ 0 (.slice none 0 0)).set_ 1 (.slice none 0 0)
            have y0 := Z.cell 0; have y1 := Z.cell 1
            simp only [List.set_cons_zero, List.set_cons_succ, List.getElem?_cons_zero, List.getElem?_cons_succ] at y0 y1
            (try simp only [Exit.inBlock, Exit.then])
            refine bodyPost_ret (v := .tuple #[.agg #[.slice none 0 0, .slice none 0 0], .bool false]) (by simp [results, Tryz.results6, go_sem, y0, y1]; try rfl) rfl ?_
            rw [(mk_f NO.out).1, (mk_f NO.out).2, NO.out]
            exact ⟨none, 0, none, 0, rfl, Owned.nil strE_len _ _ _, Owned.nil lineE_len _ _ _, by (repeat' (first | (with_reducible exact Below.refl _ _) | (with_reducible assumption) | (with_reducible refine below_drewN ?_ _) | (with_reducible refine Below.drew ?_) | (with_reducible refine below_alloc ?_ _) | (with_reducible refine Below.alloc ?_ ?_ _) | (with_reducible refine Below.setCell ?_ ?_ _) | (with_reducible refine below_go ?_ (by with_reducible assumption)) | (with_reducible refine below_then (by with_reducible assumption) ?_ ?_) | go_size))⟩

        · have hJ : ¬ (j : Int) < (n : Int) := by omega
          obtain rfl : j = n := by omega
          have HM11 : Hid (MP w wq w.heap.size base w.heap.size (w.heap.size + 1 + 1) p8 [.string nm, .int .i64 (m : Int), .slice A j c] [.slice none 0 0, .slice none 0 0] [.slice (some ⟨gh, 0, none⟩) (t.size + 1) cH, .slice none 0 0] (some ⟨gh, 0, none⟩) (t.size + 1) cH (hdsL m l kb ks t (t.size + 1)) gb gi F B I Aa ((k + 1) * j) ca (tRows m l kb ks t (k + 1))) := Lib.hid (by
            have := HM.out
            rw [List.take_of_length_le (by rw [HO14.out.len]; exact Nat.le_refl _), HRW.out, ← tRows_succ] at this
            rw [Nat.succ_mul]; exact this)
          have HMK11 : Hid (mkMarks F j (tRows m l kb ks t (k + 1)) B I) := Lib.hid (by
            have := HMK.out
            rw [List.take_of_length_le (by rw [HO14.out.len]; exact Nat.le_refl _), HRW.out, ← tRows_succ] at this
            exact this)
          have hsm : k * j + j = (k + 1) * j := (Nat.succ_mul k j).symm
          go_wp2
          go_roundw
          case rel => exact ⟨k + 1, Aa, ca, B, I, by go_num, by omega, by rw [hsm], HM11, HMK11⟩
          case measure => simp [intOf]; omega
    · have hI : ¬ (k : Int) < (t.size : Int) := by omega
      obtain rfl : k = t.size := by omega
      have HND := Lib.hid HMK.out.1
      obtain ⟨gq, hgeq, _, _, fc, _⟩ := HM.out.hd.at_ (by omega)
      injection hgeq with hgeq
      injection hgeq with hgeq
      subst hgeq
      have hc := fc t.size (hdAt m l kb ks t t.size) 0 _ (hdsL_at (by omega)) rfl
      simp only [Nat.mul_one, Nat.add_zero] at hc
      have e0 := HM.out.k8.cell 0
      have e1 := HM.out.k0.cell 1
      simp only [List.getElem?_cons_zero, List.getElem?_cons_succ] at e0 e1
      have htc : (t.size : Int) < ((t.size + 1 : Nat) : Int) := by omega
      clear fc
      obtain ⟨X, hX⟩ : ∃ X, X = hdAt m l kb ks t t.size := ⟨_, rfl⟩
      rw [← hX] at hc
      have HX := Lib.hid hX
      clear hX
      by_cases hXR : X = roundsS m
      rotate_left
      · have hne := bytesNe hXR
        go_wp2
        go_quiet ((first | (go_at_call 21; exact quiet_left (spec_l1Rounds h8))))
        have HMd := Lib.hid (HM.out.up (below_drewN (Below.refl _ _) nq))
        clear hc e0 e1
        have NO := Lib.hid (show mkOk nm m l kb ks t = false by rw [HQ.out, HRO.out, decide_eq_true HND.out, decide_eq_false (fun e => hXR (HX.out.trans e))]; rfl)
        have r0 := HMd.out.k2.cell 0; have r1 := HMd.out.k2.cell 1
        simp only [List.getElem?_cons_zero, List.getElem?_cons_succ] at r0 r1
        have f0 := HMd.out.k2.frozen 0
        have f1 := HMd.out.k2.frozen 1
        have hlow := HMd.out.low
        have hlt2 := HMd.out.k2.lt
        go_wp2
        clear r0 r1
        have Z := ((HMd.out.k2).set_ 0 (.slice none 0 0)).set_ 1 (.slice none 0 0)
        have y0 := Z.cell 0; have y1 := Z.cell 1
        simp only [List.set_cons_zero, List.set_cons_succ, List.getElem?_cons_zero, List.getElem?_cons_succ] at y0 y1
        (try simp only [Exit.inBlock, Exit.then])
        refine bodyPost_ret (v := .tuple #[.agg #[.slice none 0 0, .slice none 0 0], .bool false]) (by simp [results, Tryz.results6, go_sem, y0, y1]; try rfl) rfl ?_
        rw [(mk_f NO.out).1, (mk_f NO.out).2, NO.out]
        exact ⟨none, 0, none, 0, rfl, Owned.nil strE_len _ _ _, Owned.nil lineE_len _ _ _, by (repeat' (first | (with_reducible exact Below.refl _ _) | (with_reducible assumption) | (with_reducible refine below_drewN ?_ _) | (with_reducible refine Below.drew ?_) | (with_reducible refine below_alloc ?_ _) | (with_reducible refine Below.alloc ?_ ?_ _) | (with_reducible refine Below.setCell ?_ ?_ _) | (with_reducible refine below_go ?_ (by with_reducible assumption)) | (with_reducible refine below_then (by with_reducible assumption) ?_ ?_) | go_size))⟩

      · have heq : ((roundsS m).toList == (roundsS m).toList) = true := by simp
        subst hXR
        go_wp2
        go_quiet ((first | (go_at_call 21; exact quiet_left (spec_l1Rounds h8))))
        have HMd := Lib.hid (HM.out.up (below_drewN (Below.refl _ _) nq))
        obtain ⟨wd, hwd⟩ : ∃ u, u = wr.drewN nq := ⟨_, rfl⟩
        rw [← hwd] at HMd
        rw [← hwd]
        have OK := Lib.hid (show mkOk nm m l kb ks t = true by rw [HQ.out, HRO.out, decide_eq_true HND.out, decide_eq_true HX.out.symm]; rfl)
        have hN800 := H800.out
        clear hc e0 e1 HM hwd
        go_wp2_with fail
        refine (spec_l6Sort (t.size * n) Aa ca (tRows m l kb ks t t.size) _ (by rw [tRows_len, HN.out]) HMd.out.al.recs (by omega) (fun x hx => by have := (tRowsN h3 h8 l kb ks t _ x hx).2; omega)).mono ?_; rintro e w6 ⟨AS, cS, SL, rfl, oS, hperm, hsrt, hb6⟩
        have HSL := Lib.hid (sort_is hperm hsrt)
        have HPM := Lib.hid hperm
        have HM6 := Lib.hid (HMd.out.up hb6)
        have HOS := Lib.hid oS
        clear HMd hb6 oS hperm hsrt
        go_wp2
        go_loopw [20, 21, 110] (fun _ _ vj wq => ∃ (j : Nat) (AL : Option Addr) (cL : Nat), vj = .int .i64 j ∧ j ≤ t.size * n ∧ Hid (MP w wq w.heap.size base w.heap.size (w.heap.size + 1 + 1) p8 [.string nm, .int .i64 (m : Int), .slice A n c] [.slice none 0 0, .slice none 0 0] [.slice (some ⟨gh, 0, none⟩) (t.size + 1) cH, .slice AL j cL] (some ⟨gh, 0, none⟩) (t.size + 1) cH (hdsL m l kb ks t (t.size + 1)) gb gi F B I Aa (t.size * n) ca (tRows m l kb ks t t.size)) ∧ Hid (Owned lineE 3 55 wq w.heap.size AL j cL ((SL.take j).map (gLn n (tRows m l kb ks t t.size)))) ∧ Hid (Owned strE 1 9 wq wd.heap.size AS (t.size * n) cS SL)) (fun _ _ vj _ => t.size * n - (intOf vj).toNat)
        case atStart => exact ⟨0, none, 0, rfl, Nat.zero_le _, HM6, Lib.hid (Owned.nil lineE_len _ _ _), HOS⟩
        case round =>
          clear HM6 HOS
          obtain ⟨j, AL, cL, rfl, hjn, HM, HOL, HOS⟩ := hrel
          rename World => wq
          by_cases hjlt : j < t.size * n
          · have hJ : (j : Int) < ((t.size * n : Nat) : Int) := by omega
            obtain ⟨r, hr⟩ := some_of_lt (l := SL) (k := j) (by rw [HOS.out.len]; exact hjlt)
            obtain ⟨gS, rfl, _, hgS, fc, _⟩ := HOS.out.at_ (by omega)
            have hc := fc j r 0 _ hr rfl
            simp only [Nat.mul_one, Nat.add_zero] at hc
            have HRR := Lib.hid hr
            have hrR := HPM.out.mem_iff.1 (List.mem_of_getElem? hr)
            have hrN := tRowsN h3 h8 l kb ks t _ r hrR
            obtain ⟨i, hi⟩ := List.mem_iff_getElem?.1 hrR
            have hil := (List.getElem?_eq_some_iff.1 hi).1
            rw [tRows_len, HN.out] at hil
            have HG := Lib.hid (gLn_at (n := n) HND.out hi)
            have HIP := Lib.hid (HMK.out.2.2 i r hi)
            have HPF := Lib.hid (show place r < F by rw [HFF.out]; exact rowN_place hrN)
            have hrs : r.size ≤ 8 := by rw [hrN.2]; exact h8
            clear fc hr hrR hrN hi
            go_wp2_with fail
            refine (spec_l1Place (s := r) hrs).mono ?_; rintro e w7 ⟨rfl, hb7⟩
            obtain ⟨p, hp⟩ : ∃ p, p = place r := ⟨_, rfl⟩
            rw [← hp]
            have hpF : p < F := by rw [hp]; exact HPF.out
            have HIP2 : Hid (I[p]? = some (((i / n * 40 + i % n : Nat)) : Int)) := Lib.hid (by rw [hp]; exact HIP.out)
            have HM7 := Lib.hid (HM.out.up hb7)
            have HOL7 := Lib.hid (HOL.out.up hb7)
            have HOS7 := Lib.hid (HOS.out.up hb7)
            clear hb7 hc HM HOL HOS hp
            obtain ⟨gr, hge2, _, _, fi, _⟩ := HM7.out.le.at_ (by omega)
            injection hge2 with hge2
            injection hge2 with hge2
            subst hge2
            obtain ⟨x1, hx1⟩ : ∃ x, x = i / n := ⟨_, rfl⟩
            obtain ⟨x2, hx2⟩ : ∃ x, x = i % n := ⟨_, rfl⟩
            have hx2n : x2 < n := by rw [hx2]; exact Nat.mod_lt _ (by omega)
            have hx1n : x1 ≤ 800 := by rw [hx1]; exact Nat.le_trans (Nat.div_le_self _ _) (by omega)
            obtain ⟨q, hq⟩ : ∃ q : Nat, q = x1 * 40 + x2 := ⟨_, rfl⟩
            have hci := fi p (q : Int) 0 _ (by rw [HIP2.out, hq, hx1, hx2]) rfl
            simp only [Nat.mul_one, Nat.add_zero] at hci
            have d1 : (q : Int) / 40 = (x1 : Int) := by omega
            have d2 : (q : Int) % 40 = (x2 : Int) := by omega
            have d3 : (q : Int).tdiv 40 = (x1 : Int) := by rw [Int.tdiv_eq_ediv_of_nonneg (by omega)]; exact d1
            have d4 : (q : Int).tmod 40 = (x2 : Int) := by rw [Int.tmod_eq_emod_of_nonneg (by omega)]; exact d2
            have HG2 : Hid (gLn n (tRows m l kb ks t t.size) r = (r, (x1 : Int), (x2 : Int))) := Lib.hid (by rw [HG.out, hx1, hx2])
            have hpI : (p : Int) < (F : Int) := by omega
            have e0 := HM7.out.k8.cell 0; have e1 := HM7.out.k8.cell 1
            simp only [List.getElem?_cons_zero, List.getElem?_cons_succ] at e0 e1
            have hbs7 := HM7.out.bs
            have hwl7 := HM7.out.low.size
            clear fi hx1 hx2 hq HIP HIP2 HG
            go_wp2_with (at_builtin; go_must ((refine wpList_append_rec Tryz.elLine rfl (.tmp 120) (.tmp 127) rfl rfl (HOL7.out.alloc _) (r, (x1 : Int), (x2 : Int)) rfl (Box.at_ _ [.string r, .int .i64 (x1 : Int), .int .i64 (x2 : Int)] _ ?_) (lineUp _) ?_ (by decide) ?_ ?_; (focus (first | omega | (simp only [World.size_alloc]; done) | (simp only [World.size_alloc]; omega) | (simp; done) | (simp; omega))); (focus (first | omega | (simp only [World.size_alloc]; done) | (simp only [World.size_alloc]; omega) | (simp; done) | (simp; omega))); (focus (first | omega | (simp only [World.size_alloc]; done) | (simp only [World.size_alloc]; omega) | (simp; done) | (simp; omega))); intro A8 c8 w8 ho8 hg8 hb8; have HM8 := ((HM7.out.up (below_alloc (Below.refl _ _) _)).grownL (HOL7.out.alloc _) hg8); have z80 := HM8.k8.cell 0; have z81 := HM8.k8.cell 1; simp only [List.getElem?_cons_zero, List.getElem?_cons_succ] at z80 z81; have f81 := HM8.k8.frozen 1)))
            have HM9 : Hid (MP w (w8.setCell ⟨p8, 1, none⟩ (.slice A8 (j + 1) c8)) w.heap.size base w.heap.size (w.heap.size + 1 + 1) p8 [.string nm, .int .i64 (m : Int), .slice A n c] [.slice none 0 0, .slice none 0 0] [.slice (some ⟨gh, 0, none⟩) (t.size + 1) cH, .slice A8 (j + 1) c8] (some ⟨gh, 0, none⟩) (t.size + 1) cH (hdsL m l kb ks t (t.size + 1)) gb gi F B I Aa (t.size * n) ca (tRows m l kb ks t t.size)) := Lib.hid (by
              have := HM8.set8 (v := .slice A8 (j + 1) c8) hp8w hp82
              simpa only [List.set_cons_zero, List.set_cons_succ] using this)
            have HOL9 : Hid (Owned lineE 3 55 (w8.setCell ⟨p8, 1, none⟩ (.slice A8 (j + 1) c8)) w.heap.size A8 (j + 1) c8 ((SL.take (j + 1)).map (gLn n (tRows m l kb ks t t.size)))) := Lib.hid (by
              rw [take_succ_some HRR.out, List.map_append, List.map_cons, List.map_nil, HG2.out]
              exact ho8.kept (only_set (p := ⟨p8, 1, none⟩) _ _) (fun q hq e => blkNe ho8 HM8.k8 (by decide) (e.trans hq.symm)))
            have hos8 := (HOS7.out.alloc (.cells #[.string r, .int .i64 (x1 : Int), .int .i64 (x2 : Int)] 55)).kept hg8 (HOS7.out.ne HOL7.out (by decide))
            have HOS9 := Lib.hid (hos8.kept (only_set (p := ⟨p8, 1, none⟩) _ (.slice A8 (j + 1) c8)) (fun q hq e => blkNe hos8 HM8.k8 (by decide) (e.trans hq.symm)))
            clear hos8 ho8 hg8 hb8 HM8 z80 z81 f81 e0 e1 hci
            go_roundw
            case rel => exact ⟨j + 1, A8, c8, by go_num, by omega, HM9, HOL9, HOS9⟩
            case measure => simp [intOf]; omega
          · have hJ : ¬ (j : Int) < ((t.size * n : Nat) : Int) := by omega
            obtain ⟨N, hNN⟩ : ∃ N, N = t.size * n := ⟨_, rfl⟩
            have hjN : j = N := by omega
            subst hjN
            have HNN := Lib.hid hNN
            have HLN : Hid (Owned lineE 3 55 wq w.heap.size AL j cL (mpL n (tRows m l kb ks t t.size))) := Lib.hid (by
              have := HOL.out
              rw [List.take_of_length_le (by rw [HOS.out.len]; omega), HSL.out] at this
              exact this)
            have HE : Hid ((mkH nm m l kb ks t) = hdsL m l kb ks t (t.size + 1) ∧ mkM nm m l kb ks t = mpL n (tRows m l kb ks t t.size)) := Lib.hid (by
              have := mk_t OK.out
              rw [HN.out] at this
              exact this)
            have HLL : Hid ((mpL n (tRows m l kb ks t t.size)).length = j) := Lib.hid HLN.out.len
            have e0 := HM.out.k8.cell 0; have e1 := HM.out.k8.cell 1
            have r0 := HM.out.k2.cell 0; have r1 := HM.out.k2.cell 1
            simp only [List.getElem?_cons_zero, List.getElem?_cons_succ] at e0 e1 r0 r1
            have f0 := HM.out.k2.frozen 0
            have f1 := HM.out.k2.frozen 1
            have hlow := HM.out.low
            have hlt2 := HM.out.k2.lt
            clear hNN
            go_wp2
            clear r0 r1 e0 e1
            have Z := ((HM.out.k2).set_ 0 (.slice (some ⟨gh, 0, none⟩) (t.size + 1) cH)).set_ 1 (.slice AL j cL)
            have y0 := Z.cell 0; have y1 := Z.cell 1
            simp only [List.set_cons_zero, List.set_cons_succ, List.getElem?_cons_zero, List.getElem?_cons_succ] at y0 y1
            (try simp only [Exit.inBlock, Exit.then])
            refine bodyPost_ret (v := .tuple #[.agg #[.slice (some ⟨gh, 0, none⟩) (t.size + 1) cH, .slice AL j cL], .bool true]) (by simp [results, Tryz.results6, go_sem, y0, y1]; try rfl) rfl ?_
            have HEO := HE.out
            rw [HEO.1, HEO.2, OK.out, hdsL_len, HLL.out]
            refine ⟨_, cH, AL, cL, rfl, ?_, ?_, by (repeat' (first | (with_reducible exact Below.refl _ _) | (with_reducible assumption) | (with_reducible refine below_drewN ?_ _) | (with_reducible refine Below.drew ?_) | (with_reducible refine below_alloc ?_ _) | (with_reducible refine Below.alloc ?_ ?_ _) | (with_reducible refine Below.setCell ?_ ?_ _) | (with_reducible refine below_go ?_ (by with_reducible assumption)) | (with_reducible refine below_then (by with_reducible assumption) ?_ ?_) | go_size))⟩
            · exact (HM.out.hd.kept (only_set (p := ⟨w.heap.size + 1 + 1, 0, none⟩) _ _) (fun q hq e => blkNe HM.out.hd HM.out.k2 (by decide) (e.trans hq.symm))).kept (only_set (p := ⟨w.heap.size + 1 + 1, 1, none⟩) _ _) (fun q hq e => blkNe HM.out.hd HM.out.k2 (by decide) (e.trans hq.symm))
            · exact (HLN.out.kept (only_set (p := ⟨w.heap.size + 1 + 1, 0, none⟩) _ _) (fun q hq e => blkNe HLN.out HM.out.k2 (by decide) (e.trans hq.symm))).kept (only_set (p := ⟨w.heap.size + 1 + 1, 1, none⟩) _ _) (fun q hq e => blkNe HLN.out HM.out.k2 (by decide) (e.trans hq.symm))
end Go.Proofs.YtoheahbkopbmhaaGreat
/-
  DERIVED: THE SHELF's CONTRACTS AT THIS DUMP, IN PLAIN WORDS (tools/lay-plain.mjs out of 'YtoheahbkopbmhaaGreatShelf.lean', which tools/lay-shelf.mjs wrote): THE SAME DECLARATIONS UNDER THE SAME NAMES: 'import', 'namespace', 'open', 'def', 'theorem' AND NOTHING ELSE: no command of the shelf's: FOR A HAND-IN. Each laying: the table of numbers ('.._ren') and one theorem, a field a fact of the dump's own or the kernel's comparison; each contract: ONE APPLICATION.
-/
namespace Go.Proofs
open Go.Shelf
def Tryz.lays106_ren : Go.Shelf.Ren := ⟨fun | 106 => 30 | 213 => 53 | 265 => 80 | n => n, fun | 9 => 9 | 3 => 3 | n => n, fun | n => n⟩
theorem Tryz.lays106 : Go.Proofs.Lays.n106 Tryz.prog Tryz.lays106_ren := {
  mixed := by kernel_rfl
  f106 := Tryz.func30.trans (congrArg some (by kernel_rfl))
  f213 := Tryz.func53.trans (congrArg some (by kernel_rfl))
  f265 := Tryz.func80.trans (congrArg some (by kernel_rfl))
  t3 := Tryz.underlying3
  a3 := Tryz.isAgg3
  z3 := Tryz.sizeOf3
  v3 := Tryz.zeroValue3
  t9 := Tryz.underlying9
  a9 := Tryz.isAgg9
  z9 := Tryz.sizeOf9
  v9 := Tryz.zeroValue9 }
open Go.RowKit in
/-- strings.Compare: "Compare returns an integer comparing two strings lexicographically. The result will be 0 if a == b, -1 if a < b, and +1 if a > b.": IT RETURNS 'Lib.compareBytes a b'; the world is as it was. (LAID: no walk: one application.) -/
theorem Tryz.strings_Compare (a b : ByteArray) (w : World) :
    Calls Tryz.prog 30 #[.string a, .string b] w fun e w' => e = .returned (.int .i64 (Lib.compareBytes a.data.toList b.data.toList)) ∧ w' = w := Any.strings_Compare Tryz.lays106 a b w
end Go.Proofs
/-
  DERIVED: THE SHELF's CONTRACTS AT THIS DUMP, IN PLAIN WORDS (tools/lay-plain.mjs out of 'YtoheahbkopbmhaaGreatShelfl.lean', which tools/lay-shelf.mjs wrote): THE SAME DECLARATIONS UNDER THE SAME NAMES: 'import', 'namespace', 'open', 'def', 'theorem' AND NOTHING ELSE: no command of the shelf's: FOR A HAND-IN. Each laying: the table of numbers ('.._ren') and one theorem, a field a fact of the dump's own or the kernel's comparison; each contract: ONE APPLICATION.
-/
namespace Go.Proofs
open Go.Shelf
def Tryz.sortLine_ren : Go.Shelf.Ren := ⟨fun | 6 => 28 | 15 => 52 | 14 => 51 | 28 => 78 | 29 => 79 | 20 => 70 | 21 => 71 | 22 => 72 | 23 => 73 | 24 => 74 | 25 => 75 | 26 => 76 | 27 => 77 | 46 => 90 | 47 => 91 | 48 => 92 | 49 => 93 | 50 => 94 | 57 => 102 | n => n, fun | 22 => 29 | 24 => 55 | 25 => 61 | 3 => 3 | 39 => 77 | 0 => 0 | 53 => 96 | 55 => 98 | 4 => 4 | 46 => 89 | 45 => 88 | 50 => 93 | 5 => 5 | 9 => 9 | 66 => 103 | 70 => 107 | 76 => 114 | 77 => 115 | n => n, fun | n => n⟩
theorem Tryz.sortLine : Go.Proofs.SlLaysF0.n6 Tryz.prog Tryz.sortLine_ren := {
  mixed := by kernel_rfl
  f6 := ⟨Tryz.f28.name, by decide, Tryz.func28.trans (congrArg some (by kernel_rfl))⟩
  f14 := ⟨Tryz.f51.name, by decide, Tryz.func51.trans (congrArg some (by kernel_rfl))⟩
  f15 := Tryz.func52.trans (congrArg some (by kernel_rfl))
  f20 := ⟨Tryz.f70.name, by decide, Tryz.func70.trans (congrArg some (by kernel_rfl))⟩
  f21 := ⟨Tryz.f71.name, by decide, Tryz.func71.trans (congrArg some (by kernel_rfl))⟩
  f22 := ⟨Tryz.f72.name, by decide, Tryz.func72.trans (congrArg some (by kernel_rfl))⟩
  f23 := ⟨Tryz.f73.name, by decide, Tryz.func73.trans (congrArg some (by kernel_rfl))⟩
  f24 := ⟨Tryz.f74.name, by decide, Tryz.func74.trans (congrArg some (by kernel_rfl))⟩
  f25 := ⟨Tryz.f75.name, by decide, Tryz.func75.trans (congrArg some (by kernel_rfl))⟩
  f26 := ⟨Tryz.f76.name, by decide, Tryz.func76.trans (congrArg some (by kernel_rfl))⟩
  f27 := ⟨Tryz.f77.name, by decide, Tryz.func77.trans (congrArg some (by kernel_rfl))⟩
  f28 := Tryz.func78.trans (congrArg some (by kernel_rfl))
  f29 := Tryz.func79.trans (congrArg some (by kernel_rfl))
  f46 := ⟨Tryz.f90.name, by decide, Tryz.func90.trans (congrArg some (by kernel_rfl))⟩
  f47 := Tryz.func91.trans (congrArg some (by kernel_rfl))
  f48 := Tryz.func92.trans (congrArg some (by kernel_rfl))
  f49 := ⟨Tryz.f93.name, by decide, Tryz.func93.trans (congrArg some (by kernel_rfl))⟩
  f50 := ⟨Tryz.f94.name, by decide, Tryz.func94.trans (congrArg some (by kernel_rfl))⟩
  f57 := ⟨Tryz.f102.name, by decide, Tryz.func102.trans (congrArg some (by kernel_rfl))⟩
  t0 := Tryz.underlying0
  a0 := Tryz.isAgg0
  z0 := Tryz.sizeOf0
  v0 := Tryz.zeroValue0
  t3 := Tryz.underlying3
  a3 := Tryz.isAgg3
  z3 := Tryz.sizeOf3
  v3 := Tryz.zeroValue3
  t4 := Tryz.underlying4
  a4 := Tryz.isAgg4
  z4 := Tryz.sizeOf4
  v4 := Tryz.zeroValue4
  t5 := Tryz.underlying5
  a5 := Tryz.isAgg5
  z5 := Tryz.sizeOf5
  v5 := Tryz.zeroValue5
  t9 := Tryz.underlying9
  a9 := Tryz.isAgg9
  z9 := Tryz.sizeOf9
  v9 := Tryz.zeroValue9
  t22 := Tryz.underlying29
  a22 := Tryz.isAgg29
  z22 := Tryz.sizeOf29
  v22 := Tryz.zeroValue29
  t25 := Tryz.underlying61
  a25 := Tryz.isAgg61
  z25 := Tryz.sizeOf61
  v25 := Tryz.zeroValue61
  t39 := Tryz.underlying77
  a39 := Tryz.isAgg77
  z39 := Tryz.sizeOf77
  v39 := Tryz.zeroValue77
  t45 := Tryz.underlying88
  a45 := Tryz.isAgg88
  z45 := Tryz.sizeOf88
  v45 := Tryz.zeroValue88
  t46 := Tryz.underlying89
  a46 := Tryz.isAgg89
  z46 := Tryz.sizeOf89
  v46 := Tryz.zeroValue89
  t50 := Tryz.underlying93
  a50 := Tryz.isAgg93
  z50 := Tryz.sizeOf93
  v50 := Tryz.zeroValue93
  t53 := Tryz.underlying96
  a53 := Tryz.isAgg96
  z53 := Tryz.sizeOf96
  v53 := Tryz.zeroValue96
  t55 := Tryz.underlying98
  a55 := Tryz.isAgg98
  z55 := Tryz.sizeOf98
  v55 := Tryz.zeroValue98
  t66 := Tryz.underlying103
  a66 := Tryz.isAgg103
  z66 := Tryz.sizeOf103
  v66 := Tryz.zeroValue103
  t70 := Tryz.underlying107
  a70 := Tryz.isAgg107
  z70 := Tryz.sizeOf107
  v70 := Tryz.zeroValue107
  t76 := Tryz.underlying114
  a76 := Tryz.isAgg114
  z76 := Tryz.sizeOf114
  v76 := Tryz.zeroValue114
  t77 := Tryz.underlying115
  a77 := Tryz.isAgg115
  z77 := Tryz.sizeOf115
  v77 := Tryz.zeroValue115 }
end Go.Proofs
/- The library's sort by a comparison, at lines of a proof. -/
namespace Go.Proofs.YtoheahbkopbmhaaGreat
set_option linter.unusedVariables false
set_option linter.unusedSimpArgs false
open Go.ChangeShapes Go.WideShapes Go.ChangeAt Go.RowKit Go.Deep
def cmpLn (x y : Line3) : Int := Lib.compareBytes x.1.data.toList y.1.data.toList
theorem cmp_less : ∀ a b : List UInt8, decide (Lib.compareBytes a b < 0) = Op.bytesLess a b
  | [], [] => by simp [Lib.compareBytes, Op.bytesLess]
  | [], _ :: _ => by simp [Lib.compareBytes, Op.bytesLess]
  | _ :: _, [] => by simp [Lib.compareBytes, Op.bytesLess]
  | a :: r, b :: t => by
    have ih := cmp_less r t
    rw [Lib.compareBytes, Op.bytesLess, ← ih]
    rcases Nat.lt_trichotomy a.toNat b.toNat with h | h | h
    · have h1 : a < b := h
      simp [h1]
    · have h1 : a = b := UInt8.toNat_inj.1 h
      subst h1
      have h2 : ¬ a < a := Nat.lt_irrefl _
      simp [h2]
    · have h1 : b < a := h
      have h2 : ¬ a < b := fun q => Nat.lt_asymm h q
      have h3 : ¬ a = b := fun q => by subst q; exact Nat.lt_irrefl _ h
      simp [h1, h2, h3]
theorem lt_less (x y : Line3) : ltOf cmpLn x y = less x.1 y.1 := by
  rw [ltOf, cmpLn, cmp_less, less, ByteArray.toList_eq, ByteArray.toList_eq]
theorem swo_ln : Sort.SWO (ltOf cmpLn) where
  irrefl x := by rw [lt_less]; exact less_irr _
  trans x y z h1 h2 := by rw [lt_less] at *; exact less_trans h1 h2
  ntrans x y z h1 h2 := by
    rw [lt_less] at *
    have := leS_trans z.1 y.1 x.1 (by rw [leS, h2]; rfl) (by rw [leS, h1]; rfl)
    simpa [leS] using this
set_option maxHeartbeats 1000000 in
theorem impl_cmpLn (x y : Line3) (W : World) : Calls Tryz.prog 29 #[.agg #[.string x.1, .int .i64 x.2.1, .int .i64 x.2.2], .agg #[.string y.1, .int .i64 y.2.1, .int .i64 y.2.2]] W fun e w' => e = .returned (.int .i64 (cmpLn x y)) ∧ ∃ q os', w' = Sort.grow (W.drewN q) os' := by
  have hcon := fun W' => Tryz.strings_Compare x.1 y.1 W'
  have HC : Hid (cmpLn x y = Lib.compareBytes x.1.data.toList y.1.data.toList) := Lib.hid rfl
  generalize Lib.compareBytes x.1.data.toList y.1.data.toList = r at hcon HC
  obtain ⟨x1, x2, x3⟩ := x
  obtain ⟨y1, y2, y3⟩ := y
  dsimp only at hcon
  rw [HC.out]
  go_in
  go_wp2_with fail
  refine (hcon _).mono ?_; rintro e w' ⟨rfl, rfl⟩
  go_wp2
  go_ret
  exact ⟨rfl, 0, _, by rw [Sort.alloc_eq_grow, Sort.alloc_eq_grow, Sort.grow_grow]; rfl⟩
theorem flat_ln (l : List Line3) : (Sort.flatK lineE 3 l.toArray).toList = l.flatMap lineE := by
  apply List.ext_getElem?
  intro t
  by_cases ht : t < l.length * 3
  · have hq : t / 3 < l.length := by omega
    obtain ⟨x, hx⟩ := some_of_lt hq
    have a1 := flatMap_at lineE_len l (t / 3) x (t % 3) hx (by omega)
    rw [show t / 3 * 3 + t % 3 = t by omega] at a1
    rw [a1]
    have hsz : t < (Sort.flatK lineE 3 l.toArray).size := by rw [Sort.size_flatK]; simpa using ht
    have g := Sort.get_flatK lineE 3 l.toArray t (by simpa using ht)
    rw [Array.getElem?_toList, Array.getElem?_eq_getElem hsz]
    rw [getElem!_pos _ t hsz] at g
    rw [g]
    have e1 : l.toArray[t / 3]! = x := by
      have : l[t / 3]? = some x := hx
      simp [this]
    rw [e1]
    have h3 : t % 3 < (lineE x).length := by rw [lineE_len]; omega
    rw [getElem!_pos (lineE x) (t % 3) h3, List.getElem?_eq_getElem h3]
  · rw [List.getElem?_eq_none (by rw [Array.length_toList, Sort.size_flatK]; simpa using ht), List.getElem?_eq_none (by rw [flatMap_len lineE_len]; omega)]
theorem take_putK (cur : Array Value) (F : Array Value) (h : F.size ≤ cur.size) : (Sort.putCells id 0 F cur).toList.take F.size = F.toList := by
  apply List.ext_getElem?
  intro j
  by_cases hj : j < F.size
  · rw [List.getElem?_take_of_lt hj, Array.getElem?_toList, Array.getElem?_toList]
    simp [Sort.putCells, hj, show j < cur.size by omega]
  · rw [List.getElem?_take_eq_none (by omega), List.getElem?_eq_none (by simp; omega)]
theorem own_sortK {E : TypeId} {w : World} {base g n c k : Nat} {os : Array Obj} {l L : List Line3} (ho : Owned lineE 3 E w base (some ⟨g, 0, none⟩) n c l) (hl : L.length = n) :
    Owned lineE 3 E (sortWorldK lineE 3 w g 0 k L.toArray os) base (some ⟨g, 0, none⟩) n c L ∧ w.grownBy (sortWorldK lineE 3 w g 0 k L.toArray os) (some g) := by
  obtain ⟨he, hll, _, hv⟩ := ho
  rcases hv with ⟨h0, _⟩ | ⟨g', c', cur, hv, hbase, hb, h1, h2, h3, h4⟩
  · cases h0
  cases hv
  have hg : g < w.heap.size := (Array.getElem?_eq_some_iff.1 hb).1
  have hheap : (sortWorldK lineE 3 w g 0 k L.toArray os).heap[g]? = some (.cells (Sort.putCells id 0 (Sort.flatK lineE 3 L.toArray) cur) E (0, 0)) := by
    rw [sortWorldK, Sort.heap_grow_old _ _ (by simpa [Sort.putRowK, Sort.putRow, Sort.mapBlock, Sort.ahead] using hg)]
    simp [Sort.putRowK, Sort.putRow, Sort.mapBlock, Sort.ahead, Array.getElem?_modify, hb, Sort.onCells]
  have hsz : (Sort.flatK lineE 3 L.toArray).size = n * 3 := by rw [Sort.size_flatK]; simp [hl]
  refine ⟨⟨he, hl, by rw [flatMap_len lineE_len, hl], .inr ⟨g, c, _, rfl, hbase, hheap, h1, h2, by simp [Sort.putCells, h3], ?_⟩⟩, ?_⟩
  · rw [← hsz, take_putK _ _ (by rw [hsz, h3]; exact Nat.mul_le_mul_right 3 h1), flat_ln]
  · refine ⟨rfl, rfl, rfl, by simp [sortWorldK, Sort.grow, Sort.putRowK, Sort.putRow, Sort.mapBlock, Sort.ahead], fun q hq hne => ?_⟩
    rw [sortWorldK, Sort.heap_grow_old _ _ (by simpa [Sort.putRowK, Sort.putRow, Sort.mapBlock, Sort.ahead] using hq)]
    have : g ≠ q := fun e => hne (by rw [e])
    simp [Sort.putRowK, Sort.putRow, Sort.mapBlock, Sort.ahead, Array.getElem?_modify, this]
theorem sort_lines {g n c base : Nat} {l : List Line3} {w : World} (ho : Owned lineE 3 55 w base (some ⟨g, 0, none⟩) n c l) (hn : n ≤ 16777216) :
    Calls Tryz.prog 28 #[.slice (some ⟨g, 0, none⟩) n c, .func (.func 29) #[] #[]] w fun e w' => e = .returned (.tuple #[]) ∧ ∃ L, Owned lineE 3 55 w' base (some ⟨g, 0, none⟩) n c L ∧ L.Perm l ∧ Srt (L.map (·.1)) ∧ w.grownBy w' (some g) := by
  have eg : ∀ args w, (callFunc 29 args).run Tryz.prog w = .ok (.enter 29 args) w := enters_of Tryz.func29 (by kernel_rfl) rfl
  have hlen := ho.len
  have hgl := ho.at_own.2
  have hH : Sort.HoldsK lineE 3 w g 0 l.toArray := by
    obtain ⟨he, hll, _, hv⟩ := ho
    rcases hv with ⟨h0, _⟩ | ⟨g', c', cur, hv, hbase, hb, h1, h2, h3, h4⟩
    · cases h0
    cases hv
    intro j hj
    have hj' : j < n * 3 := by simpa [Sort.size_flatK, hlen] using hj
    refine ⟨?_, by simp [World.frozen?, hb]⟩
    have e := flat_ln l
    have h5 : (cur.toList.take (n * 3))[j]? = (Sort.flatK lineE 3 l.toArray).toList[j]? := by rw [h4, e]
    rw [List.getElem?_take_of_lt hj', Array.getElem?_toList, Array.getElem?_toList, Array.getElem?_eq_getElem hj] at h5
    simp only [World.cell?, hb, Nat.zero_add]
    simp only [Option.isSome_none, Bool.false_eq_true, if_false]
    rw [h5, getElem!_pos _ j hj]; rfl
  have hc := AnyQ.slices_SortFunc Tryz.sortLine 3 Tryz.isAgg55 Tryz.sizeOf55 lineE lineE_len lineUp cmpLn swo_ln 29 #[] g 0 c l.toArray w eg (fun _ _ _ _ x y => impl_cmpLn x y _) hH hgl (by simp; omega)
  rw [List.size_toArray, hlen] at hc
  refine hc.mono ?_
  rintro e w' ⟨rfl, d', k, os, hp, hs, rfl⟩
  have hsz : d'.size = n := by have := hp.1; simpa [hlen] using this
  have hL : d'.toList.toArray = d' := by simp
  have ho2 := own_sortK (k := k) (os := os) (L := d'.toList) ho (by simpa using hsz)
  rw [hL] at ho2
  refine ⟨rfl, d'.toList, ho2.1, ?_, ?_, ho2.2⟩
  · have := hp.2.2
    rw [Array.extract_eq_self_of_le (by omega), Array.extract_eq_self_of_le (by simp; omega)] at this
    simpa using this
  · rw [Srt, List.pairwise_map, List.pairwise_iff_getElem]
    intro i j hi hj hij
    have := hs i j (Nat.zero_le _) hij (by simpa [hsz] using hj)
    rw [lt_less] at this
    have hi' : i < d'.size := by simpa using hi
    have hj' : j < d'.size := by simpa using hj
    rw [getElem!_pos d' i hi', getElem!_pos d' j hj'] at this
    rw [leS]
    simp only [Array.getElem_toList]
    rw [this]; rfl
end Go.Proofs.YtoheahbkopbmhaaGreat
