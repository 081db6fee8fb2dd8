/- Texts 4 of 4 that the claim leans on: plain laws and the walks' contracts, in order. -/
import Derived.Test.YtaednmpkedkmgaaMNoExtents3
/- The walk through the program's search for extents. -/
namespace Go.Proofs.Ytaednmpkedkmgaa
set_option linter.unusedVariables false
set_option linter.unusedSimpArgs false
open Go.ChangeShapes Go.WideShapes Go.ChangeAt Go.RowKit Go.Deep
open Go.Maps (Keyed string_keyed)
open Go.WideMaps (keyOf_string_mk)
theorem MapX.ne_blk {α : Type} {en : α → Value} {li : α → Lit} {P : Program} {w : World} {k e : TypeId} {b m : Nat} {f : Value → Option α} (h : MapX en li P w k e b m f) {p : Nat} {t : TypeId} {cs : List Value} (hk : Blk w p t cs) : b ≠ p := by
  obtain ⟨D, ⟨es, clock, hb, _⟩, _⟩ := h
  intro e1
  subst e1
  unfold Blk at hk
  rw [hb] at hk
  cases hk
theorem MapX.ne_own {α β : Type} {en : α → Value} {li : α → Lit} {P : Program} {w : World} {k e : TypeId} {b m : Nat} {f : Value → Option α} (h : MapX en li P w k e b m f) {e' : β → List Value} {s : Nat} {E : TypeId} {base : Nat} {A : Option Addr} {n c : Nat} {l : List β} (ho : Owned e' s E w base A n c l) : ∀ q, (Value.slice A n c).ownBlock = some q → q ≠ b := by
  intro q hq e1
  subst e1
  obtain ⟨D, ⟨es, clock, hb, _⟩, _⟩ := h
  rcases ho.2.2.2 with ⟨hv, _⟩ | ⟨g, cap, cur, hv, _, hh, _⟩
  · rw [hv] at hq; cases hq
  · rw [hv] at hq
    injection hq with hq
    dsimp only at hq
    subst hq
    rw [hb] at hh; cases hh
/-- A set of texts as a map to bools. -/
def setF (V : List ByteArray) (q : Value) : Option Bool := match q with | .string s => if inL V s = true then some true else none | _ => none
theorem setF_in {V : List ByteArray} {s : ByteArray} (h : inL V s = true) : setF V (.string s) = some true := by
  show (if inL V s = true then some true else none) = _
  rw [if_pos h]
theorem setF_out {V : List ByteArray} {s : ByteArray} (h : inL V s = false) : setF V (.string s) = none := by
  show (if inL V s = true then some true else none) = _
  rw [if_neg (by rw [h]; simp)]
theorem setF_snoc {V : List ByteArray} {x : ByteArray} {q : Value} (hq : q ≠ .string x) : setF (V ++ [x]) q = setF V q := by
  rw [setF.eq_def, setF.eq_def]
  split
  · rename_i s
    have hne : ¬ x = s := fun e => hq (by rw [e])
    have e1 : inL (V ++ [x]) s = inL V s := by
      rw [inL, inL, List.any_append]
      simp [hne]
    rw [e1]
  · rfl
def imC (n N : Nat) (A : Option Addr) (c : Nat) (left : Int) (al : Bool) (count : Int) (bm : Nat) (AP : Option Addr) (k cP : Nat) (ov : Bool) : List Value :=
  [.int .i64 n, .slice A N c, .int .i64 left, .bool al, .int .i64 count, .map (some bm), .slice AP k cP, .bool ov]
structure ImS (w : World) (b p n N : Nat) (A : Option Addr) (c bm : Nat) (al : Bool) (V P : List ByteArray) (left count : Int) (ov : Bool) (AP : Option Addr) (cP : Nat) : Prop where
  blk : Blk w p 65 (imC n N A c left al count bm AP P.length cP ov)
  seen : MapX bEn bLi Try.prog w 9 4 bm V.length (setF V)
  path : Owned strE 1 9 w b AP P.length cP P
  lo : b ≤ p
  lom : b ≤ bm
section
variable {w w' : World} {b p n N : Nat} {A : Option Addr} {c bm : Nat} {al : Bool} {V P : List ByteArray} {left count : Int} {ov : Bool} {AP : Option Addr} {cP : Nat}
theorem ImS.up (h : ImS w b p n N A c bm al V P left count ov AP cP) (hb : Below w.heap.size w w') : ImS w' b p n N A c bm al V P left count ov AP cP :=
  ⟨h.blk.up hb, h.seen.up hb, h.path.up hb, h.lo, h.lom⟩
theorem ImS.drewN (h : ImS w b p n N A c bm al V P left count ov AP cP) (k : Nat) : ImS (w.drewN k) b p n N A c bm al V P left count ov AP cP := h.up (below_drewN (Below.refl _ _) k)
theorem ImS.nep (h : ImS w b p n N A c bm al V P left count ov AP cP) : ∀ k, (Value.slice AP P.length cP).ownBlock = some k → k ≠ p := h.path.ne_blk h.blk (by decide)
theorem ImS.nem (h : ImS w b p n N A c bm al V P left count ov AP cP) : ∀ k, (Value.slice AP P.length cP).ownBlock = some k → k ≠ bm := h.seen.ne_own h.path
theorem ImS.only (h : ImS w b p n N A c bm al V P left count ov AP cP) (i : Nat) (u : Value) : MapX bEn bLi Try.prog (w.setCell ⟨p, i, none⟩ u) 9 4 bm V.length (setF V) ∧ Owned strE 1 9 (w.setCell ⟨p, i, none⟩ u) b AP P.length cP P :=
  ⟨h.seen.kept (only_set w (p := ⟨p, i, none⟩) u) (fun e => by injection e with e; exact h.seen.ne_blk h.blk e),
   h.path.kept (only_set w (p := ⟨p, i, none⟩) u) (fun k hk e => by injection e with e; exact h.nep k hk e.symm)⟩
theorem ImS.setLeft (h : ImS w b p n N A c bm al V P left count ov AP cP) (x : Int) : ImS (w.setCell ⟨p, 2, none⟩ (.int .i64 x)) b p n N A c bm al V P x count ov AP cP :=
  ⟨h.blk.set_ 2 _, (h.only 2 _).1, (h.only 2 _).2, h.lo, h.lom⟩
theorem ImS.setCount (h : ImS w b p n N A c bm al V P left count ov AP cP) (x : Int) : ImS (w.setCell ⟨p, 4, none⟩ (.int .i64 x)) b p n N A c bm al V P left x ov AP cP :=
  ⟨h.blk.set_ 4 _, (h.only 4 _).1, (h.only 4 _).2, h.lo, h.lom⟩
theorem ImS.setOver (h : ImS w b p n N A c bm al V P left count ov AP cP) (x : Bool) : ImS (w.setCell ⟨p, 7, none⟩ (.bool x)) b p n N A c bm al V P left count x AP cP :=
  ⟨h.blk.set_ 7 _, (h.only 7 _).1, (h.only 7 _).2, h.lo, h.lom⟩
theorem ImS.push {A' : Option Addr} {c' : Nat} {x : ByteArray} (h : ImS w b p n N A c bm al V P left count ov AP cP) (hg : w.grownBy w' (Value.slice AP P.length cP).ownBlock) (ho : Owned strE 1 9 w' b A' (P.length + 1) c' (P ++ [x])) :
    ImS (w'.setCell ⟨p, 6, none⟩ (.slice A' (P.length + 1) c')) b p n N A c bm al V (P ++ [x]) left count ov A' c' := by
  have hk := h.blk.grown hg (fun e => h.nep p e.symm rfl)
  have hm := h.seen.kept hg (fun e => h.nem bm e.symm rfl)
  have hl : (P ++ [x]).length = P.length + 1 := by simp
  refine ⟨by rw [hl]; exact hk.set_ 6 _, hm.kept (only_set w' (p := ⟨p, 6, none⟩) _) (fun e => by injection e with e; exact h.seen.ne_blk h.blk e), ?_, h.lo, h.lom⟩
  rw [hl]
  exact ho.kept (only_set w' (p := ⟨p, 6, none⟩) _) (fun k hk' e => by injection e with e; exact ho.ne_blk hk (by decide) k hk' e.symm)
theorem ImS.pop {x : ByteArray} (h : ImS w b p n N A c bm al V (P ++ [x]) left count ov AP cP) : ImS (w.setCell ⟨p, 6, none⟩ (.slice AP P.length cP)) b p n N A c bm al V P left count ov AP cP := by
  have hl : (P ++ [x]).length = P.length + 1 := by simp
  have ho := (h.only 6 (.slice AP P.length cP)).2
  rw [hl] at ho
  exact ⟨h.blk.set_ 6 _, (h.only 6 _).1, ho.pop, h.lo, h.lom⟩
theorem ImS.turn {V' : List ByteArray} (h : ImS w b p n N A c bm al V P left count ov AP cP) (hg : w.grownBy w' (some bm)) (hm : MapX bEn bLi Try.prog w' 9 4 bm V'.length (setF V')) : ImS w' b p n N A c bm al V' P left count ov AP cP :=
  ⟨h.blk.grown hg (fun e => by injection e with e; exact h.seen.ne_blk h.blk e.symm), hm, h.path.kept hg (fun k hk e => by injection e with e; exact h.nem k hk e.symm), h.lo, h.lom⟩
end
/-- What a search leaves. -/
def EndG (o : FateG) (V P V' P' : List ByteArray) (left' count' : Int) (ov' : Bool) : Prop := (∀ lk, o = .inr lk → V' = V ∧ P' = P ∧ left' = (lk.1 : Int) ∧ count' = (lk.2 : Int) ∧ ov' = false) ∧ (∀ q, o = .inl (some q) → P' = q ∧ ov' = false) ∧ (o = .inl none → ov' = true)
theorem EndG.go (V P : List ByteArray) (l k : Nat) : EndG (.inr (l, k)) V P V P l k false := ⟨fun l' e => by injection e with e; subst e; exact ⟨rfl, rfl, rfl, rfl, rfl⟩, (fun q e => by cases e), (fun e => by cases e)⟩
theorem EndG.hit (V P V' P' : List ByteArray) (left' count' : Int) : EndG (.inl (some P')) V P V' P' left' count' false := ⟨(fun l' e => by cases e), fun q e => by injection e with e; injection e with e; exact ⟨e, rfl⟩, (fun e => by injection e with e; cases e)⟩
theorem EndG.over (V P V' P' : List ByteArray) (left' count' : Int) : EndG (.inl none) V P V' P' left' count' true := ⟨(fun l' e => by cases e), (fun q e => by injection e with e; cases e), fun _ => rfl⟩
theorem EndG.of_end {o : Option (List ByteArray)} {V P V2 P2 V' P' : List ByteArray} {left' count' : Int} {ov' : Bool} (h : EndG (.inl o) V2 P2 V' P' left' count' ov') : EndG (.inl o) V P V' P' left' count' ov' := ⟨(fun l e => by cases e), h.2⟩
set_option maxHeartbeats 2000000 in
set_option maxRecDepth 100000 in
theorem impl_search {N n : Nat} {A : Option Addr} {c : Nat} {W : List ByteArray} {w0 : World} (hN : W.length = N) (h : Strs w0 A W) (hz : N ≤ 1000) (h3 : 3 ≤ n) (h8 : n ≤ 8) (hW : ∀ s ∈ W, s.size ≤ 16777216) (hgW : ∀ s ∈ W, isDash s = true ∨ validD s = true) (al : Bool) :
    ∀ (d : Nat) {r : ByteArray} {V P : List ByteArray} {left count : Nat} {AP : Option Addr} {cP p bm : Nat} {w : World}, RowN n r → ClOk n V → V.length + d = fact n → P.length + 1 = V.length → left + count ≤ 2000000 →
      ImS w w0.heap.size p n N A c bm al V P left count false AP cP → Below w0.heap.size w0 w →
      Calls Try.prog 56 #[.pointer (some ⟨p, 0, none⟩), .string r] w fun e w' => e = .returned (.bool (gX n W al d r V P left count).isLeft) ∧ (∃ V' P' left' count' ov' AP' cP', ImS w' w0.heap.size p n N A c bm al V' P' left' count' ov' AP' cP' ∧ EndG (gX n W al d r V P left count) V P V' P' left' count' ov') ∧ Below w0.heap.size w0 w' := by
  have h40 : fact n ≤ 40320 := fact_le8 h8
  have HW := Lib.hid hW
  have HGW := Lib.hid hgW
  have KS := string_keyed (P := Try.prog) (k := 9) Try.underlying9
  have hrd := Lib.hid (rowN_rounds h3 h8)
  subst hN
  clear hW hgW
  intro d
  induction d using Nat.strongRecOn with
  | ind d ih =>
  intro r V P left count AP cP p bm w hr hV hVd hPV hl hS hB
  have IH := Lib.hid (fun d' (e : d = d' + 1) => @ih d' (by omega))
  have HE := Lib.hid (gX_recG n W al d r V P left count)
  have HV := Lib.hid hV
  have HPV := Lib.hid hPV
  have hP40 : P.length ≤ 40320 := by have := HPV.out; omega
  have hrz : r.size ≤ 8 := by rw [hr.2]; exact h8
  have k1 := hS.blk.cell 1
  simp only [imC, List.getElem?_cons_zero, List.getElem?_cons_succ] at k1
  have HS0 := Lib.hid hS
  clear ih hV hS hPV
  go_in
  go_wp2
  clear k1
  go_loopw [13] (fun i wr => ∃ (j q k : Nat) (AP : Option Addr) (cP : Nat), j ≤ W.length ∧ i = .int .i64 j ∧ q + k ≤ 2000000 ∧ Hid (ImS wr w0.heap.size p n W.length A c bm al V P q k false AP cP) ∧ Hid (gX n W al d r V P left count = gL (recG n W al d) n al (decide (d = 0)) r V P (W.drop j) q k) ∧ Below w0.heap.size w0 wr) (fun i _ => W.length - (intOf i).toNat)
  case atStart => exact ⟨0, left, count, AP, cP, Nat.zero_le _, rfl, hl, HS0, Lib.hid (by rw [List.drop_zero]; exact HE.out), hB⟩
  case round =>
    clear HS0 HE hB
    obtain ⟨j, q, k, AP, cP, hj, rfl, hq, HS, HE, hB⟩ := hrel
    rename World => w1
    by_cases hlt : j < W.length
    · obtain ⟨b1, o1, y, rfl, hbb, hy, hcy0⟩ := h.at_str hlt
      have hcy := (hB.cell (p := ⟨b1, o1 + j, none⟩) hbb).trans hcy0
      have hys := HW.out y (List.mem_of_getElem? hy)
      have hgy := HGW.out y (List.mem_of_getElem? hy)
      have HD := Lib.hid (drop_at hy)
      have k2 := HS.out.blk.cell 2; have f2 := HS.out.blk.frozen 2; have k7 := HS.out.blk.cell 7; have f7 := HS.out.blk.frozen 7
      simp only [imC, List.getElem?_cons_zero, List.getElem?_cons_succ] at k2 k7
      have HLO := Lib.hid HS.out.lo
      clear hy hcy0
      by_cases hq0 : q = 0
      · subst hq0
        have e1 := Lib.hid (show gX n W al d r V P left count = .inl none by rw [HE.out, HD.out, gL_over])
        have HSX := Lib.hid (HS.out.setOver true)
        go_wp2
        go_ret
        rw [e1.out]
        exact ⟨rfl, ⟨V, P, _, _, _, AP, cP, HSX.out, EndG.over V P V P _ _⟩, hB.setCell (p := ⟨p, 7, none⟩) HLO.out _⟩
      · obtain ⟨q', hq'⟩ : ∃ q', q = q' + 1 := ⟨q - 1, by omega⟩
        have HQ := Lib.hid hq'
        have hqI : ¬ (q : Int) = 0 := by omega
        have hqc : (q : Int) - 1 = (q' : Int) := by omega
        have HQC := Lib.hid hqc
        have hqw : IntKind.i64.wrap ((q : Int) - 1) = (q : Int) - 1 := wrap_id (by omega)
        have HS1 := Lib.hid (HS.out.setLeft ((q : Int) - 1))
        have HB1 := Lib.hid (hB.setCell (p := ⟨p, 2, none⟩) HS.out.lo (.int .i64 ((q : Int) - 1)))
        obtain ⟨x, hx⟩ : ∃ x, x = applyR r y := ⟨_, rfl⟩
        have HX := Lib.hid hx
        have hxN : RowN n x := by rw [hx]; exact hr.apply y
        have hxz : x.size ≤ 8 := by rw [hxN.2]; exact h8
        have HXN := Lib.hid hxN
        have hkey := keyOf_string_mk (P := Try.prog) (k := 9) Try.underlying9 (s := x) (by unfold maxLen; omega)
        have HKEY := Lib.hid hkey
        clear hq' hq0 hqc hx hxN k7 f7 hkey
        go_wp2_with fail
        refine (impl_apply hrz hys hgy).mono ?_; rw [← HX.out]; rintro e w2 ⟨rfl, hb2⟩
        clear k2 f2 hcy
        have HS2 := Lib.hid (HS1.out.up hb2)
        have hB2 := below_then hb2 HB1.out HB1.out.size
        clear HS1 HB1
        have k0 := HS2.out.blk.cell 0; have k5 := HS2.out.blk.cell 5
        simp only [imC, List.getElem?_cons_zero, List.getElem?_cons_succ] at k0 k5
        have lm := fun ty u (hu : u = w2 ∨ ∃ k, u = w2.drewN k) => ((show MapX bEn bLi Try.prog u 9 4 bm V.length (setF V) from by
          rcases hu with rfl | ⟨k, rfl⟩
          · exact HS2.out.seen
          · exact (HS2.out.drewN k).seen).len (t := 63) Try.underlying63 ty)
        have LM := Lib.hid lm
        clear lm
        by_cases hd : d = 0
        · have hfull : ((V.length : Int) == (fact n : Int)) = true := beq_iff_eq.2 (by omega)
          have HFU := Lib.hid (show decide (d = 0) = true from decide_eq_true hd)
          by_cases hx0 : x = roundsS n
          · have hxr : (x.toList == (roundsS n).toList) = true := by rw [hx0]; simp
            have HX0 := Lib.hid hx0
            clear hx0
            have lm2 := fun k => LM.out 3 (w2.drewN k) (.inr ⟨k, rfl⟩)
            go_wp2
            go_quiet (first | (go_at_call 69; exact quiet_left (impl_factorial h8)) | (go_at_call 55; exact quiet_left (impl_rounds h8)))
            clear lm2 LM
            have HS4 := Lib.hid (HS2.out.drewN nq)
            have hB4 := below_drewN hB2 nq
            obtain ⟨w4, hw4⟩ : ∃ u, u = w2.drewN nq := ⟨_, rfl⟩
            rw [← hw4] at HS4 hB4 ⊢
            clear hw4 k0 k5 HS2 hB2 hb2
            have k6 := HS4.out.blk.cell 6
            simp only [imC, List.getElem?_cons_zero, List.getElem?_cons_succ] at k6
            have hs4 := hB4.size
            have hPl : (P ++ [y]).length = P.length + 1 := by simp
            have HPL := Lib.hid hPl
            have hk1 : IntKind.i64.wrap ((k : Int) + 1) = ((k + 1 : Nat) : Int) := by rw [wrap_id (by omega)]; push_cast; rfl
            clear hPl
            rcases al
            · have e1 := Lib.hid (show gX n W false d r V P left count = .inl (some (P ++ [y])) by rw [HE.out, HD.out, HQ.out, gL_hit HFU.out (by rw [← HX.out]; exact HX0.out) rfl])
              go_wp2_with (first | (at_builtin; go_must ((refine wpList_append_recs Try.elStr strE_one rfl (.tmp 59) (.tmp 61) rfl rfl (HS4.out.path.alloc _) rfl (own_lit1_at' strE_len w4 9 y rfl (Nat.le_refl _)).recs rfl ?_ (by decide) ?_ ?_; (focus (first | omega | (simp only [World.size_alloc]; done) | (simp only [World.size_alloc]; omega) | (simp; done) | (simp; omega))); (focus (first | omega | (simp only [World.size_alloc]; done) | (simp only [World.size_alloc]; omega) | (simp; done) | (simp; omega))); intro A5 c5 w5 ho5 hg5 hl5; have KB5 := (HS4.out.blk.alloc (.cells #[.string y] 9)).grown hg5 (fun e => HS4.out.nep p e.symm rfl); have q6 := KB5.cell 6; have q4 := KB5.cell 4; have q3 := KB5.cell 3; have g6 := KB5.frozen 6; have g4 := KB5.frozen 4; simp only [imC, List.getElem?_cons_zero, List.getElem?_cons_succ] at q6 q4 q3))))
              go_ret
              have HSX := ((HS4.out.up ((Below.refl _ _).alloc (Nat.le_refl _) (.cells #[.string y] 9))).push hg5 ho5).setCount ((k : Int) + 1)
              have hb5 : Below w0.heap.size w0 w5 := (hB4.alloc (by omega) _).trans (grown_base hg5 (by simp; omega) (fun k hk => (HS4.out.path.blk hk).1))
              rw [e1.out]
              exact ⟨rfl, ⟨V, P ++ [y], _, _, _, A5, c5, HSX, EndG.hit V P V _ _ _⟩, (hb5.setCell (p := ⟨p, 6, none⟩) HLO.out _).setCell (p := ⟨p, 4, none⟩) HLO.out _⟩
            · have e1 := Lib.hid (show gX n W true d r V P left count = gL (recG n W true d) n true (decide (d = 0)) r V P (W.drop (j + 1)) q' (k + 1) by rw [HE.out, HD.out, HQ.out, gL_one HFU.out (by rw [← HX.out]; exact HX0.out) rfl])
              go_wp2_with (first | (at_builtin; go_must ((refine wpList_append_recs Try.elStr strE_one rfl (.tmp 59) (.tmp 61) rfl rfl (HS4.out.path.alloc _) rfl (own_lit1_at' strE_len w4 9 y rfl (Nat.le_refl _)).recs rfl ?_ (by decide) ?_ ?_; (focus (first | omega | (simp only [World.size_alloc]; done) | (simp only [World.size_alloc]; omega) | (simp; done) | (simp; omega))); (focus (first | omega | (simp only [World.size_alloc]; done) | (simp only [World.size_alloc]; omega) | (simp; done) | (simp; omega))); intro AQ cQ w5 ho5 hg5 hl5; have KB5 := (HS4.out.blk.alloc (.cells #[.string y] 9)).grown hg5 (fun e => HS4.out.nep p e.symm rfl); have q6 := KB5.cell 6; have q4 := KB5.cell 4; have q3 := KB5.cell 3; have g6 := KB5.frozen 6; have g4 := KB5.frozen 4; simp only [imC, List.getElem?_cons_zero, List.getElem?_cons_succ] at q6 q4 q3))))
              have HSX := ((HS4.out.up ((Below.refl _ _).alloc (Nat.le_refl _) (.cells #[.string y] 9))).push hg5 ho5).setCount ((k : Int) + 1)
              have hb5 : Below w0.heap.size w0 w5 := (hB4.alloc (by omega) _).trans (grown_base hg5 (by simp; omega) (fun k hk => (HS4.out.path.blk hk).1))
              have hb6 := (hb5.setCell (p := ⟨p, 6, none⟩) HLO.out (.slice AQ (P.length + 1) cQ)).setCell (p := ⟨p, 4, none⟩) HLO.out (.int .i64 ((k : Int) + 1))
              obtain ⟨w6, hw6⟩ : ∃ u, u = (w5.setCell ⟨p, 6, none⟩ (.slice AQ (P.length + 1) cQ)).setCell ⟨p, 4, none⟩ (.int .i64 ((k : Int) + 1)) := ⟨_, rfl⟩
              rw [← hw6] at HSX hb6 ⊢
              clear hw6 q6 q4 q3 g6 g4 KB5 ho5 hg5 hl5 hb5 k6
              have HS8 := Lib.hid HSX.pop
              have HB8 := Lib.hid (hb6.setCell (p := ⟨p, 6, none⟩) HLO.out (.slice AQ P.length cQ))
              have k6 := HSX.blk.cell 6; have f6 := HSX.blk.frozen 6
              simp only [imC, List.getElem?_cons_zero, List.getElem?_cons_succ] at k6
              obtain ⟨g7, hg7, _, _, _, _⟩ := HSX.path.at_ (by rw [HPL.out]; omega)
              subst hg7
              have hcap := HSX.path.cap
              rw [HPL.out] at k6 hcap
              obtain ⟨M, hM⟩ : ∃ M, M = P.length + 1 := ⟨_, rfl⟩
              rw [← hM] at k6 hcap
              have hw : IntKind.i64.wrap ((M : Int) - 1) = (P.length : Int) := by rw [wrap_id (by omega)]; omega
              have hPc : P.length ≤ cQ := by omega
              have hPcI : (P.length : Int) ≤ (cQ : Int) := by omega
              clear hM HSX
              go_wp2
              go_region
              have HS9 := Lib.hid (HS8.out.up (Below.drew (Below.refl _ _)))
              have HB9 := Lib.hid (Below.drew HB8.out)
              clear k6 f6 hw
              obtain ⟨w9, hw9⟩ : ∃ u, u = (w6.setCell ⟨p, 6, none⟩ (.slice (some ⟨g7, 0, none⟩) P.length cQ)).drew := ⟨_, rfl⟩
              rw [← hw9] at HS9 HB9 ⊢
              clear hw9 HS8 HB8
              go_wp2
              go_roundw
              case rel => exact ⟨j + 1, q', k + 1, _, _, by omega, by go_num, by have := HQ.out; omega, Lib.hid (by rw [← HQC.out]; exact HS9.out), Lib.hid (by rw [← e1.out]), HB9.out⟩
              case measure => simp [intOf]; omega
          · have hxr : (x.toList == (roundsS n).toList) = false := by
              rw [beq_eq_false_iff_ne]; exact fun e => hx0 (toList_inj e)
            have lm2 := fun k => LM.out 3 (w2.drewN k) (.inr ⟨k, rfl⟩)
            go_wp2
            go_quiet (first | (go_at_call 69; exact quiet_left (impl_factorial h8)) | (go_at_call 55; exact quiet_left (impl_rounds h8)))
            clear lm2 LM
            have HS4 := Lib.hid (HS2.out.drewN nq)
            have hB4 := below_drewN hB2 nq
            obtain ⟨w4, hw4⟩ : ∃ u, u = w2.drewN nq := ⟨_, rfl⟩
            rw [← hw4] at HS4 hB4 ⊢
            clear hw4 k0 k5 HS2 hB2 hb2
            have hin := full_in HV.out HXN.out (by omega)
            have k5 := HS4.out.blk.cell 5
            simp only [imC, List.getElem?_cons_zero, List.getElem?_cons_succ] at k5
            have lk := HS4.out.seen.look (t := 63) (z := false) KS Try.underlying63 (by kernel_rfl) (bLi_pe Try.underlying4 false) (bLi_in Try.underlying4) HKEY.out
            rw [setF_in hin] at lk
            have lk1 : (Instr.lookup 63 (.map (some bm)) (.string x) false).run Try.prog w4 = .ok (.bool true) w4 := lk
            have e1 := Lib.hid (show gL (recG n W al d) n al (decide (d = 0)) r V P (W.drop j) q k = gL (recG n W al d) n al (decide (d = 0)) r V P (W.drop (j + 1)) q' k by
              rw [HD.out, HQ.out, gL_skip (fun e => hx0 (by rw [HX.out]; exact e.2)) (.inr (by rw [← HX.out]; exact hin))])
            clear lk hin
            go_wp2
            go_roundw
            case rel => exact ⟨j + 1, q', k, AP, cP, by omega, by go_num, by have := HQ.out; omega, Lib.hid (by rw [← HQC.out]; exact HS4.out), Lib.hid (by rw [← e1.out]; exact HE.out), hB4⟩
            case measure => simp [intOf]; omega
        · have hfull : ((V.length : Int) == (fact n : Int)) = false := beq_eq_false_iff_ne.2 (by omega)
          have HDF := Lib.hid (decide_eq_false hd)
          have lm2 := fun k => LM.out 3 (w2.drewN k) (.inr ⟨k, rfl⟩)
          go_wp2
          go_quiet (first | (go_at_call 69; exact quiet_left (impl_factorial h8)) | (go_at_call 55; exact quiet_left (impl_rounds h8)))
          clear lm2 LM
          have HS4 := Lib.hid (HS2.out.drewN nq)
          have hB4 := below_drewN hB2 nq
          obtain ⟨w4, hw4⟩ : ∃ u, u = w2.drewN nq := ⟨_, rfl⟩
          rw [← hw4] at HS4 hB4 ⊢
          clear hw4 k0 k5 HS2 hB2 hb2
          have k5 := HS4.out.blk.cell 5
          simp only [imC, List.getElem?_cons_zero, List.getElem?_cons_succ] at k5
          have lk := HS4.out.seen.look (t := 63) (z := false) KS Try.underlying63 (by kernel_rfl) (bLi_pe Try.underlying4 false) (bLi_in Try.underlying4) HKEY.out
          rcases hin : inL V x
          · rw [setF_out hin] at lk
            have lk1 : (Instr.lookup 63 (.map (some bm)) (.string x) false).run Try.prog w4 = .ok (.bool false) w4 := lk
            obtain ⟨d', hd'⟩ : ∃ d', d = d' + 1 := ⟨d - 1, by omega⟩
            have HIN := Lib.hid hin
            have HDD := Lib.hid hd'
            have hRD : recG n W al d = gX n W al d' := by subst hd'; rfl
            have HRD := Lib.hid hRD
            have HVN := Lib.hid (HV.out.snoc HXN.out hin)
            have hPl : (P ++ [y]).length = P.length + 1 := by simp
            have hVl : (V ++ [x]).length = V.length + 1 := by simp
            have HPL := Lib.hid hPl
            have HVL := Lib.hid hVl
            have hvs : V.length ≤ 16777216 := by omega
            have HQQ := Lib.hid (show q' + k ≤ 2000000 by have := HQ.out; omega)
            have k6 := HS4.out.blk.cell 6
            simp only [imC, List.getElem?_cons_zero, List.getElem?_cons_succ] at k6
            have HLM := Lib.hid HS4.out.lom
            have HIF := Lib.hid (setF_in (V := V ++ [x]) (s := x) (inL_iff.2 (by simp)))
            have HOF := Lib.hid (setF_out hin)
            have hs4 := hB4.size
            clear lk hin hd hd' hRD hPl hVl
            go_wp2_with (first | (at_mapUpdate; go_must ((refine wpList_mapx_put rfl (.tmp 100) (.tmp 101) (.const (.bool true)) 63 rfl KS Try.underlying63 rfl HS4.out.seen hvs (key := .string x) rfl (x := true) rfl HKEY.out (bLi_pe Try.underlying4 true) ?_; intro w5 hm5 hg5; have hmx := hm5 (V ++ [x]).length (setF (V ++ [x])) (by rw [HOF.out, HVL.out]; rfl) HIF.out (fun q hq => setF_snoc hq); have HS5 := Lib.hid (HS4.out.turn hg5 hmx); have HB5 := Lib.hid (hB4.grown hg5 hB4.size (fun k hk => by injection hk with hk; rw [← hk]; exact HLM.out)); have hs5 := HB5.out.size; have r6 := HS5.out.blk.cell 6; simp only [imC, List.getElem?_cons_zero, List.getElem?_cons_succ] at r6))) | (at_builtin; go_must ((refine wpList_append_recs Try.elStr strE_one rfl (.tmp 106) (.tmp 108) rfl rfl (HS5.out.path.alloc _) rfl (own_lit1_at' strE_len w5 9 y rfl (Nat.le_refl _)).recs rfl ?_ (by decide) ?_ ?_; (focus (first | omega | (simp only [World.size_alloc]; done) | (simp only [World.size_alloc]; omega) | (simp; done) | (simp; omega))); (focus (first | omega | (simp only [World.size_alloc]; done) | (simp only [World.size_alloc]; omega) | (simp; done) | (simp; omega))); intro A6 c6 w6 ho6 hg6 hl6; have KB6 := (HS5.out.blk.alloc (.cells #[.string y] 9)).grown hg6 (fun e => HS5.out.nep p e.symm rfl); have q6 := KB6.cell 6; have g6 := KB6.frozen 6; simp only [imC, List.getElem?_cons_zero, List.getElem?_cons_succ] at q6))))
            have hs6 := (HS5.out.up ((Below.refl _ _).alloc (Nat.le_refl _) (.cells #[.string y] 9))).push hg6 ho6
            rw [HQC.out] at hs6
            have hb6 : Below w0.heap.size w0 w6 := (HB5.out.alloc (by omega) _).trans (grown_base hg6 (by simp; omega) (fun k hk => (HS5.out.path.blk hk).1))
            have hb6' := hb6.setCell (p := ⟨p, 6, none⟩) HLO.out (.slice A6 (P.length + 1) c6)
            refine (IH.out d' HDD.out (r := x) (V := V ++ [x]) (P := P ++ [y]) (left := q') (count := k) HXN.out HVN.out (by rw [HVL.out]; have := HDD.out; omega) (by rw [HPL.out, HVL.out]; have := HPV.out; omega) HQQ.out hs6 hb6').mono ?_
            rintro e w7 ⟨rfl, ⟨V', P', l', ct', ov', AQ, cQ, HS7, HE7⟩, hB7⟩
            clear q6 g6 hs6 hb6 hb6' KB6 ho6 hg6 hl6 k6 r6 k5 lk1 hm5 hg5 hmx
            rcases hf : gX n W al d' x (V ++ [x]) (P ++ [y]) q' k with o | ⟨l, ct⟩
            · have e1 := Lib.hid (show gX n W al d r V P left count = .inl o by
                rw [HE.out, HD.out, HQ.out, gL_in_end HDF.out (by rw [← HX.out]; exact HIN.out) (by rw [HRD.out, ← HX.out]; exact hf)])
              rw [hf] at HE7
              have hl : Sum.isLeft (Sum.inl o : FateG) = true := rfl
              rw [hl]
              go_wp2
              go_ret
              rw [e1.out]
              exact ⟨rfl, ⟨V', P', l', ct', ov', AQ, cQ, HS7, HE7.of_end⟩, hB7⟩
            · rw [hf] at HE7
              obtain ⟨e2, e3, e4, e5, e6⟩ := HE7.1 (l, ct) rfl
              subst e2 e3 e4 e5 e6
              have hle := gX_le n W al d' x (V ++ [x]) (P ++ [y]) q' k (l, ct) hf
              simp only at hle
              have e1 := Lib.hid (show gX n W al d r V P left count = gL (recG n W al d) n al (decide (d = 0)) r V P (W.drop (j + 1)) l ct by
                rw [HE.out, HD.out, HQ.out, gL_in_go HDF.out (by rw [← HX.out]; exact HIN.out) (by rw [HRD.out, ← HX.out]; exact hf)])
              have hl : Sum.isLeft (Sum.inr (l, ct) : FateG) = false := rfl
              rw [hl]
              have hq2 := HQQ.out
              have k5 := HS7.blk.cell 5
              simp only [imC, List.getElem?_cons_zero, List.getElem?_cons_succ] at k5
              clear HE7 hf hl
              have HS8 := Lib.hid HS7.pop
              have HB8 := Lib.hid (hB7.setCell (p := ⟨p, 6, none⟩) HLO.out (.slice AQ P.length cQ))
              have k6 := HS7.blk.cell 6; have f6 := HS7.blk.frozen 6
              simp only [imC, List.getElem?_cons_zero, List.getElem?_cons_succ] at k6
              obtain ⟨g7, hg7, _, _, _, _⟩ := HS7.path.at_ (by rw [HPL.out]; omega)
              subst hg7
              have hcap := HS7.path.cap
              rw [HPL.out] at k6 hcap
              obtain ⟨M, hM⟩ : ∃ M, M = P.length + 1 := ⟨_, rfl⟩
              rw [← hM] at k6 hcap
              have hw : IntKind.i64.wrap ((M : Int) - 1) = (P.length : Int) := by rw [wrap_id (by omega)]; omega
              have hPc : P.length ≤ cQ := by omega
              have hPcI : (P.length : Int) ≤ (cQ : Int) := by omega
              clear hM HS7
              go_wp2
              go_region
              have HS9 := Lib.hid (HS8.out.up (Below.drew (Below.refl _ _)))
              have HB9 := Lib.hid (Below.drew HB8.out)
              clear k6 f6 hw
              obtain ⟨w9, hw9⟩ : ∃ u, u = (w7.setCell ⟨p, 6, none⟩ (.slice (some ⟨g7, 0, none⟩) P.length cQ)).drew := ⟨_, rfl⟩
              rw [← hw9] at HS9 HB9 ⊢
              clear hw9 HS8 HB8
              have k5 := HS9.out.blk.cell 5
              simp only [imC, List.getElem?_cons_zero, List.getElem?_cons_succ] at k5
              have hs9 := HB9.out.size
              go_wp2_with (first | (at_delete; go_must ((refine wpList_mapx_drop rfl (.tmp 132) (.tmp 133) 63 rfl KS Try.underlying63 rfl HS9.out.seen (key := .string x) rfl HKEY.out ?_; intro w10 hm10 hg10))))
              have hmx := hm10 V.length (setF V) (by rw [HIF.out, HVL.out]; rfl) HOF.out (fun q hq => (setF_snoc hq).symm)
              have HS10 := Lib.hid (HS9.out.turn hg10 hmx)
              have hb10 : Below w0.heap.size w0 w10 := HB9.out.grown hg10 HB9.out.size (fun k hk => by injection hk with hk; rw [← hk]; exact HLM.out)
              go_roundw
              case rel => exact ⟨j + 1, l, ct, _, _, by omega, by go_num, by omega, HS10, Lib.hid (by rw [e1.out]), hb10⟩
              case measure => simp [intOf]; omega
          · rw [setF_in hin] at lk
            have lk1 : (Instr.lookup 63 (.map (some bm)) (.string x) false).run Try.prog w4 = .ok (.bool true) w4 := lk
            have e1 := Lib.hid (show gL (recG n W al d) n al (decide (d = 0)) r V P (W.drop j) q k = gL (recG n W al d) n al (decide (d = 0)) r V P (W.drop (j + 1)) q' k by
              rw [HD.out, HQ.out, gL_skip (by rw [HDF.out]; simp) (.inr (by rw [← HX.out]; exact hin))])
            clear lk hin
            go_wp2
            go_roundw
            case rel => exact ⟨j + 1, q', k, AP, cP, by omega, by go_num, by have := HQ.out; omega, Lib.hid (by rw [← HQC.out]; exact HS4.out), Lib.hid (by rw [← e1.out]; exact HE.out), hB4⟩
            case measure => simp [intOf]; omega

    · obtain rfl : j = W.length := by omega
      have e1 := Lib.hid (show gX n W al d r V P left count = .inr (q, k) by rw [HE.out, List.drop_eq_nil_of_le (Nat.le_refl _), gL])
      go_wp2
      go_ret
      rw [e1.out]
      exact ⟨rfl, ⟨V, P, _, _, _, AP, cP, HS.out, EndG.go V P q k⟩, hB⟩
end Go.Proofs.Ytaednmpkedkmgaa
/- The walks through CountExtents and FindExtent, both sides. -/
namespace Go.Proofs.Ytaednmpkedkmgaa
set_option linter.unusedVariables false
set_option linter.unusedSimpArgs false
open Go.ChangeShapes Go.WideShapes Go.ChangeAt Go.RowKit Go.Deep
open Go.Maps (Keyed string_keyed)
open Go.WideMaps (keyOf_string_mk)
set_option maxHeartbeats 1000000 in
set_option maxRecDepth 100000 in
theorem spec_l19New {A : Option Addr} {N c n : Nat} {left : Int} {w : World} (h3 : 3 ≤ n) (h8 : n ≤ 8) :
    Calls Try.prog 59 #[.int .i64 n, .slice A N c, .int .i64 left] w fun e w' => ∃ p gs m, e = .returned (.pointer (some ⟨p, 0, none⟩)) ∧ SpS w' w.heap.size p n N A c gs [roundsS n] [] left 0 m none 0 ∧ Below w.heap.size w w' := by
  have hr := rowN_rounds h3 h8
  have hpz := (place_zero h3 h8 hr).2 rfl
  have HR := Lib.hid hr
  have HM0 := Lib.hid ((MarkR.none n).add hr)
  rw [hpz] at HM0
  have hfp := fact_pos n
  have HMN := Lib.hid (MarkR.none n)
  clear hr hpz
  go_in
  go_wp2_with (first | (go_at_call 95; refine (spec_l6Seen h8).mono ?_; rintro e w1 ⟨gs, rfl, ho, hb1⟩) | (go_at_call 77; refine (spec_l1Fact h8).mono ?_; rintro e w' ⟨rfl, rfl⟩; obtain ⟨hm, hg⟩ := ho.put (k := 0) (j := 0) (x := true) (u := .bool true) (y := false) (by rw [List.getElem?_replicate, if_pos hfp]) (by decide) rfl; simp only [Nat.zero_mul, Nat.add_zero] at hm hg; have HM := Lib.hid hm; have HG := Lib.hid hg; clear hm hg; obtain ⟨g', e, hgl, hgh, gc, gf⟩ := ho.at_ hfp; injection e with e; injection e with e; subst e; have c0 := gc 0 false 0 _ (by rw [List.getElem?_replicate, if_pos hfp]) rfl; have f0 := gf 0; simp only [Nat.zero_mul, Nat.add_zero] at c0; clear gc gf ho))
  go_ret
  have hb2 : Below w.heap.size w (w1.setCell ⟨gs, 0, none⟩ (.bool true)) := hb1.setCell (p := ⟨gs, 0, none⟩) hgl _
  exact ⟨w1.heap.size, gs, _, rfl, ⟨Blk.at_ (w1.setCell ⟨gs, 0, none⟩ (.bool true)) 69 (spC n N A c gs (fact n) none 0 0 left 0) (b := w1.heap.size) (by simp), HM.out.alloc _, HM0.out, Owned.nil strE_len _ _ _, hb1.size⟩, hb2.alloc hb2.size _⟩
set_option maxHeartbeats 1000000 in
set_option maxRecDepth 100000 in
theorem spec_CountExtents {A : Option Addr} {N c : Nat} {l : List ByteArray} {n : Int} {w : World} (hN : l.length = N) (h : Strs w A l) (hz : N ≤ 16777216) (hs : ∀ s ∈ l, s.size ≤ 16777216) (hn : I64 n) :
    Calls Try.prog 32 #[.int .i64 n, .slice A N c] w fun e w' => e = .returned (.tuple #[.int .i64 (countR n l), .bool (okCount n l)]) ∧ Below w.heap.size w w' := by
  have HQ : Hid (okCount n l = (decide (n = 3) && goodWith n l)) := Lib.hid rfl
  by_cases h3 : n = 3
  rotate_left
  · have e2 := Lib.hid (show okCount n l = false by rw [HQ.out, decide_eq_false h3]; rfl)
    have e1 := Lib.hid (countR_f e2.out)
    go_in
    go_wp2
    go_ret2
    rw [e1.out, e2.out]
    exact ⟨rfl, Below.refl _ _⟩
  subst h3
  rcases h1 : goodWith 3 l
  · have e2 := Lib.hid (show okCount 3 l = false by rw [HQ.out, h1]; rfl)
    have e1 := Lib.hid (countR_f e2.out)
    go_in
    go_wp2_with (first | (go_at_call 58; refine (spec_l19With hN h hz hs hn).mono ?_; rw [h1]; rintro e w' ⟨rfl, rfl⟩))
    go_ret2
    rw [e1.out, e2.out]
    exact ⟨rfl, Below.refl _ _⟩
  have e2 := Lib.hid (show okCount 3 l = true by rw [HQ.out, h1]; rfl)
  have e1 := Lib.hid (countR_t e2.out)
  have hl3 := with3 h1
  have hct := (count_le hl3).1
  have hr := rowN_rounds (n := 3) (by decide) (by decide)
  have HV : ClOk 3 [roundsS 3] := ⟨by simp, fun s hs => by rw [List.mem_singleton.1 hs]; exact hr⟩
  have HHV := Lib.hid HV
  have HR := Lib.hid hr
  have HCT := Lib.hid hct
  clear HV hr hct
  go_in
  go_wp2_with (first | (go_at_call 58; refine (spec_l19With hN h hz hs hn).mono ?_; rw [h1]; rintro e w' ⟨rfl, rfl⟩) | (go_at_call 59; refine (spec_l19New (n := 3) (left := 0) (by decide) (by decide)).mono ?_; rintro e w1 ⟨p, gs, m, rfl, hS, hb1⟩) | (go_at_call 61; refine (spec_l1Rounds (n := 3) (by decide)).mono ?_; rintro e w' ⟨rfl, rfl⟩) | (go_at_call 85; refine (spec_l19Count hN h (by omega) (by decide) (by decide) hs 5 HR.out HHV.out rfl rfl (Nat.le_trans HCT.out (by decide)) hS hb1).mono ?_; rintro e w2 ⟨rfl, _, hb2⟩))
  go_ret2
  rw [e1.out, e2.out]
  exact ⟨rfl, hb2⟩
set_option maxHeartbeats 1000000 in
set_option maxRecDepth 100000 in
theorem spec_FindExtent {A : Option Addr} {N c : Nat} {l : List ByteArray} {n s : Int} {w : World} (hN : l.length = N) (h : Strs w A l) (hz : N ≤ 16777216) (hs : ∀ s ∈ l, s.size ≤ 16777216) (hn : I64 n) (hs64 : I64 s) :
    Calls Try.prog 19 #[.int .i64 n, .slice A N c, .int .i64 s] w fun e w' => ∃ A' c', e = .returned (.tuple #[.slice A' (fdL n l s).length c', .int .i64 (fdC n l s), .bool (okFind n l s)]) ∧ Owned strE 1 9 w' w.heap.size A' (fdL n l s).length c' (fdL n l s) ∧ (fdL n l s).length ≤ 16777216 ∧ Below w.heap.size w w' := by
  have HQ : Hid (okFind n l s = ((inB n 3 4 && goodWith n l) && inB s 1 200000)) := Lib.hid rfl
  rcases h4 : inB n 3 4
  · have e2 := Lib.hid (show okFind n l s = false by rw [HQ.out, h4]; rfl)
    have e1 := Lib.hid (fd_f e2.out)
    go_in
    go_wp2_with (first | (go_at_call 57; refine (spec_l1In _ _ _ _).mono ?_; rw [h4]; rintro e w' ⟨rfl, rfl⟩))
    go_ret3
    rw [e1.out.1, e1.out.2, e2.out]
    exact ⟨none, 0, rfl, Owned.nil strE_len _ _ _, by decide, Below.refl _ _⟩
  rcases h1 : goodWith n l
  · have e2 := Lib.hid (show okFind n l s = false by rw [HQ.out, h4, h1]; rfl)
    have e1 := Lib.hid (fd_f e2.out)
    go_in
    go_wp2_with (first | (go_at_call 57; refine (spec_l1In _ _ _ _).mono ?_; rw [h4]; rintro e w' ⟨rfl, rfl⟩) | (go_at_call 58; refine (spec_l19With hN h hz hs hn).mono ?_; rw [h1]; rintro e w' ⟨rfl, rfl⟩))
    go_ret3
    rw [e1.out.1, e1.out.2, e2.out]
    exact ⟨none, 0, rfl, Owned.nil strE_len _ _ _, by decide, Below.refl _ _⟩
  rcases h2 : inB s 1 200000
  · have e2 := Lib.hid (show okFind n l s = false by rw [HQ.out, h4, h1, h2]; rfl)
    have e1 := Lib.hid (fd_f e2.out)
    go_in
    go_wp2_with (first | (go_at_call 57; refine (spec_l1In _ _ _ _).mono ?_; (first | rw [h4] | rw [h2]); rintro e w' ⟨rfl, rfl⟩) | (go_at_call 58; refine (spec_l19With hN h hz hs hn).mono ?_; rw [h1]; rintro e w' ⟨rfl, rfl⟩))
    go_ret3
    rw [e1.out.1, e1.out.2, e2.out]
    exact ⟨none, 0, rfl, Owned.nil strE_len _ _ _, by decide, Below.refl _ _⟩
  have hb4 := inB_t h4
  have hbs := inB_t h2
  obtain ⟨q, rfl⟩ : ∃ q : Nat, n = (q : Int) := ⟨n.toNat, by omega⟩
  obtain ⟨t, rfl⟩ : ∃ t : Nat, s = (t : Int) := ⟨s.toNat, by omega⟩
  have e2 := Lib.hid (show okFind q l t = true by rw [HQ.out, h4, h1, h2]; rfl)
  have hl30 := inB_t (goodWith_stage_t h1).2.1
  have hq3 : 3 ≤ q := by omega
  have hq8 : q ≤ 8 := by omega
  have hr := rowN_rounds hq3 hq8
  have HV : ClOk q [roundsS q] := ⟨by simp, fun s hs => by rw [List.mem_singleton.1 hs]; exact hr⟩
  have HHV := Lib.hid HV
  have HR := Lib.hid hr
  have hfp := fact_pos q
  have HFD := Lib.hid (show [roundsS q].length + (fact q - 1) = fact q by simp; omega)
  have HFR : Hid (fateR q l t = srch q l (fact q - 1) (roundsS q) [roundsS q] [] t) := Lib.hid rfl
  clear HV hr hfp
  go_in
  go_wp2_with (first | (go_at_call 57; refine (spec_l1In _ _ _ _).mono ?_; (first | rw [h4] | rw [h2]); rintro e w' ⟨rfl, rfl⟩) | (go_at_call 58; refine (spec_l19With hN h hz hs hn).mono ?_; rw [h1]; rintro e w' ⟨rfl, rfl⟩) | (go_at_call 59; refine (spec_l19New (left := (t : Int)) hq3 hq8).mono ?_; rintro e w1 ⟨p, gs, m, rfl, hS, hb1⟩) | (go_at_call 61; refine (spec_l1Rounds hq8).mono ?_; rintro e w' ⟨rfl, rfl⟩))
  refine (spec_search hN h (by omega) hq3 hq8 hs (fact q - 1) HR.out HHV.out HFD.out rfl (by omega) hS hb1).mono ?_; rw [← HFR.out]; rintro e w2 ⟨rfl, ⟨V', P', l', mn', m', AP', cP', HS, HE⟩, hb2⟩
  rcases hf : fateR q l t with o | k
  · rw [hf] at HE
    have hl : Sum.isLeft (Sum.inl o : Fate) = true := rfl
    rw [hl]
    rcases o with _ | P2
    · have e1 := Lib.hid (fd_over e2.out hf)
      have hm := HE.2.2 rfl
      subst hm
      have k6 := HS.blk.cell 6
      simp only [spC, List.getElem?_cons_zero, List.getElem?_cons_succ] at k6
      clear HE hf hl
      go_wp2
      go_ret3
      rw [e1.out.1, e1.out.2, e2.out]
      exact ⟨none, 0, rfl, Owned.nil strE_len _ _ _, by decide, hb2⟩
    · have e1 := Lib.hid (fd_hit e2.out hf)
      have hw := fd_way hf (by omega)
      obtain ⟨rfl, rfl⟩ := HE.2.1 P2 rfl
      have k6 := HS.blk.cell 6; have k3 := HS.blk.cell 3
      simp only [spC, List.getElem?_cons_zero, List.getElem?_cons_succ] at k6 k3
      have HW2 := Lib.hid hw
      clear HE hf hl hw
      go_wp2_with (first | (go_at_call 62; refine (spec_l1OwnS rfl HS.path.recs (by have := HW2.out.2; omega)).mono ?_; rintro e w3 ⟨A3, c3, rfl, ho3, hb3⟩))
      go_ret3
      rw [e1.out.1, e1.out.2, e2.out]
      exact ⟨A3, c3, rfl, ho3.base_le hb2.size, by have := HW2.out.2; omega, below_go hb2 hb3⟩
  · rw [hf] at HE
    have hl : Sum.isLeft (Sum.inr k : Fate) = false := rfl
    rw [hl]
    have e1 := Lib.hid (fd_go e2.out hf)
    obtain ⟨rfl, rfl, rfl, rfl⟩ := HE.1 k rfl
    have k6 := HS.blk.cell 6
    simp only [spC, List.getElem?_cons_zero, List.getElem?_cons_succ] at k6
    clear HE hf hl
    go_wp2
    go_ret3
    rw [e1.out.1, e1.out.2, e2.out]
    exact ⟨none, 0, rfl, Owned.nil strE_len _ _ _, by decide, hb2⟩
end Go.Proofs.Ytaednmpkedkmgaa
/- The walks through CountExtents and FindExtent, the program's side. -/
namespace Go.Proofs.Ytaednmpkedkmgaa
set_option linter.unusedVariables false
set_option linter.unusedSimpArgs false
open Go.ChangeShapes Go.WideShapes Go.ChangeAt Go.RowKit Go.Deep
open Go.Maps (Keyed string_keyed)
open Go.WideMaps (keyOf_string_mk)
theorem wpList_mapx_ins {α : Type} {en : α → Value} {li : α → Lit} {P : Program} {ops : Array Oper} {rest : List Oper} {o : Oper} {a : Act} {Q : Exit → Act → World → Prop} {W : World} {k e : TypeId} {b n : Nat} {f : Value → Option α}
    (hgd : o.guard = none) (M X V : Operand) (t : TypeId) (hop : o.op = Op.insert t M X V) (K : Keyed P k) (ht : P.underlying t = some (.map k e)) (hm : a.eval M = .map (some b)) (h : MapX en li P W k e b n f) (hn : n ≤ 16777216) {key : Value} (hx : a.eval X = key) {x : α} (hv : a.eval V = en x)
    {kl : Lit} (hkey : keyOf P k key = some kl) (hpe : plainElem (H := Unit) P e (en x) = some (.lit (li x), [])) (hK : ∀ w', (∀ (m' : Nat) (g : Value → Option α), m' = (if (f key).isSome then n else n + 1) → g key = some x → (∀ q, q ≠ key → g q = f q) → MapX en li P w' k e b m' g) → W.grownBy w' (some b) → wpList P ops Q rest (a.put o.dst undef) w') : wpList P ops Q (o :: rest) a W := by
  obtain ⟨w', hrun, r1, r2⟩ := h.put K ht hn hkey hpe
  refine wpList_plain hgd fun K' hK' => ?_
  unfold Oper.wp
  simp [execOp, hop, hm, hx, hv, hrun, Result.andThen]
  exact hK' _ _ (hK w' r1 r2)
theorem setF_one {x : ByteArray} {q : Value} (hq : q ≠ .string x) : setF [x] q = none := by
  have h := setF_snoc (V := []) (x := x) hq
  rw [List.nil_append] at h
  rw [h, setF.eq_def]
  split
  · rw [if_neg]; simp [inL]
  · rfl
set_option maxHeartbeats 1000000 in
set_option maxRecDepth 100000 in
theorem impl_CountExtents {A : Option Addr} {N c : Nat} {l : List ByteArray} {n : Int} {w : World} (hN : l.length = N) (h : Strs w A l) (hz : N ≤ 16777216) (hs : ∀ s ∈ l, s.size ≤ 16777216) :
    Calls Try.prog 30 #[.int .i64 n, .slice A N c] w fun e w' => e = .returned (.tuple #[.int .i64 (countR n l), .bool (okCount n l)]) ∧ Below w.heap.size w w' := by
  have HQ : Hid (okCount n l = (decide (n = 3) && goodWith n l)) := Lib.hid rfl
  by_cases h3 : n = 3
  rotate_left
  · have e2 := Lib.hid (show okCount n l = false by rw [HQ.out, decide_eq_false h3]; rfl)
    have e1 := Lib.hid (countR_f e2.out)
    go_in
    go_wp2
    go_ret2
    rw [e1.out, e2.out]
    exact ⟨rfl, Below.refl _ _⟩
  subst h3
  rcases h1 : goodWith 3 l
  · have e2 := Lib.hid (show okCount 3 l = false by rw [HQ.out, h1]; rfl)
    have e1 := Lib.hid (countR_f e2.out)
    go_in
    go_wp2_with (first | (go_at_call 54; refine (impl_goodWith hN h hz hs).mono ?_; rw [h1]; rintro e w1 ⟨rfl, hb1⟩))
    go_ret2
    rw [e1.out, e2.out]
    exact ⟨rfl, hb1⟩
  have e2 := Lib.hid (show okCount 3 l = true by rw [HQ.out, h1]; rfl)
  have e1 := Lib.hid (countR_t e2.out)
  have hl3 := with3 h1
  have hct := count_le hl3
  have HGX := Lib.hid (gX_count 3 l 5 (roundsS 3) [roundsS 3] [] 1000000 0 (by omega))
  have hr := rowN_rounds (n := 3) (by decide) (by decide)
  have HV : ClOk 3 [roundsS 3] := ⟨by simp, fun s hs => by rw [List.mem_singleton.1 hs]; exact hr⟩
  have HHV := Lib.hid HV
  have HR := Lib.hid hr
  have HCT := Lib.hid hct
  have HGV := Lib.hid (fun s (hs : s ∈ l) => good_valid (allCh_mem (goodWith_stage_t h1).2.2 s hs))
  have hmm := @run_makeMap Try.prog
  have KS := string_keyed (P := Try.prog) (k := 9) Try.underlying9
  have hkey := keyOf_string_mk (P := Try.prog) (k := 9) Try.underlying9 (s := roundsS 3) (by rw [hr.2]; unfold maxLen; omega)
  have HKEY := Lib.hid hkey
  clear HV hr hct hkey
  go_in
  go_wp2_with (first | (go_at_call 54; refine (impl_goodWith hN h hz hs).mono ?_; rw [h1]; rintro e w1 ⟨rfl, hb1⟩; have HM0 := Lib.hid (MapX.made bEn bLi Try.prog w1 9 4)) | (go_at_call 55; refine (impl_rounds (n := 3) (by decide)).mono ?_; rintro e w' ⟨rfl, rfl⟩) | (refine wpList_mapx_ins rfl (.tmp 17) (.tmp 19) (.const (.bool true)) 63 rfl KS Try.underlying63 rfl HM0.out (by decide) (key := .string (roundsS 3)) rfl (x := true) rfl HKEY.out (bLi_pe Try.underlying4 true) ?_; intro w2 hm2 hg2; have hmx := hm2 1 (setF [roundsS 3]) rfl (setF_in (inL_iff.2 (by simp))) (fun q hq => setF_one hq); have HMX := Lib.hid hmx; clear hm2 hmx))
  have hb2 : Below w1.heap.size w1 w2 := ((Below.refl _ _).alloc (Nat.le_refl _) (.map #[] 0)).grown hg2 (by simp) (fun k hk => by injection hk with hk; omega)
  have hs2 := hb2.size
  have hb3 := hb2.alloc hs2 (.cells #[.int .i64 3, .slice A N c, .int .i64 1000000, .bool true, .int .i64 0, .map (some w1.heap.size), .slice none 0 0, .bool false] 65)
  have hIm : ImS (w2.alloc (.cells #[.int .i64 3, .slice A N c, .int .i64 1000000, .bool true, .int .i64 0, .map (some w1.heap.size), .slice none 0 0, .bool false] 65)) w1.heap.size w2.heap.size 3 N A c w1.heap.size true [roundsS 3] [] ((1000000 : Nat) : Int) ((0 : Nat) : Int) false none 0 :=
    ⟨Blk.at_ w2 65 (imC 3 N A c 1000000 true 0 w1.heap.size none 0 0 false) (b := w2.heap.size) rfl, HMX.out.alloc _, Owned.nil strE_len _ _ _, hs2, Nat.le_refl _⟩
  refine (impl_search hN (h.up hb1) (by omega) (by decide) (by decide) hs HGV.out true 5 HR.out HHV.out rfl rfl (by decide) hIm hb3).mono ?_
  rintro e w4 ⟨rfl, ⟨V', P', l', ct', ov', AP', cP', HS, HE⟩, hb4⟩
  rw [HGX.out] at HE ⊢
  obtain ⟨hv, hp, hl', hct', hov⟩ := HE.1 _ rfl
  subst hct'
  have k4 := HS.blk.cell 4
  simp only [imC, List.getElem?_cons_zero, List.getElem?_cons_succ, Nat.zero_add] at k4
  clear HE HS hIm
  go_wp2
  go_ret2
  rw [e1.out, e2.out]
  exact ⟨rfl, below_go hb1 hb4⟩
set_option maxHeartbeats 1000000 in
set_option maxRecDepth 100000 in
theorem impl_FindExtent {A : Option Addr} {N c : Nat} {l : List ByteArray} {n s : Int} {w : World} (hN : l.length = N) (h : Strs w A l) (hz : N ≤ 16777216) (hs : ∀ s ∈ l, s.size ≤ 16777216) :
    Calls Try.prog 18 #[.int .i64 n, .slice A N c, .int .i64 s] w fun e w' => ∃ A' c', e = .returned (.tuple #[.slice A' (fdL n l s).length c', .int .i64 (fdC n l s), .bool (okFind n l s)]) ∧ Owned strE 1 9 w' w.heap.size A' (fdL n l s).length c' (fdL n l s) ∧ (fdL n l s).length ≤ 16777216 ∧ Below w.heap.size w w' := by
  have HQ : Hid (okFind n l s = ((inB n 3 4 && goodWith n l) && inB s 1 200000)) := Lib.hid rfl
  rcases h4 : inB n 3 4
  · have e2 := Lib.hid (show okFind n l s = false by rw [HQ.out, h4]; rfl)
    have e1 := Lib.hid (fd_f e2.out)
    go_in
    go_wp2_with (first | (go_at_call 53; refine (impl_within _ _ _ _).mono ?_; rw [h4]; rintro e w' ⟨rfl, rfl⟩))
    go_ret3
    rw [e1.out.1, e1.out.2, e2.out]
    exact ⟨none, 0, rfl, Owned.nil strE_len _ _ _, by decide, Below.refl _ _⟩
  rcases h1 : goodWith n l
  · have e2 := Lib.hid (show okFind n l s = false by rw [HQ.out, h4, h1]; rfl)
    have e1 := Lib.hid (fd_f e2.out)
    go_in
    go_wp2_with (first | (go_at_call 53; refine (impl_within _ _ _ _).mono ?_; rw [h4]; rintro e w' ⟨rfl, rfl⟩) | (go_at_call 54; refine (impl_goodWith hN h hz hs).mono ?_; rw [h1]; rintro e w1 ⟨rfl, hb1⟩))
    go_ret3
    rw [e1.out.1, e1.out.2, e2.out]
    exact ⟨none, 0, rfl, Owned.nil strE_len _ _ _, by decide, hb1⟩
  rcases h2 : inB s 1 200000
  · have e2 := Lib.hid (show okFind n l s = false by rw [HQ.out, h4, h1, h2]; rfl)
    have e1 := Lib.hid (fd_f e2.out)
    go_in
    go_wp2_with (first | (go_at_call 53; refine (impl_within _ _ _ _).mono ?_; (first | rw [h4] | rw [h2]); rintro e w' ⟨rfl, rfl⟩) | (go_at_call 54; refine (impl_goodWith hN h hz hs).mono ?_; rw [h1]; rintro e w1 ⟨rfl, hb1⟩))
    go_ret3
    rw [e1.out.1, e1.out.2, e2.out]
    exact ⟨none, 0, rfl, Owned.nil strE_len _ _ _, by decide, hb1⟩
  have hb4 := inB_t h4
  have hbs := inB_t h2
  obtain ⟨q, rfl⟩ : ∃ q : Nat, n = (q : Int) := ⟨n.toNat, by omega⟩
  obtain ⟨t, rfl⟩ : ∃ t : Nat, s = (t : Int) := ⟨s.toNat, by omega⟩
  have e2 := Lib.hid (show okFind q l t = true by rw [HQ.out, h4, h1, h2]; rfl)
  have hl30 := inB_t (goodWith_stage_t h1).2.1
  have hq3 : 3 ≤ q := by omega
  have hq8 : q ≤ 8 := by omega
  have hr := rowN_rounds hq3 hq8
  have HV : ClOk q [roundsS q] := ⟨by simp, fun s hs => by rw [List.mem_singleton.1 hs]; exact hr⟩
  have HHV := Lib.hid HV
  have HR := Lib.hid hr
  have hfp := fact_pos q
  have HFD := Lib.hid (show [roundsS q].length + (fact q - 1) = fact q by simp; omega)
  have HFR := Lib.hid (show gX q l false (fact q - 1) (roundsS q) [roundsS q] [] t 0 = withK 0 (fateR q l t) from gX_find q l _ _ _ _ _ _)
  have HGV := Lib.hid (fun s (hs : s ∈ l) => good_valid (allCh_mem (goodWith_stage_t h1).2.2 s hs))
  have hmm := @run_makeMap Try.prog
  have KS := string_keyed (P := Try.prog) (k := 9) Try.underlying9
  have hkey := keyOf_string_mk (P := Try.prog) (k := 9) Try.underlying9 (s := roundsS q) (by rw [hr.2]; unfold maxLen; omega)
  have HKEY := Lib.hid hkey
  clear HV hr hkey hfp
  go_in
  go_wp2_with (first | (go_at_call 53; refine (impl_within _ _ _ _).mono ?_; (first | rw [h4] | rw [h2]); rintro e w' ⟨rfl, rfl⟩) | (go_at_call 54; refine (impl_goodWith hN h hz hs).mono ?_; rw [h1]; rintro e w1 ⟨rfl, hb1⟩; have HM0 := Lib.hid (MapX.made bEn bLi Try.prog w1 9 4)) | (go_at_call 55; refine (impl_rounds hq8).mono ?_; rintro e w' ⟨rfl, rfl⟩) | (refine wpList_mapx_ins rfl (.tmp 28) (.tmp 30) (.const (.bool true)) 63 rfl KS Try.underlying63 rfl HM0.out (by decide) (key := .string (roundsS q)) rfl (x := true) rfl HKEY.out (bLi_pe Try.underlying4 true) ?_; intro w2 hm2 hg2; have hmx := hm2 1 (setF [roundsS q]) rfl (setF_in (inL_iff.2 (by simp))) (fun q hq => setF_one hq); have HMX := Lib.hid hmx; clear hm2 hmx))
  have hb2 : Below w1.heap.size w1 w2 := ((Below.refl _ _).alloc (Nat.le_refl _) (.map #[] 0)).grown hg2 (by simp) (fun k hk => by injection hk with hk; omega)
  have hs2 := hb2.size
  have hb3 := hb2.alloc hs2 (.cells #[.int .i64 q, .slice A N c, .int .i64 t, .bool false, .int .i64 0, .map (some w1.heap.size), .slice none 0 0, .bool false] 65)
  have hIm : ImS (w2.alloc (.cells #[.int .i64 q, .slice A N c, .int .i64 t, .bool false, .int .i64 0, .map (some w1.heap.size), .slice none 0 0, .bool false] 65)) w1.heap.size w2.heap.size q N A c w1.heap.size false [roundsS q] [] (t : Int) ((0 : Nat) : Int) false none 0 :=
    ⟨Blk.at_ w2 65 (imC q N A c t false 0 w1.heap.size none 0 0 false) (b := w2.heap.size) rfl, HMX.out.alloc _, Owned.nil strE_len _ _ _, hs2, Nat.le_refl _⟩
  refine (impl_search hN (h.up hb1) (by omega) hq3 hq8 hs HGV.out false (fact q - 1) HR.out HHV.out HFD.out rfl (by omega) hIm hb3).mono ?_
  rintro e w4 ⟨rfl, ⟨V', P', l', ct', ov', AP', cP', HS, HE⟩, hb4'⟩
  rw [HFR.out] at HE ⊢
  rcases hf : fateR q l t with o | k
  · rw [hf] at HE
    have hl : Sum.isLeft (withK 0 (Sum.inl o)) = true := rfl
    rw [hl]
    rcases o with _ | P2
    · have e1 := Lib.hid (fd_over e2.out hf)
      have hm := HE.2.2 rfl
      subst hm
      have k7 := HS.blk.cell 7
      simp only [imC, List.getElem?_cons_zero, List.getElem?_cons_succ] at k7
      clear HE hf hl hIm
      go_wp2
      go_ret3
      rw [e1.out.1, e1.out.2, e2.out]
      exact ⟨none, 0, rfl, Owned.nil strE_len _ _ _, by decide, below_go hb1 hb4'⟩
    · have e1 := Lib.hid (fd_hit e2.out hf)
      have hw := fd_way hf (by omega)
      obtain ⟨hp, hov⟩ := HE.2.1 P2 rfl
      subst hp hov
      have k7 := HS.blk.cell 7; have k6 := HS.blk.cell 6
      simp only [imC, List.getElem?_cons_zero, List.getElem?_cons_succ] at k7 k6
      have HW2 := Lib.hid hw
      clear HE hf hl hw hIm
      go_wp2
      go_ret3
      rw [e1.out.1, e1.out.2, e2.out]
      exact ⟨AP', cP', rfl, HS.path.base_le hb1.size, by have := HW2.out.2; omega, below_go hb1 hb4'⟩
  · rw [hf] at HE
    have hl : Sum.isLeft (withK 0 (Sum.inr k)) = false := rfl
    rw [hl]
    have e1 := Lib.hid (fd_go e2.out hf)
    obtain ⟨_, _, _, _, hov⟩ := HE.1 (k, 0) rfl
    subst hov
    have k7 := HS.blk.cell 7
    simp only [imC, List.getElem?_cons_zero, List.getElem?_cons_succ] at k7
    clear HE hf hl hIm
    go_wp2
    go_ret3
    rw [e1.out.1, e1.out.2, e2.out]
    exact ⟨none, 0, rfl, Owned.nil strE_len _ _ _, by decide, below_go hb1 hb4'⟩
end Go.Proofs.Ytaednmpkedkmgaa
/- The walks through ReachBy, both sides. -/
namespace Go.Proofs.Ytaednmpkedkmgaa
set_option linter.unusedVariables false
set_option linter.unusedSimpArgs false
open Go.ChangeShapes Go.WideShapes Go.ChangeAt Go.RowKit Go.Deep
def okReach (n : Int) (l : List ByteArray) : Bool := goodWith n l && decide (n ≤ 5)
def reachN (n : Nat) (l : List ByteArray) : Nat := (clF n (l.map (chRow n))).length
def reachR (n : Int) (l : List ByteArray) : Int := if okReach n l = true then (reachN n.toNat l : Int) else 0
theorem reachR_f {n : Int} {l : List ByteArray} (h : okReach n l = false) : reachR n l = 0 := by rw [reachR, if_neg (by rw [h]; simp)]
theorem reachR_t {m : Nat} {l : List ByteArray} (h : okReach m l = true) : reachR m l = (reachN m l : Int) := by rw [reachR, if_pos h]; rfl
theorem chs_rows {n : Nat} (h3 : 3 ≤ n) (h8 : n ≤ 8) (l : List ByteArray) : ∀ g ∈ l.map (chRow n), RowN n g := by
  intro g hg
  obtain ⟨c, _, rfl⟩ := List.mem_map.1 hg
  exact ⟨good_ch ⟨h3, h8⟩ c, chRow_size n c⟩
set_option maxHeartbeats 1000000 in
set_option maxRecDepth 100000 in
theorem impl_ReachBy {A : Option Addr} {N c : Nat} {l : List ByteArray} {n : Int} {w : World} (hN : l.length = N) (h : Strs w A l) (hz : N ≤ 16777216) (hs : ∀ s ∈ l, s.size ≤ 16777216) :
    Calls Try.prog 28 #[.int .i64 n, .slice A N c] w fun e w' => e = .returned (.tuple #[.int .i64 (reachR n l), .bool (okReach n l)]) ∧ Below w.heap.size w w' := by
  have HQ : Hid (okReach n l = (goodWith n l && decide (n ≤ 5))) := Lib.hid rfl
  by_cases h5 : n ≤ 5
  rotate_left
  · have e2 := Lib.hid (show okReach n l = false by rw [HQ.out, decide_eq_false h5, Bool.and_false])
    have e1 := Lib.hid (reachR_f e2.out)
    have hI : (5 : Int) < n := by omega
    go_in
    go_wp2
    go_ret2
    rw [e1.out, e2.out]
    exact ⟨rfl, Below.refl _ _⟩
  have hI : ¬ (5 : Int) < n := by omega
  rcases h1 : goodWith n l
  · have e2 := Lib.hid (show okReach n l = false by rw [HQ.out, h1]; rfl)
    have e1 := Lib.hid (reachR_f e2.out)
    go_in
    go_wp2_with (first | (go_at_call 54; refine (impl_goodWith hN h hz hs).mono ?_; rw [h1]; rintro e w1 ⟨rfl, hb1⟩))
    go_ret2
    rw [e1.out, e2.out]
    exact ⟨rfl, hb1⟩
  obtain ⟨hst, hlen, hall⟩ := goodWith_stage_t h1
  have hn3 := inB_t hst
  have hl30 := inB_t hlen
  obtain ⟨m, rfl⟩ := Int.eq_ofNat_of_zero_le (show 0 ≤ n by omega)
  have e2 := Lib.hid (show okReach m l = true by rw [HQ.out, h1, decide_eq_true h5]; rfl)
  have e1 := Lib.hid (reachR_t e2.out)
  have hm : m ≤ 8 := by omega
  have hm3 : 3 ≤ m := by omega
  have HA := Lib.hid (allCh_mem hall)
  have HS := Lib.hid hs
  have hml : (l.map (chRow m)).length = l.length := List.length_map _
  have HRW := Lib.hid (chs_rows hm3 hm l)
  have hle := (clF_ok hm3 hm HRW.out).le
  have HE := Lib.hid (show reachN m l = (clF m (l.map (chRow m))).length from rfl)
  have hfp := fact_pos m
  have hf40 := fact_le8 hm
  subst hN
  go_in
  go_wp2_with (first | (go_at_call 54; refine (impl_goodWith rfl h hz hs).mono ?_; rw [h1]; rintro e w1 ⟨rfl, hb1⟩; clear hall hs hlen h1 h5))
  have hw1 := hb1.size
  go_loopw [6, 22] (fun v i wr => ∃ (k : Nat) (A' : Option Addr) (c' : Nat), k ≤ l.length ∧ i = .int .i64 k ∧ v = .slice A' k c' ∧ Hid (Owned strE 1 9 wr w1.heap.size A' k c' ((l.map (chRow m)).take k)) ∧ Below w1.heap.size w1 wr) (fun _ i _ => l.length - (intOf i).toNat)
  case atStart => exact ⟨0, _, _, Nat.zero_le _, rfl, rfl, Lib.hid (Owned.empty strE_len 9 w1 (Nat.le_refl _)), by (repeat' (first | (with_reducible exact Below.refl _ _) | (with_reducible assumption) | (with_reducible refine below_drewN ?_ _) | (with_reducible refine Below.drew ?_) | (with_reducible refine below_alloc ?_ _) | (with_reducible refine Below.alloc ?_ ?_ _) | (with_reducible refine Below.setCell ?_ ?_ _) | (with_reducible refine below_go ?_ (by with_reducible assumption)) | (with_reducible refine below_then (by with_reducible assumption) ?_ ?_) | go_size))⟩
  case round =>
    obtain ⟨k, A2, c2, hk, rfl, rfl, HO, hb⟩ := hrel
    rename World => w2
    have hB2 := below_go hb1 hb
    by_cases hlt : k < l.length
    · obtain ⟨b1, o1, y, rfl, hbb, hy, hcy⟩ := (h.below hB2 (Nat.le_refl _)).at_str hlt
      have hys := HS.out y (List.mem_of_getElem? hy)
      have hgv := good_valid (HA.out y (List.mem_of_getElem? hy))
      have HT := Lib.hid (show (l.map (chRow m)).take (k + 1) = (l.map (chRow m)).take k ++ [chRow m y] from map_take_succ _ hy)
      have hs2 := hb.size
      clear hy
      go_wp2_with fail
      refine (impl_changeRow hys hm hgv).mono ?_; rintro e w3 ⟨rfl, hb3⟩
      have hs3 := hb3.size
      have HO3 := Lib.hid (HO.out.up hb3)
      go_wp2_with (first | (at_builtin; go_must ((refine wpList_append_recs Try.elStr strE_one rfl (.tmp 26) (.tmp 30) rfl rfl (HO3.out.alloc _) rfl (own_lit1_at' strE_len w3 9 (chRow m y) rfl (Nat.le_refl _)).recs rfl ?_ (by decide) ?_ ?_; (focus (first | omega | (simp only [World.size_alloc]; done) | (simp only [World.size_alloc]; omega) | (simp; done) | (simp; omega))); (focus (first | omega | (simp only [World.size_alloc]; done) | (simp only [World.size_alloc]; omega) | (simp; done) | (simp; omega))); intro A4 c4 w4 ho4 hg4 hl4))))
      have hb4 : Below w1.heap.size w1 w4 := ((hb.trans (hb3.mono hs2)).alloc (by omega) _).trans (grown_base hg4 (by simp; omega) (fun k hk => (HO3.out.blk hk).1))
      go_roundw
      case rel => exact ⟨k + 1, A4, c4, by omega, by go_num, by go_num, Lib.hid (by rw [HT.out]; exact ho4), hb4⟩
      case measure => simp [intOf]; omega
    · obtain rfl : k = l.length := by omega
      have hot := HO.out
      rw [List.take_of_length_le (by rw [hml]; exact Nat.le_refl _)] at hot
      have HO2 := Lib.hid hot
      clear hot HO
      go_wp2_with (first | (go_at_call 69; refine (impl_factorial hm).mono ?_; rintro e w' ⟨rfl, rfl⟩))
      refine (impl_generated hml HO2.out.recs hz hm3 hm HRW.out hfp (by omega)).mono ?_; rw [decide_eq_true hle]; rintro e w3 ⟨A3, m3, c3, rfl, hy3, hn3', hb3⟩
      obtain ⟨rfl, _⟩ := hy3 hle
      go_wp2
      go_ret2
      rw [e1.out, e2.out, HE.out]
      exact ⟨rfl, below_go hB2 hb3⟩
set_option maxHeartbeats 1000000 in
set_option maxRecDepth 100000 in
theorem spec_ReachBy {A : Option Addr} {N c : Nat} {l : List ByteArray} {n : Int} {w : World} (hN : l.length = N) (h : Strs w A l) (hz : N ≤ 16777216) (hs : ∀ s ∈ l, s.size ≤ 16777216) (hn : I64 n) :
    Calls Try.prog 34 #[.int .i64 n, .slice A N c] w fun e w' => e = .returned (.tuple #[.int .i64 (reachR n l), .bool (okReach n l)]) ∧ Below w.heap.size w w' := by
  have HQ : Hid (okReach n l = (goodWith n l && decide (n ≤ 5))) := Lib.hid rfl
  rcases h5 : inB n 3 5
  · have e2 := Lib.hid (show okReach n l = false by
      rw [HQ.out]
      rcases h1 : goodWith n l
      · rfl
      · have := inB_t (goodWith_stage_t h1).1
        rw [inB, decide_eq_false_iff_not] at h5
        rw [decide_eq_false (by omega)]; rfl)
    have e1 := Lib.hid (reachR_f e2.out)
    go_in
    go_wp2_with (first | (go_at_call 57; refine (spec_l1In _ _ _ _).mono ?_; rw [h5]; rintro e w' ⟨rfl, rfl⟩))
    go_ret2
    rw [e1.out, e2.out]
    exact ⟨rfl, Below.refl _ _⟩
  rcases h1 : goodWith n l
  · have e2 := Lib.hid (show okReach n l = false by rw [HQ.out, h1]; rfl)
    have e1 := Lib.hid (reachR_f e2.out)
    go_in
    go_wp2_with (first | (go_at_call 57; refine (spec_l1In _ _ _ _).mono ?_; rw [h5]; rintro e w' ⟨rfl, rfl⟩) | (go_at_call 58; refine (spec_l19With hN h hz hs hn).mono ?_; rw [h1]; rintro e w' ⟨rfl, rfl⟩))
    go_ret2
    rw [e1.out, e2.out]
    exact ⟨rfl, Below.refl _ _⟩
  obtain ⟨hst, hlen, hall⟩ := goodWith_stage_t h1
  have hn3 := inB_t hst
  have hn5 := inB_t h5
  have hl30 := inB_t hlen
  obtain ⟨m, rfl⟩ := Int.eq_ofNat_of_zero_le (show 0 ≤ n by omega)
  have e2 := Lib.hid (show okReach m l = true by rw [HQ.out, h1, decide_eq_true hn5.2]; rfl)
  have e1 := Lib.hid (reachR_t e2.out)
  have hm : m ≤ 8 := by omega
  have hm3 : 3 ≤ m := by omega
  have HS := Lib.hid hs
  have hml : (l.map (chRow m)).length = l.length := List.length_map _
  have HRW := Lib.hid (chs_rows hm3 hm l)
  have hle := (clF_ok hm3 hm HRW.out).le
  have HE := Lib.hid (show reachN m l = (clF m (l.map (chRow m))).length from rfl)
  have hf5 : fact m ≤ 120 := by
    have : ∀ n, n < 6 → fact n ≤ 120 := of_decide_eq_true (by kernel_rfl)
    exact this m (by omega)
  subst hN
  go_in
  go_wp2_with (first | (go_at_call 57; refine (spec_l1In _ _ _ _).mono ?_; rw [h5]; rintro e w' ⟨rfl, rfl⟩) | (go_at_call 58; refine (spec_l19With rfl h hz hs hn).mono ?_; rw [h1]; rintro e w' ⟨rfl, rfl⟩; clear hall hs hlen h1 h5))
  go_loopw [6, 22] (fun v i wr => ∃ (k : Nat) (A' : Option Addr) (c' : Nat), k ≤ l.length ∧ i = .int .i64 k ∧ v = .slice A' k c' ∧ Hid (Owned strE 1 9 wr w.heap.size A' k c' ((l.map (chRow m)).take k)) ∧ Below w.heap.size w wr) (fun _ i _ => l.length - (intOf i).toNat)
  case atStart => exact ⟨0, none, 0, Nat.zero_le _, rfl, rfl, Lib.hid (Owned.nil strE_len _ _ _), Below.refl _ _⟩
  case round =>
    obtain ⟨k, A2, c2, hk, rfl, rfl, HO, hb⟩ := hrel
    rename World => w2
    by_cases hlt : k < l.length
    · obtain ⟨b1, o1, y, rfl, hbb, hy, hcy⟩ := (h.below hb (Nat.le_refl _)).at_str hlt
      have hys := HS.out y (List.mem_of_getElem? hy)
      have HT := Lib.hid (show (l.map (chRow m)).take (k + 1) = (l.map (chRow m)).take k ++ [chRow m y] from map_take_succ _ hy)
      have hs2 := hb.size
      clear hy
      go_wp2_with fail
      refine (spec_l2Row hys hm).mono ?_; rintro e w3 ⟨rfl, hb3⟩
      have hs3 := hb3.size
      have HO3 := Lib.hid (HO.out.up hb3)
      go_wp2_with (first | (at_builtin; go_must ((refine wpList_append_recs Try.elStr strE_one rfl (.tmp 26) (.tmp 30) rfl rfl (HO3.out.alloc _) rfl (own_lit1_at' strE_len w3 9 (chRow m y) rfl (Nat.le_refl _)).recs rfl ?_ (by decide) ?_ ?_; (focus (first | omega | (simp only [World.size_alloc]; done) | (simp only [World.size_alloc]; omega) | (simp; done) | (simp; omega))); (focus (first | omega | (simp only [World.size_alloc]; done) | (simp only [World.size_alloc]; omega) | (simp; done) | (simp; omega))); intro A4 c4 w4 ho4 hg4 hl4))))
      have hb4 : Below w.heap.size w w4 := ((hb.trans (hb3.mono hs2)).alloc (by omega) _).trans (grown_base hg4 (by simp; omega) (fun k hk => (HO3.out.blk hk).1))
      go_roundw
      case rel => exact ⟨k + 1, A4, c4, by omega, by go_num, by go_num, Lib.hid (by rw [HT.out]; exact ho4), hb4⟩
      case measure => simp [intOf]; omega
    · obtain rfl : k = l.length := by omega
      have hot := HO.out
      rw [List.take_of_length_le (by rw [hml]; exact Nat.le_refl _)] at hot
      have HO2 := Lib.hid hot
      clear hot HO
      have hle8 : (clF m (l.map (chRow m))).length ≤ 800 := by omega
      go_wp2_with fail
      refine (spec_l6Close hml HO2.out.recs (by omega) hz hm3 hm HRW.out).mono ?_; rw [decide_eq_true hle8]; rintro e w3 ⟨A3, m3, c3, rfl, hy3, hn3', hb3⟩
      obtain ⟨rfl, _⟩ := hy3 hle8
      go_wp2
      go_ret2
      rw [e1.out, e2.out, HE.out]
      exact ⟨rfl, below_go hb hb3⟩
end Go.Proofs.Ytaednmpkedkmgaa
/- Plain laws of extents that are not there: an extent needs all rows and an odd change; the count of all agrees. -/
namespace Go.Proofs.Ytaednmpkedkmgaa
set_option linter.unusedVariables false
set_option linter.unusedSimpArgs false
open Go.ChangeShapes Go.WideShapes Go.ChangeAt Go.RowKit Go.Deep
/-! what some rows generate is closed -/
theorem clAdd_mem (x g : ByteArray) (L : List ByteArray) : timesS x g ∈ clAdd x L g := by
  by_cases h : timesS x g ∈ L
  · rw [clAdd_in h]; exact h
  · rw [clAdd_new h]; simp
theorem clPart_mem {gs : List ByteArray} {x g : ByteArray} (L : List ByteArray) (hg : g ∈ gs) : timesS x g ∈ clPart gs x gs.length L := by
  obtain ⟨j, hj⟩ := List.getElem?_of_mem hg
  have hl := (List.getElem?_eq_some_iff.1 hj).1
  obtain ⟨d, e⟩ : ∃ d, gs.length = j + 1 + d := ⟨gs.length - (j + 1), by omega⟩
  have h1 := clPart_mono gs x L (j + 1) d
  rw [← e, clPart_succ L hj] at h1
  exact h1.subset (clAdd_mem x g _)
theorem clF_shut {n : Nat} {gs : List ByteArray} (h3 : 3 ≤ n) (h8 : n ≤ 8) (hg : ∀ g ∈ gs, RowN n g) {x g : ByteArray} (hx : x ∈ clF n gs) (hgg : g ∈ gs) : timesS x g ∈ clF n gs := by
  obtain ⟨k, hk⟩ := List.getElem?_of_mem hx
  have hl := (List.getElem?_eq_some_iff.1 hk).1
  have h1 : k < (clAt gs (roundsS n) k).length := by
    by_cases h : (clAt gs (roundsS n) k).length ≤ k
    · have hle := (clF_ok h3 h8 hg).le
      obtain ⟨d, e⟩ : ∃ d, fact n = k + d := ⟨fact n - k, by omega⟩
      have h2 : clF n gs = clAt gs (roundsS n) k := by rw [clF, e, clAt_stays h]
      rw [h2] at hl; omega
    · omega
  have h2 : (clAt gs (roundsS n) k)[k]? = some x := by
    obtain ⟨t, ht⟩ := clF_pre h3 h8 hg k
    rw [← ht, List.getElem?_append_left h1] at hk
    exact hk
  have h3' := clF_pre h3 h8 hg (k + 1)
  rw [clAt_more h2] at h3'
  exact h3'.subset (clPart_mem _ hgg)
theorem clF_first {n : Nat} {gs : List ByteArray} (h3 : 3 ≤ n) (h8 : n ≤ 8) (hg : ∀ g ∈ gs, RowN n g) : roundsS n ∈ clF n gs := (clF_pre h3 h8 hg 0).subset (by simp [clAt])
theorem clAt_all {Q : ByteArray → Prop} {gs : List ByteArray} {r : ByteArray} (h0 : Q r) (hs : ∀ x, Q x → ∀ g ∈ gs, Q (timesS x g)) : ∀ k, ∀ s ∈ clAt gs r k, Q s
  | 0 => fun s h => by rw [clAt, List.mem_singleton] at h; rw [h]; exact h0
  | k + 1 => by
    have ih := clAt_all h0 hs k
    rcases e : (clAt gs r k)[k]? with _ | x
    · rw [clAt_stop (List.getElem?_eq_none_iff.1 e)]; exact ih
    · rw [clAt_more e]
      have hx := ih x (List.mem_of_getElem? e)
      have key : ∀ (fs L : List ByteArray), (∀ g ∈ fs, g ∈ gs) → (∀ s ∈ L, Q s) → ∀ s ∈ fs.foldl (clAdd x) L, Q s := by
        intro fs
        induction fs with
        | nil => intro L _ hL; exact hL
        | cons g fs ihf =>
          intro L hf hL
          refine ihf _ (fun y hy => hf y (List.mem_cons_of_mem _ hy)) fun s h => ?_
          by_cases hin : timesS x g ∈ L
          · rw [clAdd_in hin] at h; exact hL s h
          · rw [clAdd_new hin] at h
            rcases List.mem_append.1 h with h | h
            · exact hL s h
            · rw [List.mem_singleton.1 h]; exact hs x hx g (hf g (List.mem_cons_self ..))
      exact key _ _ (fun g h => List.mem_of_mem_take h) ih
/-! a way found goes through all rows -/
theorem srchL_all {rec : ByteArray → List ByteArray → List ByteArray → Nat → Fate} {n : Nat} {C W : List ByteArray} {G : Prop} (hC : ∀ v ∈ C, ∀ c ∈ W, applyR v c ∈ C) {d : Nat}
    (hr : ∀ r V P left q, rec r V P left = .inl (some q) → ClOk n V → RowN n r → r ∈ C → (∀ v ∈ V, v ∈ C) → V.length + d = fact n → G)
    {r : ByteArray} {V P : List ByteArray} (hV : ClOk n V) (hrr : RowN n r) (hrC : r ∈ C) (hVC : ∀ v ∈ V, v ∈ C) (hl : V.length + (d + 1) = fact n) : ∀ (cs : List ByteArray) (left : Nat) (q : List ByteArray), (∀ c ∈ cs, c ∈ W) → srchL rec n false r V P cs left = .inl (some q) → G
  | [], left, q, hc, h => by rw [srchL] at h; cases h
  | c :: cs, 0, q, hc, h => by rw [srchL] at h; cases h
  | c :: cs, left + 1, q, hc, h => by
    have hcs : ∀ c' ∈ cs, c' ∈ W := fun c' h' => hc c' (List.mem_cons_of_mem _ h')
    have hcW := hc c (List.mem_cons_self ..)
    rcases hin : inL V (applyR r c)
    · rcases q2 : rec (applyR r c) (V ++ [applyR r c]) (P ++ [c]) left with o | l2
      · rw [srchL_in_end rfl hin q2] at h
        injection h with h
        subst h
        exact hr _ _ _ _ _ q2 (hV.snoc (hrr.apply c) hin) (hrr.apply c) (hC r hrC c hcW) (fun v hv => by
          rcases List.mem_append.1 hv with hv | hv
          · exact hVC v hv
          · rw [List.mem_singleton.1 hv]; exact hC r hrC c hcW) (by rw [List.length_append]; simp only [List.length_singleton]; omega)
      · rw [srchL_in_go rfl hin q2] at h
        exact srchL_all hC hr hV hrr hrC hVC hl cs l2 q hcs h
    · rw [srchL_skip (fun e => by cases e.1) (.inr hin)] at h
      exact srchL_all hC hr hV hrr hrC hVC hl cs left q hcs h
theorem srch_all {n : Nat} {C W : List ByteArray} (hC : ∀ v ∈ C, ∀ c ∈ W, applyR v c ∈ C) : ∀ (d : Nat) (r : ByteArray) (V P : List ByteArray) (left : Nat) (q : List ByteArray), srch n W d r V P left = .inl (some q) → ClOk n V → RowN n r → r ∈ C → (∀ v ∈ V, v ∈ C) → V.length + d = fact n → fact n ≤ C.length
  | 0, r, V, P, left, q, h, hV, hr, hrC, hVC, hl => by
    have := hV.1.length_le_of_subset hVC
    omega
  | d + 1, r, V, P, left, q, h, hV, hr, hrC, hVC, hl => by
    rw [srch] at h
    exact srchL_all hC (srch_all hC d) hV hr hrC hVC hl W left q (fun c h => h) h
/-! the count of all ways -/
theorem srchL_cnt {rs : ByteArray → List ByteArray → List ByteArray → Nat → Fate} {rc : ByteArray → List ByteArray → Nat} (hr : ∀ r V P left, (∀ q, rs r V P left = .inl (some q) → 0 < rc r V) ∧ (∀ l, rs r V P left = .inr l → rc r V = 0)) (n : Nat) (full : Bool) (r : ByteArray) (V P : List ByteArray) :
    ∀ (cs : List ByteArray) (left : Nat), (∀ q, srchL rs n full r V P cs left = .inl (some q) → 0 < cntL rc n full r V cs) ∧ (∀ l, srchL rs n full r V P cs left = .inr l → cntL rc n full r V cs = 0)
  | [], left => ⟨fun q h => (by rw [srchL] at h; cases h), fun l _ => (by rw [cntL])⟩
  | c :: cs, 0 => ⟨fun q h => (by rw [srchL] at h; cases h), fun l h => (by rw [srchL] at h; cases h)⟩
  | c :: cs, left + 1 => by
    have ih := srchL_cnt hr n full r V P cs
    by_cases hf : full = true
    · subst hf
      by_cases hx : applyR r c = roundsS n
      · rw [srchL_hit rfl hx, cntL, if_pos rfl, if_pos (decide_eq_true hx)]
        exact ⟨fun q _ => (by omega), fun l h => (by cases h)⟩
      · rw [srchL_skip (fun q => hx q.2) (.inl rfl), cntL, if_pos rfl, if_neg (by rw [decide_eq_false hx]; simp), Nat.zero_add]
        exact ih left
    · have hf2 : full = false := by cases full <;> simp_all
      subst hf2
      rcases hin : inL V (applyR r c)
      · rw [cntL, if_neg (by simp), if_neg (by rw [hin]; simp)]
        have h1 := hr (applyR r c) (V ++ [applyR r c]) (P ++ [c]) left
        rcases q2 : rs (applyR r c) (V ++ [applyR r c]) (P ++ [c]) left with o | l2
        · rw [srchL_in_end rfl hin q2]
          refine ⟨fun q h => ?_, fun l h => (by cases h)⟩
          injection h with h
          subst h
          have := h1.1 q q2
          omega
        · rw [srchL_in_go rfl hin q2]
          have h2 := h1.2 l2 q2
          rw [h2, Nat.zero_add]
          exact ih l2
      · rw [srchL_skip (fun e => by cases e.1) (.inr hin), cntL, if_neg (by simp), if_pos hin]
        exact ih left
theorem srch_cnt (n : Nat) (W : List ByteArray) : ∀ (d : Nat) (r : ByteArray) (V P : List ByteArray) (left : Nat), (∀ q, srch n W d r V P left = .inl (some q) → 0 < cntX n W d r V) ∧ (∀ l, srch n W d r V P left = .inr l → cntX n W d r V = 0)
  | 0, r, V, P, left => srchL_cnt (rs := fun _ _ _ l => .inr l) (rc := fun _ _ => 0) (fun _ _ _ _ => ⟨fun q h => (by cases h), fun l _ => rfl⟩) n true r V P W left
  | d + 1, r, V, P, left => srchL_cnt (srch_cnt n W d) n false r V P W left
/-! together -/
theorem find_t {n s : Int} {l : List ByteArray} (h : okFind n l s = true) : (3 ≤ n ∧ n ≤ 4) ∧ goodWith n l = true := by
  rw [okFind, Bool.and_eq_true, Bool.and_eq_true] at h
  exact ⟨inB_t h.1.1, h.1.2⟩
theorem found_all {n s : Nat} {l q : List ByteArray} (h3 : 3 ≤ n) (h8 : n ≤ 8) (h : fateR n l s = .inl (some q)) : fact n ≤ reachN n l := by
  have hg := chs_rows h3 h8 l
  have hr := rowN_rounds h3 h8
  refine srch_all (n := n) (W := l) (C := clF n (l.map (chRow n))) (fun v hv c hc => ?_) (fact n - 1) (roundsS n) [roundsS n] [] s q h ⟨by simp, fun s hs => by rw [List.mem_singleton.1 hs]; exact hr⟩ hr (clF_first h3 h8 hg) (fun v hv => by rw [List.mem_singleton.1 hv]; exact clF_first h3 h8 hg) (by have := fact_pos n; simp only [List.length_singleton]; omega)
  have hv2 := (clF_ok h3 h8 hg).2 v hv
  have := clF_shut h3 h8 hg hv (List.mem_map_of_mem (f := chRow n) hc)
  rw [applyR, hv2.2]
  exact this
theorem reach_le {n : Nat} {l : List ByteArray} (h3 : 3 ≤ n) (h8 : n ≤ 8) : reachN n l ≤ fact n := (clF_ok h3 h8 (chs_rows h3 h8 l)).le
theorem odds_zero {m : Nat} {l : List ByteArray} (h : odds m l l.length = 0) : ∀ c ∈ l, evenSwaps m c = true := fun c hc => by
  rw [odds, List.take_length, List.length_eq_zero_iff, List.filter_eq_nil_iff] at h
  have := h c hc
  rcases e : evenSwaps m c
  · rw [isOdd, e] at this; simp at this
  · rfl
theorem odd_row {n : Nat} (h : n = 3 ∨ n = 4) : ∃ x, RowN n x ∧ evenRow x = false := by
  rcases h with rfl | rfl
  · exact ⟨⟨#[50, 49, 51]⟩, ⟨of_decide_eq_true (by kernel_rfl), rfl⟩, of_decide_eq_true (by kernel_rfl)⟩
  · exact ⟨⟨#[50, 49, 51, 52]⟩, ⟨of_decide_eq_true (by kernel_rfl), rfl⟩, of_decide_eq_true (by kernel_rfl)⟩
theorem even_not_all {n : Nat} {l : List ByteArray} (hn : n = 3 ∨ n = 4) (h : odds n l l.length = 0) : reachN n l ≠ fact n := by
  intro e
  have h3 : 3 ≤ n := by omega
  have h8 : n ≤ 8 := by omega
  have hg := chs_rows h3 h8 l
  have hz := odds_zero h
  have hok := clF_ok h3 h8 hg
  obtain ⟨x, hx, hxe⟩ := odd_row hn
  have hin := rows_all hok.1 hok.2 (by have : (clF n (l.map (chRow n))).length = fact n := e; omega) hx
  have hr0 : ∀ n, n < 9 → evenRow (roundsS n) = true := of_decide_eq_true (by kernel_rfl)
  have hall := clAt_all (Q := fun s => RowN n s ∧ evenRow s = true) (gs := l.map (chRow n)) (r := roundsS n) ⟨rowN_rounds h3 h8, hr0 n (by omega)⟩ (fun y hy g hgm => by
    refine ⟨hy.1.times (hg g hgm), ?_⟩
    obtain ⟨c, hc, rfl⟩ := List.mem_map.1 hgm
    have h1 := sign_apply hy.1.1 c
    rw [applyR, hy.1.2] at h1
    rw [h1, hy.2, hz c hc]; rfl) (fact n) x hin
  rw [hall.2] at hxe; cases hxe
def allN (n : Int) : Int := if n = 4 then 24 else 6
theorem noext {n s : Int} {l : List ByteArray} (h : okFind n l s = true) : okReach n l = true ∧ goodWith n l = true ∧ (n = 3 ∨ n = 4) ∧ (fdC n l s = 1 → reachR n l = allN n ∧ oddsR n l ≠ 0) ∧ (oddsR n l = 0 → reachR n l ≠ allN n) ∧ (0 ≤ reachR n l ∧ reachR n l ≤ allN n) ∧
    (n = 3 → okCount n l = true ∧ 0 ≤ countR n l ∧ (fdC n l s = 1 → countR n l ≠ 0) ∧ (fdC n l s = 2 → countR n l = 0)) := by
  obtain ⟨hn, hw⟩ := find_t h
  obtain ⟨m, rfl⟩ : ∃ m : Nat, n = (m : Int) := ⟨n.toNat, by omega⟩
  have hs := h
  rw [okFind, Bool.and_eq_true] at hs
  have hs2 := inB_t hs.2
  obtain ⟨t, rfl⟩ : ∃ t : Nat, s = (t : Int) := ⟨s.toNat, by omega⟩
  have hm : m = 3 ∨ m = 4 := by omega
  have hok : okReach m l = true := by rw [okReach, hw, decide_eq_true (by omega)]; rfl
  have hf : (fact m : Int) = allN m := by rcases hm with rfl | rfl <;> rfl
  have hle := reach_le (l := l) (n := m) (by omega) (by omega)
  rw [reachR_t hok, oddsR_t hw, ← hf]
  have hne := even_not_all (l := l) hm
  have A : fdC m l t = 1 → reachN m l = fact m := fun e => by
    rcases hF : fateR m l t with o | k
    · rcases o with _ | q
      · rw [(fd_over h hF).2] at e; omega
      · have := found_all (by omega) (by omega) hF; omega
    · rw [(fd_go h hF).2] at e; omega
  refine ⟨hok, hw, by omega, fun e => ⟨by rw [A e], fun e2 => hne (by omega) (A e)⟩, fun e e2 => hne (by omega) (by omega), by omega, fun e3 => ?_⟩
  obtain rfl : m = 3 := by omega
  have hoc : okCount ((3 : Nat) : Int) l = true := by rw [okCount, hw]; rfl
  rw [countR_t hoc]
  have hc := srch_cnt 3 l 5 (roundsS 3) [roundsS 3] [] t
  have hfr : fateR 3 l t = srch 3 l 5 (roundsS 3) [roundsS 3] [] t := rfl
  refine ⟨hoc, by omega, fun e => ?_, fun e => ?_⟩
  · rcases hF : fateR 3 l t with o | k
    · rcases o with _ | q
      · rw [(fd_over h hF).2] at e; omega
      · have := hc.1 q (by rw [← hfr]; exact hF); omega
    · rw [(fd_go h hF).2] at e; omega
  · rcases hF : fateR 3 l t with o | k
    · rcases o with _ | q
      · rw [(fd_over h hF).2] at e; omega
      · rw [(fd_hit h hF).2] at e; omega
    · have := hc.2 k (by rw [← hfr]; exact hF); omega
end Go.Proofs.Ytaednmpkedkmgaa
/- The walk through FnNoExtents: for all bytes the law answers true. -/
namespace Go.Proofs.Ytaednmpkedkmgaa
set_option linter.unusedVariables false
set_option linter.unusedSimpArgs false
open Go.ChangeShapes Go.WideShapes Go.ChangeAt Go.RowKit Go.Deep
theorem laws_big2 (A B : Option Addr) (n m c d : Nat) (w : World) (hn : n ≤ 9223372036854775807) (hm : m ≤ 9223372036854775807) :
    Calls Try.prog 6 #[.slice A n c, .slice B m d] w fun e w' => e = .returned (.bool (!decide (n + m ≤ 1048576))) ∧ w = w' := by
  by_cases h1 : n ≤ 1048576
  · have hI : ¬ (1048576 : Int) < (n : Int) := by omega
    have hW : IntKind.i64.wrap (1048576 - (n : Int)) = 1048576 - (n : Int) := wrap_id (by omega)
    go_in
    go_wp2
    go_ret
    refine ⟨ret_bool ?_, rfl⟩
    by_cases h2 : n + m ≤ 1048576
    · simp [h2]; omega
    · simp [h2]; omega
  · have hI : (1048576 : Int) < (n : Int) := by omega
    go_in
    go_wp2
    go_ret
    refine ⟨ret_bool ?_, rfl⟩
    have h2 : ¬ n + m ≤ 1048576 := by omega
    simp [h2]
theorem i64_small {x : Int} (h : 0 ≤ x ∧ x ≤ 1000000) : I64 x := by
  unfold I64
  omega
set_option maxHeartbeats 4000000 in
set_option maxRecDepth 100000 in
theorem law_NoExtents (A0 : Option Addr) (c0 : Nat) (l0 : List Int) (A1 : Option Addr) (c1 : Nat) (l1 : List Int) (w : World) (h0 : Recs byteE 1 w A0 l0) (hm0 : l0.length ≤ 9223372036854775807) (hb0 : ∀ x ∈ l0, 0 ≤ x ∧ x ≤ 255)
    (h1 : Recs byteE 1 w A1 l1) (hm1 : l1.length ≤ 9223372036854775807) (hb1 : ∀ x ∈ l1, 0 ≤ x ∧ x ≤ 255) :
    Calls Try.prog 5 #[.slice A0 l0.length c0, .slice A1 l1.length c1] w fun e w' => e = .returned (.bool true) ∧ Below w.heap.size w w' := by
  by_cases hz : l0.length + l1.length ≤ 1048576
  · have S0 := Lib.hid (show Src w A0 l0.length from ⟨l0, rfl, by omega, hb0, h0⟩)
    have S1 := Lib.hid (show Src w A1 l1.length from ⟨l1, rfl, by omega, hb1, h1⟩)
    clear h0 h1 hb0 hb1
    go_in
    go_wp2_with fail
    refine (laws_big2 _ _ _ _ _ _ _ (by omega) (by omega)).mono ?_; rintro e w' ⟨rfl, rfl⟩
    go_wp2_with fail
    refine (draw_FindExtent S0.out).mono ?_; rintro e w1 ⟨N, A4, n4, c4, l4, s, rfl, e4, k4, z4, R4, s0, s1, m4, hB1⟩
    subst e4
    obtain ⟨z, hzN⟩ : ∃ z : Int, z = (N : Int) := ⟨_, rfl⟩
    have hzb : 0 ≤ z ∧ z ≤ 5 := by omega
    rw [← hzN]
    clear hzN
    have HZ4 := Lib.hid z4
    have HW := hB1
    clear z4 hB1
    go_wp2_with fail
    refine (impl_FindExtent rfl R4 (by omega) HZ4.out).mono ?_; rintro e w2 ⟨A5, c5, rfl, _, _, hb2⟩
    have R4 := R4.up hb2
    have HW := below_go HW hb2
    go_wp2_with fail
    refine (spec_FindExtent rfl R4 (by omega) HZ4.out (i64_small (by omega)) (i64_small (by omega))).mono ?_; rintro e w3 ⟨A6, c6, rfl, _, _, hb3⟩
    have R4 := R4.up hb3
    have HW := below_go HW hb3
    clear hb2 hb3
    have NE := Lib.hid (fun h => noext (n := z) (s := s) (l := l4) h)
    obtain ⟨f, hf⟩ : ∃ f, f = fdC z l4 s := ⟨_, rfl⟩
    rw [← hf]
    rcases hok : okFind z l4 s
    · clear hf NE
      go_wp2_with fail
      refine (draw_CountExtents (S1.out.over HW)).mono ?_; rintro e w20 ⟨N2, A2, n2, c2, l2, rfl, e2, k2, z2, R2, m2, hb20⟩
      subst e2
      have HW := below_go HW hb20
      have HZ2 := Lib.hid z2
      clear z2
      go_wp2_with fail
      refine (impl_CountExtents rfl R2 (by omega) HZ2.out).mono ?_; rintro e w21 ⟨rfl, hb21⟩
      have R2 := R2.up hb21
      have HW := below_go HW hb21
      go_wp2_with fail
      refine (spec_CountExtents rfl R2 (by omega) HZ2.out (i64_small (by omega))).mono ?_; rintro e w22 ⟨rfl, hb22⟩
      have HW := below_go HW hb22
      clear R2 hb20 hb21 hb22
      go_wp2_with fail
      refine (draw_ReachBy (S1.out.over HW)).mono ?_; rintro e w23 ⟨N3, A3, n3, c3, l3, rfl, e3, k3, z3, R3, m3, hb23⟩
      subst e3
      have HW := below_go HW hb23
      have HZ3 := Lib.hid z3
      clear z3
      go_wp2_with fail
      refine (impl_ReachBy rfl R3 (by omega) HZ3.out).mono ?_; rintro e w24 ⟨rfl, hb24⟩
      have R3 := R3.up hb24
      have HW := below_go HW hb24
      go_wp2_with fail
      refine (spec_ReachBy rfl R3 (by omega) HZ3.out (i64_small (by omega))).mono ?_; rintro e w25 ⟨rfl, hb25⟩
      have R3 := R3.up hb25
      have HW := below_go HW hb25
      go_wp2_with fail
      refine (impl_OddsIn rfl R3 (by omega) HZ3.out).mono ?_; rintro e w26 ⟨rfl, hb26⟩
      have R3 := R3.up hb26
      have HW := below_go HW hb26
      go_wp2_with fail
      refine (spec_OddsIn rfl R3 (by omega) HZ3.out (i64_small (by omega))).mono ?_; rintro e w27 ⟨rfl, hb27⟩
      have HW := below_go HW hb27
      clear R3 hb23 hb24 hb25 hb26 hb27
      go_wp2
      go_ret
      exact ⟨rfl, HW⟩
    · obtain ⟨g1, g2, g3, g4, g5, g6, g7⟩ := NE.out hok
      have HR := Lib.hid g1
      have HG := Lib.hid g2
      obtain ⟨r, hr⟩ : ∃ r, r = reachR z l4 := ⟨_, rfl⟩
      obtain ⟨o, ho⟩ : ∃ o, o = oddsR z l4 := ⟨_, rfl⟩
      obtain ⟨m, hm⟩ : ∃ m, m = countR z l4 := ⟨_, rfl⟩
      rw [← hf, ← hr, ← ho] at g4
      rw [← hr, ← ho] at g5
      rw [← hr] at g6
      rw [← hf, ← hm] at g7
      have HRR := Lib.hid hr; have HOO := Lib.hid ho; have HMM := Lib.hid hm
      clear hf hr ho hm NE g1 g2
      rcases g3 with rfl | rfl
      · obtain ⟨q1, q2, q3, q4⟩ := g7 rfl
        have HC := Lib.hid q1
        have e6 : allN 3 = 6 := rfl
        rw [e6] at g4 g5 g6
        clear g7 q1 e6
        go_wp2_with fail
        refine (impl_ReachBy rfl R4 (by omega) HZ4.out).mono ?_; rw [← HRR.out, HR.out]; rintro e w4 ⟨rfl, hb4⟩
        have R4 := R4.up hb4
        have HW := below_go HW hb4
        go_wp2_with fail
        refine (impl_OddsIn rfl R4 (by omega) HZ4.out).mono ?_; rw [← HOO.out, HG.out]; rintro e w5 ⟨rfl, hb5⟩
        have R4 := R4.up hb5
        have HW := below_go HW hb5
        clear hb4 hb5
        by_cases hr : r < 6
        · have hf1 : ¬ f = 1 := fun e => by have := (g4 e).1; omega
          have hr2 : ¬ r = 6 := by omega
          clear g4 g5 g6
          by_cases ho : o = 0
          · have bf : (f == 1) = false := by simpa using hf1
            have br : (r == 6) = false := by simpa using hr2
            go_wp2_with fail
            refine (impl_CountExtents rfl R4 (by omega) HZ4.out).mono ?_; rw [← HMM.out, HC.out]; rintro e w6 ⟨rfl, hb6⟩
            have HW := below_go HW hb6
            clear hb6 R4 HZ4 HRR HOO HMM HC HG HR
            by_cases h1 : f = 1
            · exact absurd h1 hf1
            · by_cases h2 : f = 2
              · have h3 : ¬ 0 < m := by have := q4 h2; omega
                clear q3 q4
                go_wp2_with fail
                refine (draw_CountExtents (S1.out.over HW)).mono ?_; rintro e w20 ⟨N2, A2, n2, c2, l2, rfl, e2, k2, z2, R2, m2, hb20⟩
                subst e2
                have HW := below_go HW hb20
                have HZ2 := Lib.hid z2
                clear z2
                go_wp2_with fail
                refine (impl_CountExtents rfl R2 (by omega) HZ2.out).mono ?_; rintro e w21 ⟨rfl, hb21⟩
                have R2 := R2.up hb21
                have HW := below_go HW hb21
                go_wp2_with fail
                refine (spec_CountExtents rfl R2 (by omega) HZ2.out (i64_small (by omega))).mono ?_; rintro e w22 ⟨rfl, hb22⟩
                have HW := below_go HW hb22
                clear R2 hb20 hb21 hb22
                go_wp2_with fail
                refine (draw_ReachBy (S1.out.over HW)).mono ?_; rintro e w23 ⟨N3, A3, n3, c3, l3, rfl, e3, k3, z3, R3, m3, hb23⟩
                subst e3
                have HW := below_go HW hb23
                have HZ3 := Lib.hid z3
                clear z3
                go_wp2_with fail
                refine (impl_ReachBy rfl R3 (by omega) HZ3.out).mono ?_; rintro e w24 ⟨rfl, hb24⟩
                have R3 := R3.up hb24
                have HW := below_go HW hb24
                go_wp2_with fail
                refine (spec_ReachBy rfl R3 (by omega) HZ3.out (i64_small (by omega))).mono ?_; rintro e w25 ⟨rfl, hb25⟩
                have R3 := R3.up hb25
                have HW := below_go HW hb25
                go_wp2_with fail
                refine (impl_OddsIn rfl R3 (by omega) HZ3.out).mono ?_; rintro e w26 ⟨rfl, hb26⟩
                have R3 := R3.up hb26
                have HW := below_go HW hb26
                go_wp2_with fail
                refine (spec_OddsIn rfl R3 (by omega) HZ3.out (i64_small (by omega))).mono ?_; rintro e w27 ⟨rfl, hb27⟩
                have HW := below_go HW hb27
                clear R3 hb23 hb24 hb25 hb26 hb27
                go_wp2
                go_ret
                exact ⟨rfl, HW⟩
              · clear q3 q4
                go_wp2_with fail
                refine (draw_CountExtents (S1.out.over HW)).mono ?_; rintro e w20 ⟨N2, A2, n2, c2, l2, rfl, e2, k2, z2, R2, m2, hb20⟩
                subst e2
                have HW := below_go HW hb20
                have HZ2 := Lib.hid z2
                clear z2
                go_wp2_with fail
                refine (impl_CountExtents rfl R2 (by omega) HZ2.out).mono ?_; rintro e w21 ⟨rfl, hb21⟩
                have R2 := R2.up hb21
                have HW := below_go HW hb21
                go_wp2_with fail
                refine (spec_CountExtents rfl R2 (by omega) HZ2.out (i64_small (by omega))).mono ?_; rintro e w22 ⟨rfl, hb22⟩
                have HW := below_go HW hb22
                clear R2 hb20 hb21 hb22
                go_wp2_with fail
                refine (draw_ReachBy (S1.out.over HW)).mono ?_; rintro e w23 ⟨N3, A3, n3, c3, l3, rfl, e3, k3, z3, R3, m3, hb23⟩
                subst e3
                have HW := below_go HW hb23
                have HZ3 := Lib.hid z3
                clear z3
                go_wp2_with fail
                refine (impl_ReachBy rfl R3 (by omega) HZ3.out).mono ?_; rintro e w24 ⟨rfl, hb24⟩
                have R3 := R3.up hb24
                have HW := below_go HW hb24
                go_wp2_with fail
                refine (spec_ReachBy rfl R3 (by omega) HZ3.out (i64_small (by omega))).mono ?_; rintro e w25 ⟨rfl, hb25⟩
                have R3 := R3.up hb25
                have HW := below_go HW hb25
                go_wp2_with fail
                refine (impl_OddsIn rfl R3 (by omega) HZ3.out).mono ?_; rintro e w26 ⟨rfl, hb26⟩
                have R3 := R3.up hb26
                have HW := below_go HW hb26
                go_wp2_with fail
                refine (spec_OddsIn rfl R3 (by omega) HZ3.out (i64_small (by omega))).mono ?_; rintro e w27 ⟨rfl, hb27⟩
                have HW := below_go HW hb27
                clear R3 hb23 hb24 hb25 hb26 hb27
                go_wp2
                go_ret
                exact ⟨rfl, HW⟩
          · have bf : (f == 1) = false := by simpa using hf1
            go_wp2_with fail
            refine (impl_CountExtents rfl R4 (by omega) HZ4.out).mono ?_; rw [← HMM.out, HC.out]; rintro e w6 ⟨rfl, hb6⟩
            have HW := below_go HW hb6
            clear hb6 R4 HZ4 HRR HOO HMM HC HG HR
            by_cases h1 : f = 1
            · exact absurd h1 hf1
            · by_cases h2 : f = 2
              · have h3 : ¬ 0 < m := by have := q4 h2; omega
                clear q3 q4
                go_wp2_with fail
                refine (draw_CountExtents (S1.out.over HW)).mono ?_; rintro e w20 ⟨N2, A2, n2, c2, l2, rfl, e2, k2, z2, R2, m2, hb20⟩
                subst e2
                have HW := below_go HW hb20
                have HZ2 := Lib.hid z2
                clear z2
                go_wp2_with fail
                refine (impl_CountExtents rfl R2 (by omega) HZ2.out).mono ?_; rintro e w21 ⟨rfl, hb21⟩
                have R2 := R2.up hb21
                have HW := below_go HW hb21
                go_wp2_with fail
                refine (spec_CountExtents rfl R2 (by omega) HZ2.out (i64_small (by omega))).mono ?_; rintro e w22 ⟨rfl, hb22⟩
                have HW := below_go HW hb22
                clear R2 hb20 hb21 hb22
                go_wp2_with fail
                refine (draw_ReachBy (S1.out.over HW)).mono ?_; rintro e w23 ⟨N3, A3, n3, c3, l3, rfl, e3, k3, z3, R3, m3, hb23⟩
                subst e3
                have HW := below_go HW hb23
                have HZ3 := Lib.hid z3
                clear z3
                go_wp2_with fail
                refine (impl_ReachBy rfl R3 (by omega) HZ3.out).mono ?_; rintro e w24 ⟨rfl, hb24⟩
                have R3 := R3.up hb24
                have HW := below_go HW hb24
                go_wp2_with fail
                refine (spec_ReachBy rfl R3 (by omega) HZ3.out (i64_small (by omega))).mono ?_; rintro e w25 ⟨rfl, hb25⟩
                have R3 := R3.up hb25
                have HW := below_go HW hb25
                go_wp2_with fail
                refine (impl_OddsIn rfl R3 (by omega) HZ3.out).mono ?_; rintro e w26 ⟨rfl, hb26⟩
                have R3 := R3.up hb26
                have HW := below_go HW hb26
                go_wp2_with fail
                refine (spec_OddsIn rfl R3 (by omega) HZ3.out (i64_small (by omega))).mono ?_; rintro e w27 ⟨rfl, hb27⟩
                have HW := below_go HW hb27
                clear R3 hb23 hb24 hb25 hb26 hb27
                go_wp2
                go_ret
                exact ⟨rfl, HW⟩
              · clear q3 q4
                go_wp2_with fail
                refine (draw_CountExtents (S1.out.over HW)).mono ?_; rintro e w20 ⟨N2, A2, n2, c2, l2, rfl, e2, k2, z2, R2, m2, hb20⟩
                subst e2
                have HW := below_go HW hb20
                have HZ2 := Lib.hid z2
                clear z2
                go_wp2_with fail
                refine (impl_CountExtents rfl R2 (by omega) HZ2.out).mono ?_; rintro e w21 ⟨rfl, hb21⟩
                have R2 := R2.up hb21
                have HW := below_go HW hb21
                go_wp2_with fail
                refine (spec_CountExtents rfl R2 (by omega) HZ2.out (i64_small (by omega))).mono ?_; rintro e w22 ⟨rfl, hb22⟩
                have HW := below_go HW hb22
                clear R2 hb20 hb21 hb22
                go_wp2_with fail
                refine (draw_ReachBy (S1.out.over HW)).mono ?_; rintro e w23 ⟨N3, A3, n3, c3, l3, rfl, e3, k3, z3, R3, m3, hb23⟩
                subst e3
                have HW := below_go HW hb23
                have HZ3 := Lib.hid z3
                clear z3
                go_wp2_with fail
                refine (impl_ReachBy rfl R3 (by omega) HZ3.out).mono ?_; rintro e w24 ⟨rfl, hb24⟩
                have R3 := R3.up hb24
                have HW := below_go HW hb24
                go_wp2_with fail
                refine (spec_ReachBy rfl R3 (by omega) HZ3.out (i64_small (by omega))).mono ?_; rintro e w25 ⟨rfl, hb25⟩
                have R3 := R3.up hb25
                have HW := below_go HW hb25
                go_wp2_with fail
                refine (impl_OddsIn rfl R3 (by omega) HZ3.out).mono ?_; rintro e w26 ⟨rfl, hb26⟩
                have R3 := R3.up hb26
                have HW := below_go HW hb26
                go_wp2_with fail
                refine (spec_OddsIn rfl R3 (by omega) HZ3.out (i64_small (by omega))).mono ?_; rintro e w27 ⟨rfl, hb27⟩
                have HW := below_go HW hb27
                clear R3 hb23 hb24 hb25 hb26 hb27
                go_wp2
                go_ret
                exact ⟨rfl, HW⟩
        · have ho : ¬ o = 0 := fun e => g5 e (by omega)
          clear g4 g5 g6
          go_wp2_with fail
          refine (impl_CountExtents rfl R4 (by omega) HZ4.out).mono ?_; rw [← HMM.out, HC.out]; rintro e w6 ⟨rfl, hb6⟩
          have HW := below_go HW hb6
          clear hb6 R4 HZ4 HRR HOO HMM HC HG HR
          by_cases h1 : f = 1
          · have h2 : ¬ f = 2 := by omega
            have h3 : ¬ m = 0 := q3 h1
            clear q3 q4
            go_wp2_with fail
            refine (draw_CountExtents (S1.out.over HW)).mono ?_; rintro e w20 ⟨N2, A2, n2, c2, l2, rfl, e2, k2, z2, R2, m2, hb20⟩
            subst e2
            have HW := below_go HW hb20
            have HZ2 := Lib.hid z2
            clear z2
            go_wp2_with fail
            refine (impl_CountExtents rfl R2 (by omega) HZ2.out).mono ?_; rintro e w21 ⟨rfl, hb21⟩
            have R2 := R2.up hb21
            have HW := below_go HW hb21
            go_wp2_with fail
            refine (spec_CountExtents rfl R2 (by omega) HZ2.out (i64_small (by omega))).mono ?_; rintro e w22 ⟨rfl, hb22⟩
            have HW := below_go HW hb22
            clear R2 hb20 hb21 hb22
            go_wp2_with fail
            refine (draw_ReachBy (S1.out.over HW)).mono ?_; rintro e w23 ⟨N3, A3, n3, c3, l3, rfl, e3, k3, z3, R3, m3, hb23⟩
            subst e3
            have HW := below_go HW hb23
            have HZ3 := Lib.hid z3
            clear z3
            go_wp2_with fail
            refine (impl_ReachBy rfl R3 (by omega) HZ3.out).mono ?_; rintro e w24 ⟨rfl, hb24⟩
            have R3 := R3.up hb24
            have HW := below_go HW hb24
            go_wp2_with fail
            refine (spec_ReachBy rfl R3 (by omega) HZ3.out (i64_small (by omega))).mono ?_; rintro e w25 ⟨rfl, hb25⟩
            have R3 := R3.up hb25
            have HW := below_go HW hb25
            go_wp2_with fail
            refine (impl_OddsIn rfl R3 (by omega) HZ3.out).mono ?_; rintro e w26 ⟨rfl, hb26⟩
            have R3 := R3.up hb26
            have HW := below_go HW hb26
            go_wp2_with fail
            refine (spec_OddsIn rfl R3 (by omega) HZ3.out (i64_small (by omega))).mono ?_; rintro e w27 ⟨rfl, hb27⟩
            have HW := below_go HW hb27
            clear R3 hb23 hb24 hb25 hb26 hb27
            go_wp2
            go_ret
            exact ⟨rfl, HW⟩
          · by_cases h2 : f = 2
            · have h3 : ¬ 0 < m := by have := q4 h2; omega
              clear q3 q4
              go_wp2_with fail
              refine (draw_CountExtents (S1.out.over HW)).mono ?_; rintro e w20 ⟨N2, A2, n2, c2, l2, rfl, e2, k2, z2, R2, m2, hb20⟩
              subst e2
              have HW := below_go HW hb20
              have HZ2 := Lib.hid z2
              clear z2
              go_wp2_with fail
              refine (impl_CountExtents rfl R2 (by omega) HZ2.out).mono ?_; rintro e w21 ⟨rfl, hb21⟩
              have R2 := R2.up hb21
              have HW := below_go HW hb21
              go_wp2_with fail
              refine (spec_CountExtents rfl R2 (by omega) HZ2.out (i64_small (by omega))).mono ?_; rintro e w22 ⟨rfl, hb22⟩
              have HW := below_go HW hb22
              clear R2 hb20 hb21 hb22
              go_wp2_with fail
              refine (draw_ReachBy (S1.out.over HW)).mono ?_; rintro e w23 ⟨N3, A3, n3, c3, l3, rfl, e3, k3, z3, R3, m3, hb23⟩
              subst e3
              have HW := below_go HW hb23
              have HZ3 := Lib.hid z3
              clear z3
              go_wp2_with fail
              refine (impl_ReachBy rfl R3 (by omega) HZ3.out).mono ?_; rintro e w24 ⟨rfl, hb24⟩
              have R3 := R3.up hb24
              have HW := below_go HW hb24
              go_wp2_with fail
              refine (spec_ReachBy rfl R3 (by omega) HZ3.out (i64_small (by omega))).mono ?_; rintro e w25 ⟨rfl, hb25⟩
              have R3 := R3.up hb25
              have HW := below_go HW hb25
              go_wp2_with fail
              refine (impl_OddsIn rfl R3 (by omega) HZ3.out).mono ?_; rintro e w26 ⟨rfl, hb26⟩
              have R3 := R3.up hb26
              have HW := below_go HW hb26
              go_wp2_with fail
              refine (spec_OddsIn rfl R3 (by omega) HZ3.out (i64_small (by omega))).mono ?_; rintro e w27 ⟨rfl, hb27⟩
              have HW := below_go HW hb27
              clear R3 hb23 hb24 hb25 hb26 hb27
              go_wp2
              go_ret
              exact ⟨rfl, HW⟩
            · clear q3 q4
              go_wp2_with fail
              refine (draw_CountExtents (S1.out.over HW)).mono ?_; rintro e w20 ⟨N2, A2, n2, c2, l2, rfl, e2, k2, z2, R2, m2, hb20⟩
              subst e2
              have HW := below_go HW hb20
              have HZ2 := Lib.hid z2
              clear z2
              go_wp2_with fail
              refine (impl_CountExtents rfl R2 (by omega) HZ2.out).mono ?_; rintro e w21 ⟨rfl, hb21⟩
              have R2 := R2.up hb21
              have HW := below_go HW hb21
              go_wp2_with fail
              refine (spec_CountExtents rfl R2 (by omega) HZ2.out (i64_small (by omega))).mono ?_; rintro e w22 ⟨rfl, hb22⟩
              have HW := below_go HW hb22
              clear R2 hb20 hb21 hb22
              go_wp2_with fail
              refine (draw_ReachBy (S1.out.over HW)).mono ?_; rintro e w23 ⟨N3, A3, n3, c3, l3, rfl, e3, k3, z3, R3, m3, hb23⟩
              subst e3
              have HW := below_go HW hb23
              have HZ3 := Lib.hid z3
              clear z3
              go_wp2_with fail
              refine (impl_ReachBy rfl R3 (by omega) HZ3.out).mono ?_; rintro e w24 ⟨rfl, hb24⟩
              have R3 := R3.up hb24
              have HW := below_go HW hb24
              go_wp2_with fail
              refine (spec_ReachBy rfl R3 (by omega) HZ3.out (i64_small (by omega))).mono ?_; rintro e w25 ⟨rfl, hb25⟩
              have R3 := R3.up hb25
              have HW := below_go HW hb25
              go_wp2_with fail
              refine (impl_OddsIn rfl R3 (by omega) HZ3.out).mono ?_; rintro e w26 ⟨rfl, hb26⟩
              have R3 := R3.up hb26
              have HW := below_go HW hb26
              go_wp2_with fail
              refine (spec_OddsIn rfl R3 (by omega) HZ3.out (i64_small (by omega))).mono ?_; rintro e w27 ⟨rfl, hb27⟩
              have HW := below_go HW hb27
              clear R3 hb23 hb24 hb25 hb26 hb27
              go_wp2
              go_ret
              exact ⟨rfl, HW⟩
      · have e6 : allN 4 = 24 := rfl
        rw [e6] at g4 g5 g6
        clear g7 e6
        go_wp2_with fail
        refine (impl_ReachBy rfl R4 (by omega) HZ4.out).mono ?_; rw [← HRR.out, HR.out]; rintro e w4 ⟨rfl, hb4⟩
        have R4 := R4.up hb4
        have HW := below_go HW hb4
        go_wp2_with fail
        refine (impl_OddsIn rfl R4 (by omega) HZ4.out).mono ?_; rw [← HOO.out, HG.out]; rintro e w5 ⟨rfl, hb5⟩
        have R4 := R4.up hb5
        have HW := below_go HW hb5
        clear hb4 hb5
        by_cases hr : r < 24
        · have hf1 : ¬ f = 1 := fun e => by have := (g4 e).1; omega
          have hr2 : ¬ r = 24 := by omega
          clear g4 g5 g6
          by_cases ho : o = 0
          · have bf : (f == 1) = false := by simpa using hf1
            have br : (r == 24) = false := by simpa using hr2
            clear R4 HZ4 HRR HOO HMM HG HR
            go_wp2_with fail
            refine (draw_CountExtents (S1.out.over HW)).mono ?_; rintro e w20 ⟨N2, A2, n2, c2, l2, rfl, e2, k2, z2, R2, m2, hb20⟩
            subst e2
            have HW := below_go HW hb20
            have HZ2 := Lib.hid z2
            clear z2
            go_wp2_with fail
            refine (impl_CountExtents rfl R2 (by omega) HZ2.out).mono ?_; rintro e w21 ⟨rfl, hb21⟩
            have R2 := R2.up hb21
            have HW := below_go HW hb21
            go_wp2_with fail
            refine (spec_CountExtents rfl R2 (by omega) HZ2.out (i64_small (by omega))).mono ?_; rintro e w22 ⟨rfl, hb22⟩
            have HW := below_go HW hb22
            clear R2 hb20 hb21 hb22
            go_wp2_with fail
            refine (draw_ReachBy (S1.out.over HW)).mono ?_; rintro e w23 ⟨N3, A3, n3, c3, l3, rfl, e3, k3, z3, R3, m3, hb23⟩
            subst e3
            have HW := below_go HW hb23
            have HZ3 := Lib.hid z3
            clear z3
            go_wp2_with fail
            refine (impl_ReachBy rfl R3 (by omega) HZ3.out).mono ?_; rintro e w24 ⟨rfl, hb24⟩
            have R3 := R3.up hb24
            have HW := below_go HW hb24
            go_wp2_with fail
            refine (spec_ReachBy rfl R3 (by omega) HZ3.out (i64_small (by omega))).mono ?_; rintro e w25 ⟨rfl, hb25⟩
            have R3 := R3.up hb25
            have HW := below_go HW hb25
            go_wp2_with fail
            refine (impl_OddsIn rfl R3 (by omega) HZ3.out).mono ?_; rintro e w26 ⟨rfl, hb26⟩
            have R3 := R3.up hb26
            have HW := below_go HW hb26
            go_wp2_with fail
            refine (spec_OddsIn rfl R3 (by omega) HZ3.out (i64_small (by omega))).mono ?_; rintro e w27 ⟨rfl, hb27⟩
            have HW := below_go HW hb27
            clear R3 hb23 hb24 hb25 hb26 hb27
            go_wp2
            go_ret
            exact ⟨rfl, HW⟩
          · have bf : (f == 1) = false := by simpa using hf1
            clear R4 HZ4 HRR HOO HMM HG HR
            go_wp2_with fail
            refine (draw_CountExtents (S1.out.over HW)).mono ?_; rintro e w20 ⟨N2, A2, n2, c2, l2, rfl, e2, k2, z2, R2, m2, hb20⟩
            subst e2
            have HW := below_go HW hb20
            have HZ2 := Lib.hid z2
            clear z2
            go_wp2_with fail
            refine (impl_CountExtents rfl R2 (by omega) HZ2.out).mono ?_; rintro e w21 ⟨rfl, hb21⟩
            have R2 := R2.up hb21
            have HW := below_go HW hb21
            go_wp2_with fail
            refine (spec_CountExtents rfl R2 (by omega) HZ2.out (i64_small (by omega))).mono ?_; rintro e w22 ⟨rfl, hb22⟩
            have HW := below_go HW hb22
            clear R2 hb20 hb21 hb22
            go_wp2_with fail
            refine (draw_ReachBy (S1.out.over HW)).mono ?_; rintro e w23 ⟨N3, A3, n3, c3, l3, rfl, e3, k3, z3, R3, m3, hb23⟩
            subst e3
            have HW := below_go HW hb23
            have HZ3 := Lib.hid z3
            clear z3
            go_wp2_with fail
            refine (impl_ReachBy rfl R3 (by omega) HZ3.out).mono ?_; rintro e w24 ⟨rfl, hb24⟩
            have R3 := R3.up hb24
            have HW := below_go HW hb24
            go_wp2_with fail
            refine (spec_ReachBy rfl R3 (by omega) HZ3.out (i64_small (by omega))).mono ?_; rintro e w25 ⟨rfl, hb25⟩
            have R3 := R3.up hb25
            have HW := below_go HW hb25
            go_wp2_with fail
            refine (impl_OddsIn rfl R3 (by omega) HZ3.out).mono ?_; rintro e w26 ⟨rfl, hb26⟩
            have R3 := R3.up hb26
            have HW := below_go HW hb26
            go_wp2_with fail
            refine (spec_OddsIn rfl R3 (by omega) HZ3.out (i64_small (by omega))).mono ?_; rintro e w27 ⟨rfl, hb27⟩
            have HW := below_go HW hb27
            clear R3 hb23 hb24 hb25 hb26 hb27
            go_wp2
            go_ret
            exact ⟨rfl, HW⟩
        · have ho : ¬ o = 0 := fun e => g5 e (by omega)
          clear g4 g5 g6
          clear R4 HZ4 HRR HOO HMM HG HR
          go_wp2_with fail
          refine (draw_CountExtents (S1.out.over HW)).mono ?_; rintro e w20 ⟨N2, A2, n2, c2, l2, rfl, e2, k2, z2, R2, m2, hb20⟩
          subst e2
          have HW := below_go HW hb20
          have HZ2 := Lib.hid z2
          clear z2
          go_wp2_with fail
          refine (impl_CountExtents rfl R2 (by omega) HZ2.out).mono ?_; rintro e w21 ⟨rfl, hb21⟩
          have R2 := R2.up hb21
          have HW := below_go HW hb21
          go_wp2_with fail
          refine (spec_CountExtents rfl R2 (by omega) HZ2.out (i64_small (by omega))).mono ?_; rintro e w22 ⟨rfl, hb22⟩
          have HW := below_go HW hb22
          clear R2 hb20 hb21 hb22
          go_wp2_with fail
          refine (draw_ReachBy (S1.out.over HW)).mono ?_; rintro e w23 ⟨N3, A3, n3, c3, l3, rfl, e3, k3, z3, R3, m3, hb23⟩
          subst e3
          have HW := below_go HW hb23
          have HZ3 := Lib.hid z3
          clear z3
          go_wp2_with fail
          refine (impl_ReachBy rfl R3 (by omega) HZ3.out).mono ?_; rintro e w24 ⟨rfl, hb24⟩
          have R3 := R3.up hb24
          have HW := below_go HW hb24
          go_wp2_with fail
          refine (spec_ReachBy rfl R3 (by omega) HZ3.out (i64_small (by omega))).mono ?_; rintro e w25 ⟨rfl, hb25⟩
          have R3 := R3.up hb25
          have HW := below_go HW hb25
          go_wp2_with fail
          refine (impl_OddsIn rfl R3 (by omega) HZ3.out).mono ?_; rintro e w26 ⟨rfl, hb26⟩
          have R3 := R3.up hb26
          have HW := below_go HW hb26
          go_wp2_with fail
          refine (spec_OddsIn rfl R3 (by omega) HZ3.out (i64_small (by omega))).mono ?_; rintro e w27 ⟨rfl, hb27⟩
          have HW := below_go HW hb27
          clear R3 hb23 hb24 hb25 hb26 hb27
          go_wp2
          go_ret
          exact ⟨rfl, HW⟩
  · go_in
    go_wp2_with fail
    refine (laws_big2 _ _ _ _ _ _ _ (by omega) (by omega)).mono ?_; rintro e w' ⟨rfl, rfl⟩
    go_wp2
    go_ret
    exact ⟨rfl, Below.refl _ _⟩
end Go.Proofs.Ytaednmpkedkmgaa
