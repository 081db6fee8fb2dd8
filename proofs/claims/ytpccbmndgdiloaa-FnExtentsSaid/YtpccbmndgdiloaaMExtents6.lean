/- Texts 6 of 6 that the claim leans on: plain laws and the walks' contracts, in order. -/
import Derived.Test.YtpccbmndgdiloaaMExtents5
import Derived.Deep.RegionHeld3
import Derived.Test.YtpccbmndgdiloaaRows
import Derived.StillTailTactics
/- The walk through the program's search for extents. -/
namespace Go.Proofs.Ytpccbmndgdiloaa
set_option linter.unusedVariables false
set_option linter.unusedSimpArgs false
open Go.ChangeShapes Go.WideShapes Go.ChangeAt Go.RowKit Go.Deep
open Go.Maps (Keyed string_keyed)
open Go.WideMaps (keyOf_string_mk)
theorem MapX.ne_blk {α : Type} {en : α → Value} {li : α → Lit} {P : Program} {w : World} {k e : TypeId} {b m : Nat} {f : Value → Option α} (h : MapX en li P w k e b m f) {p : Nat} {t : TypeId} {cs : List Value} (hk : Blk w p t cs) : b ≠ p := by
  obtain ⟨D, ⟨es, clock, hb, _⟩, _⟩ := h
  intro e1
  subst e1
  unfold Blk at hk
  rw [hb] at hk
  cases hk
theorem MapX.ne_own {α β : Type} {en : α → Value} {li : α → Lit} {P : Program} {w : World} {k e : TypeId} {b m : Nat} {f : Value → Option α} (h : MapX en li P w k e b m f) {e' : β → List Value} {s : Nat} {E : TypeId} {base : Nat} {A : Option Addr} {n c : Nat} {l : List β} (ho : Owned e' s E w base A n c l) : ∀ q, (Value.slice A n c).ownBlock = some q → q ≠ b := by
  intro q hq e1
  subst e1
  obtain ⟨D, ⟨es, clock, hb, _⟩, _⟩ := h
  rcases ho.2.2.2 with ⟨hv, _⟩ | ⟨g, cap, cur, hv, _, hh, _⟩
  · rw [hv] at hq; cases hq
  · rw [hv] at hq
    injection hq with hq
    dsimp only at hq
    subst hq
    rw [hb] at hh; cases hh
/-- A set of texts as a map to bools. -/
def setF (V : List ByteArray) (q : Value) : Option Bool := match q with | .string s => if inL V s = true then some true else none | _ => none
theorem setF_in {V : List ByteArray} {s : ByteArray} (h : inL V s = true) : setF V (.string s) = some true := by
  show (if inL V s = true then some true else none) = _
  rw [if_pos h]
theorem setF_out {V : List ByteArray} {s : ByteArray} (h : inL V s = false) : setF V (.string s) = none := by
  show (if inL V s = true then some true else none) = _
  rw [if_neg (by rw [h]; simp)]
theorem setF_snoc {V : List ByteArray} {x : ByteArray} {q : Value} (hq : q ≠ .string x) : setF (V ++ [x]) q = setF V q := by
  rw [setF.eq_def, setF.eq_def]
  split
  · rename_i s
    have hne : ¬ x = s := fun e => hq (by rw [e])
    have e1 : inL (V ++ [x]) s = inL V s := by
      rw [inL, inL, List.any_append]
      simp [hne]
    rw [e1]
  · rfl
def imC (n N : Nat) (A : Option Addr) (c : Nat) (left : Int) (al : Bool) (count : Int) (bm : Nat) (AP : Option Addr) (k cP : Nat) (ov : Bool) : List Value :=
  [.int .i64 n, .slice A N c, .int .i64 left, .bool al, .int .i64 count, .map (some bm), .slice AP k cP, .bool ov]
structure ImS (w : World) (b p n N : Nat) (A : Option Addr) (c bm : Nat) (al : Bool) (V P : List ByteArray) (left count : Int) (ov : Bool) (AP : Option Addr) (cP : Nat) : Prop where
  blk : Blk w p 118 (imC n N A c left al count bm AP P.length cP ov)
  seen : MapX bEn bLi Try.prog w 9 4 bm V.length (setF V)
  path : Owned strE 1 9 w b AP P.length cP P
  lo : b ≤ p
  lom : b ≤ bm
section
variable {w w' : World} {b p n N : Nat} {A : Option Addr} {c bm : Nat} {al : Bool} {V P : List ByteArray} {left count : Int} {ov : Bool} {AP : Option Addr} {cP : Nat}
theorem ImS.up (h : ImS w b p n N A c bm al V P left count ov AP cP) (hb : Below w.heap.size w w') : ImS w' b p n N A c bm al V P left count ov AP cP :=
  ⟨h.blk.up hb, h.seen.up hb, h.path.up hb, h.lo, h.lom⟩
theorem ImS.drewN (h : ImS w b p n N A c bm al V P left count ov AP cP) (k : Nat) : ImS (w.drewN k) b p n N A c bm al V P left count ov AP cP := h.up (below_drewN (Below.refl _ _) k)
theorem ImS.nep (h : ImS w b p n N A c bm al V P left count ov AP cP) : ∀ k, (Value.slice AP P.length cP).ownBlock = some k → k ≠ p := h.path.ne_blk h.blk (by decide)
theorem ImS.nem (h : ImS w b p n N A c bm al V P left count ov AP cP) : ∀ k, (Value.slice AP P.length cP).ownBlock = some k → k ≠ bm := h.seen.ne_own h.path
theorem ImS.only (h : ImS w b p n N A c bm al V P left count ov AP cP) (i : Nat) (u : Value) : MapX bEn bLi Try.prog (w.setCell ⟨p, i, none⟩ u) 9 4 bm V.length (setF V) ∧ Owned strE 1 9 (w.setCell ⟨p, i, none⟩ u) b AP P.length cP P :=
  ⟨h.seen.kept (only_set w (p := ⟨p, i, none⟩) u) (fun e => by injection e with e; exact h.seen.ne_blk h.blk e),
   h.path.kept (only_set w (p := ⟨p, i, none⟩) u) (fun k hk e => by injection e with e; exact h.nep k hk e.symm)⟩
theorem ImS.setLeft (h : ImS w b p n N A c bm al V P left count ov AP cP) (x : Int) : ImS (w.setCell ⟨p, 2, none⟩ (.int .i64 x)) b p n N A c bm al V P x count ov AP cP :=
  ⟨h.blk.set_ 2 _, (h.only 2 _).1, (h.only 2 _).2, h.lo, h.lom⟩
theorem ImS.setCount (h : ImS w b p n N A c bm al V P left count ov AP cP) (x : Int) : ImS (w.setCell ⟨p, 4, none⟩ (.int .i64 x)) b p n N A c bm al V P left x ov AP cP :=
  ⟨h.blk.set_ 4 _, (h.only 4 _).1, (h.only 4 _).2, h.lo, h.lom⟩
theorem ImS.setOver (h : ImS w b p n N A c bm al V P left count ov AP cP) (x : Bool) : ImS (w.setCell ⟨p, 7, none⟩ (.bool x)) b p n N A c bm al V P left count x AP cP :=
  ⟨h.blk.set_ 7 _, (h.only 7 _).1, (h.only 7 _).2, h.lo, h.lom⟩
theorem ImS.push {A' : Option Addr} {c' : Nat} {x : ByteArray} (h : ImS w b p n N A c bm al V P left count ov AP cP) (hg : w.grownBy w' (Value.slice AP P.length cP).ownBlock) (ho : Owned strE 1 9 w' b A' (P.length + 1) c' (P ++ [x])) :
    ImS (w'.setCell ⟨p, 6, none⟩ (.slice A' (P.length + 1) c')) b p n N A c bm al V (P ++ [x]) left count ov A' c' := by
  have hk := h.blk.grown hg (fun e => h.nep p e.symm rfl)
  have hm := h.seen.kept hg (fun e => h.nem bm e.symm rfl)
  have hl : (P ++ [x]).length = P.length + 1 := by simp
  refine ⟨by rw [hl]; exact hk.set_ 6 _, hm.kept (only_set w' (p := ⟨p, 6, none⟩) _) (fun e => by injection e with e; exact h.seen.ne_blk h.blk e), ?_, h.lo, h.lom⟩
  rw [hl]
  exact ho.kept (only_set w' (p := ⟨p, 6, none⟩) _) (fun k hk' e => by injection e with e; exact ho.ne_blk hk (by decide) k hk' e.symm)
theorem ImS.pop {x : ByteArray} (h : ImS w b p n N A c bm al V (P ++ [x]) left count ov AP cP) : ImS (w.setCell ⟨p, 6, none⟩ (.slice AP P.length cP)) b p n N A c bm al V P left count ov AP cP := by
  have hl : (P ++ [x]).length = P.length + 1 := by simp
  have ho := (h.only 6 (.slice AP P.length cP)).2
  rw [hl] at ho
  exact ⟨h.blk.set_ 6 _, (h.only 6 _).1, ho.pop, h.lo, h.lom⟩
theorem ImS.turn {V' : List ByteArray} (h : ImS w b p n N A c bm al V P left count ov AP cP) (hg : w.grownBy w' (some bm)) (hm : MapX bEn bLi Try.prog w' 9 4 bm V'.length (setF V')) : ImS w' b p n N A c bm al V' P left count ov AP cP :=
  ⟨h.blk.grown hg (fun e => by injection e with e; exact h.seen.ne_blk h.blk e.symm), hm, h.path.kept hg (fun k hk e => by injection e with e; exact h.nem k hk e.symm), h.lo, h.lom⟩
end
/-- What a search leaves. -/
def EndG (o : FateG) (V P V' P' : List ByteArray) (left' count' : Int) (ov' : Bool) : Prop := (∀ lk, o = .inr lk → V' = V ∧ P' = P ∧ left' = (lk.1 : Int) ∧ count' = (lk.2 : Int) ∧ ov' = false) ∧ (∀ q, o = .inl (some q) → P' = q ∧ ov' = false) ∧ (o = .inl none → ov' = true)
theorem EndG.go (V P : List ByteArray) (l k : Nat) : EndG (.inr (l, k)) V P V P l k false := ⟨fun l' e => by injection e with e; subst e; exact ⟨rfl, rfl, rfl, rfl, rfl⟩, (fun q e => by cases e), (fun e => by cases e)⟩
theorem EndG.hit (V P V' P' : List ByteArray) (left' count' : Int) : EndG (.inl (some P')) V P V' P' left' count' false := ⟨(fun l' e => by cases e), fun q e => by injection e with e; injection e with e; exact ⟨e, rfl⟩, (fun e => by injection e with e; cases e)⟩
theorem EndG.over (V P V' P' : List ByteArray) (left' count' : Int) : EndG (.inl none) V P V' P' left' count' true := ⟨(fun l' e => by cases e), (fun q e => by injection e with e; cases e), fun _ => rfl⟩
theorem EndG.of_end {o : Option (List ByteArray)} {V P V2 P2 V' P' : List ByteArray} {left' count' : Int} {ov' : Bool} (h : EndG (.inl o) V2 P2 V' P' left' count' ov') : EndG (.inl o) V P V' P' left' count' ov' := ⟨(fun l e => by cases e), h.2⟩
set_option maxHeartbeats 2000000 in
set_option maxRecDepth 100000 in
theorem impl_search {N n : Nat} {A : Option Addr} {c : Nat} {W : List ByteArray} {w0 : World} (hN : W.length = N) (h : Strs w0 A W) (hz : N ≤ 1000) (h3 : 3 ≤ n) (h8 : n ≤ 8) (hW : ∀ s ∈ W, s.size ≤ 16777216) (hgW : ∀ s ∈ W, isDash s = true ∨ validD s = true) (al : Bool) :
    ∀ (d : Nat) {r : ByteArray} {V P : List ByteArray} {left count : Nat} {AP : Option Addr} {cP p bm : Nat} {w : World}, RowN n r → ClOk n V → V.length + d = fact n → P.length + 1 = V.length → left + count ≤ 2000000 →
      ImS w w0.heap.size p n N A c bm al V P left count false AP cP → Below w0.heap.size w0 w →
      Calls Try.prog 103 #[.pointer (some ⟨p, 0, none⟩), .string r] w fun e w' => e = .returned (.bool (gX n W al d r V P left count).isLeft) ∧ (∃ V' P' left' count' ov' AP' cP', ImS w' w0.heap.size p n N A c bm al V' P' left' count' ov' AP' cP' ∧ EndG (gX n W al d r V P left count) V P V' P' left' count' ov') ∧ Below w0.heap.size w0 w' := by
  have h40 : fact n ≤ 40320 := fact_le8 h8
  have HW := Lib.hid hW
  have HGW := Lib.hid hgW
  have KS := string_keyed (P := Try.prog) (k := 9) Try.underlying9
  have hrd := Lib.hid (rowN_rounds h3 h8)
  subst hN
  clear hW hgW
  intro d
  induction d using Nat.strongRecOn with
  | ind d ih =>
  intro r V P left count AP cP p bm w hr hV hVd hPV hl hS hB
  have IH := Lib.hid (fun d' (e : d = d' + 1) => @ih d' (by omega))
  have HE := Lib.hid (gX_recG n W al d r V P left count)
  have HV := Lib.hid hV
  have HPV := Lib.hid hPV
  have hP40 : P.length ≤ 40320 := by have := HPV.out; omega
  have hrz : r.size ≤ 8 := by rw [hr.2]; exact h8
  have k1 := hS.blk.cell 1
  simp only [imC, List.getElem?_cons_zero, List.getElem?_cons_succ] at k1
  have HS0 := Lib.hid hS
  clear ih hV hS hPV
  go_in
  go_wp2
  clear k1
  go_loopw [13] (fun i wr => ∃ (j q k : Nat) (AP : Option Addr) (cP : Nat), j ≤ W.length ∧ i = .int .i64 j ∧ q + k ≤ 2000000 ∧ Hid (ImS wr w0.heap.size p n W.length A c bm al V P q k false AP cP) ∧ Hid (gX n W al d r V P left count = gL (recG n W al d) n al (decide (d = 0)) r V P (W.drop j) q k) ∧ Below w0.heap.size w0 wr) (fun i _ => W.length - (intOf i).toNat)
  case atStart => exact ⟨0, left, count, AP, cP, Nat.zero_le _, rfl, hl, HS0, Lib.hid (by rw [List.drop_zero]; exact HE.out), hB⟩
  case round =>
    clear HS0 HE hB
    obtain ⟨j, q, k, AP, cP, hj, rfl, hq, HS, HE, hB⟩ := hrel
    rename World => w1
    by_cases hlt : j < W.length
    · obtain ⟨b1, o1, y, rfl, hbb, hy, hcy0⟩ := h.at_str hlt
      have hcy := (hB.cell (p := ⟨b1, o1 + j, none⟩) hbb).trans hcy0
      have hys := HW.out y (List.mem_of_getElem? hy)
      have hgy := HGW.out y (List.mem_of_getElem? hy)
      have HD := Lib.hid (drop_at hy)
      have k2 := HS.out.blk.cell 2; have f2 := HS.out.blk.frozen 2; have k7 := HS.out.blk.cell 7; have f7 := HS.out.blk.frozen 7
      simp only [imC, List.getElem?_cons_zero, List.getElem?_cons_succ] at k2 k7
      have HLO := Lib.hid HS.out.lo
      clear hy hcy0
      by_cases hq0 : q = 0
      · subst hq0
        have e1 := Lib.hid (show gX n W al d r V P left count = .inl none by rw [HE.out, HD.out, gL_over])
        have HSX := Lib.hid (HS.out.setOver true)
        go_wp2
        go_ret
        rw [e1.out]
        exact ⟨rfl, ⟨V, P, _, _, _, AP, cP, HSX.out, EndG.over V P V P _ _⟩, hB.setCell (p := ⟨p, 7, none⟩) HLO.out _⟩
      · obtain ⟨q', hq'⟩ : ∃ q', q = q' + 1 := ⟨q - 1, by omega⟩
        have HQ := Lib.hid hq'
        have hqI : ¬ (q : Int) = 0 := by omega
        have hqc : (q : Int) - 1 = (q' : Int) := by omega
        have HQC := Lib.hid hqc
        have hqw : IntKind.i64.wrap ((q : Int) - 1) = (q : Int) - 1 := wrap_id (by omega)
        have HS1 := Lib.hid (HS.out.setLeft ((q : Int) - 1))
        have HB1 := Lib.hid (hB.setCell (p := ⟨p, 2, none⟩) HS.out.lo (.int .i64 ((q : Int) - 1)))
        obtain ⟨x, hx⟩ : ∃ x, x = applyR r y := ⟨_, rfl⟩
        have HX := Lib.hid hx
        have hxN : RowN n x := by rw [hx]; exact hr.apply y
        have hxz : x.size ≤ 8 := by rw [hxN.2]; exact h8
        have HXN := Lib.hid hxN
        have hkey := keyOf_string_mk (P := Try.prog) (k := 9) Try.underlying9 (s := x) (by unfold maxLen; omega)
        have HKEY := Lib.hid hkey
        clear hq' hq0 hqc hx hxN k7 f7 hkey
        go_wp2_with fail
        refine (impl_apply hrz hys hgy).mono ?_; rw [← HX.out]; rintro e w2 ⟨rfl, hb2⟩
        clear k2 f2 hcy
        have HS2 := Lib.hid (HS1.out.up hb2)
        have hB2 := below_then hb2 HB1.out HB1.out.size
        clear HS1 HB1
        have k0 := HS2.out.blk.cell 0; have k5 := HS2.out.blk.cell 5
        simp only [imC, List.getElem?_cons_zero, List.getElem?_cons_succ] at k0 k5
        have lm := fun ty u (hu : u = w2 ∨ ∃ k, u = w2.drewN k) => ((show MapX bEn bLi Try.prog u 9 4 bm V.length (setF V) from by
          rcases hu with rfl | ⟨k, rfl⟩
          · exact HS2.out.seen
          · exact (HS2.out.drewN k).seen).len (t := 116) Try.underlying116 ty)
        have LM := Lib.hid lm
        clear lm
        by_cases hd : d = 0
        · have hfull : ((V.length : Int) == (fact n : Int)) = true := beq_iff_eq.2 (by omega)
          have HFU := Lib.hid (show decide (d = 0) = true from decide_eq_true hd)
          by_cases hx0 : x = roundsS n
          · have hxr : (x.toList == (roundsS n).toList) = true := by rw [hx0]; simp
            have HX0 := Lib.hid hx0
            clear hx0
            have lm2 := fun k => LM.out 3 (w2.drewN k) (.inr ⟨k, rfl⟩)
            go_wp2
            go_quiet (first | (go_at_call 115; exact quiet_left (impl_factorial h8)) | (go_at_call 102; exact quiet_left (impl_rounds h8)))
            clear lm2 LM
            have HS4 := Lib.hid (HS2.out.drewN nq)
            have hB4 := below_drewN hB2 nq
            obtain ⟨w4, hw4⟩ : ∃ u, u = w2.drewN nq := ⟨_, rfl⟩
            rw [← hw4] at HS4 hB4 ⊢
            clear hw4 k0 k5 HS2 hB2 hb2
            have k6 := HS4.out.blk.cell 6
            simp only [imC, List.getElem?_cons_zero, List.getElem?_cons_succ] at k6
            have hs4 := hB4.size
            have hPl : (P ++ [y]).length = P.length + 1 := by simp
            have HPL := Lib.hid hPl
            have hk1 : IntKind.i64.wrap ((k : Int) + 1) = ((k + 1 : Nat) : Int) := by rw [wrap_id (by omega)]; push_cast; rfl
            clear hPl
            rcases al
            · have e1 := Lib.hid (show gX n W false d r V P left count = .inl (some (P ++ [y])) by rw [HE.out, HD.out, HQ.out, gL_hit HFU.out (by rw [← HX.out]; exact HX0.out) rfl])
              go_wp2_with (first | (at_builtin; go_must ((refine wpList_append_recs Try.elStr strE_one rfl (.tmp 59) (.tmp 61) rfl rfl (HS4.out.path.alloc _) rfl (own_lit1_at' strE_len w4 9 y rfl (Nat.le_refl _)).recs rfl ?_ (by decide) ?_ ?_; (focus (first | omega | (simp only [World.size_alloc]; done) | (simp only [World.size_alloc]; omega) | (simp; done) | (simp; omega))); (focus (first | omega | (simp only [World.size_alloc]; done) | (simp only [World.size_alloc]; omega) | (simp; done) | (simp; omega))); intro A5 c5 w5 ho5 hg5 hl5; have KB5 := (HS4.out.blk.alloc (.cells #[.string y] 9)).grown hg5 (fun e => HS4.out.nep p e.symm rfl); have q6 := KB5.cell 6; have q4 := KB5.cell 4; have q3 := KB5.cell 3; have g6 := KB5.frozen 6; have g4 := KB5.frozen 4; simp only [imC, List.getElem?_cons_zero, List.getElem?_cons_succ] at q6 q4 q3))))
              go_ret
              have HSX := ((HS4.out.up ((Below.refl _ _).alloc (Nat.le_refl _) (.cells #[.string y] 9))).push hg5 ho5).setCount ((k : Int) + 1)
              have hb5 : Below w0.heap.size w0 w5 := (hB4.alloc (by omega) _).trans (grown_base hg5 (by simp; omega) (fun k hk => (HS4.out.path.blk hk).1))
              rw [e1.out]
              exact ⟨rfl, ⟨V, P ++ [y], _, _, _, A5, c5, HSX, EndG.hit V P V _ _ _⟩, (hb5.setCell (p := ⟨p, 6, none⟩) HLO.out _).setCell (p := ⟨p, 4, none⟩) HLO.out _⟩
            · have e1 := Lib.hid (show gX n W true d r V P left count = gL (recG n W true d) n true (decide (d = 0)) r V P (W.drop (j + 1)) q' (k + 1) by rw [HE.out, HD.out, HQ.out, gL_one HFU.out (by rw [← HX.out]; exact HX0.out) rfl])
              go_wp2_with (first | (at_builtin; go_must ((refine wpList_append_recs Try.elStr strE_one rfl (.tmp 59) (.tmp 61) rfl rfl (HS4.out.path.alloc _) rfl (own_lit1_at' strE_len w4 9 y rfl (Nat.le_refl _)).recs rfl ?_ (by decide) ?_ ?_; (focus (first | omega | (simp only [World.size_alloc]; done) | (simp only [World.size_alloc]; omega) | (simp; done) | (simp; omega))); (focus (first | omega | (simp only [World.size_alloc]; done) | (simp only [World.size_alloc]; omega) | (simp; done) | (simp; omega))); intro AQ cQ w5 ho5 hg5 hl5; have KB5 := (HS4.out.blk.alloc (.cells #[.string y] 9)).grown hg5 (fun e => HS4.out.nep p e.symm rfl); have q6 := KB5.cell 6; have q4 := KB5.cell 4; have q3 := KB5.cell 3; have g6 := KB5.frozen 6; have g4 := KB5.frozen 4; simp only [imC, List.getElem?_cons_zero, List.getElem?_cons_succ] at q6 q4 q3))))
              have HSX := ((HS4.out.up ((Below.refl _ _).alloc (Nat.le_refl _) (.cells #[.string y] 9))).push hg5 ho5).setCount ((k : Int) + 1)
              have hb5 : Below w0.heap.size w0 w5 := (hB4.alloc (by omega) _).trans (grown_base hg5 (by simp; omega) (fun k hk => (HS4.out.path.blk hk).1))
              have hb6 := (hb5.setCell (p := ⟨p, 6, none⟩) HLO.out (.slice AQ (P.length + 1) cQ)).setCell (p := ⟨p, 4, none⟩) HLO.out (.int .i64 ((k : Int) + 1))
              obtain ⟨w6, hw6⟩ : ∃ u, u = (w5.setCell ⟨p, 6, none⟩ (.slice AQ (P.length + 1) cQ)).setCell ⟨p, 4, none⟩ (.int .i64 ((k : Int) + 1)) := ⟨_, rfl⟩
              rw [← hw6] at HSX hb6 ⊢
              clear hw6 q6 q4 q3 g6 g4 KB5 ho5 hg5 hl5 hb5 k6
              have HS8 := Lib.hid HSX.pop
              have HB8 := Lib.hid (hb6.setCell (p := ⟨p, 6, none⟩) HLO.out (.slice AQ P.length cQ))
              have k6 := HSX.blk.cell 6; have f6 := HSX.blk.frozen 6
              simp only [imC, List.getElem?_cons_zero, List.getElem?_cons_succ] at k6
              obtain ⟨g7, hg7, _, _, _, _⟩ := HSX.path.at_ (by rw [HPL.out]; omega)
              subst hg7
              have hcap := HSX.path.cap
              rw [HPL.out] at k6 hcap
              obtain ⟨M, hM⟩ : ∃ M, M = P.length + 1 := ⟨_, rfl⟩
              rw [← hM] at k6 hcap
              have hw : IntKind.i64.wrap ((M : Int) - 1) = (P.length : Int) := by rw [wrap_id (by omega)]; omega
              have hPc : P.length ≤ cQ := by omega
              have hPcI : (P.length : Int) ≤ (cQ : Int) := by omega
              clear hM HSX
              go_wp2
              go_region
              have HS9 := Lib.hid (HS8.out.up (Below.drew (Below.refl _ _)))
              have HB9 := Lib.hid (Below.drew HB8.out)
              clear k6 f6 hw
              obtain ⟨w9, hw9⟩ : ∃ u, u = (w6.setCell ⟨p, 6, none⟩ (.slice (some ⟨g7, 0, none⟩) P.length cQ)).drew := ⟨_, rfl⟩
              rw [← hw9] at HS9 HB9 ⊢
              clear hw9 HS8 HB8
              go_wp2
              go_roundw
              case rel => exact ⟨j + 1, q', k + 1, _, _, by omega, by go_num, by have := HQ.out; omega, Lib.hid (by rw [← HQC.out]; exact HS9.out), Lib.hid (by rw [← e1.out]), HB9.out⟩
              case measure => simp [intOf]; omega
          · have hxr : (x.toList == (roundsS n).toList) = false := by
              rw [beq_eq_false_iff_ne]; exact fun e => hx0 (toList_inj e)
            have lm2 := fun k => LM.out 3 (w2.drewN k) (.inr ⟨k, rfl⟩)
            go_wp2
            go_quiet (first | (go_at_call 115; exact quiet_left (impl_factorial h8)) | (go_at_call 102; exact quiet_left (impl_rounds h8)))
            clear lm2 LM
            have HS4 := Lib.hid (HS2.out.drewN nq)
            have hB4 := below_drewN hB2 nq
            obtain ⟨w4, hw4⟩ : ∃ u, u = w2.drewN nq := ⟨_, rfl⟩
            rw [← hw4] at HS4 hB4 ⊢
            clear hw4 k0 k5 HS2 hB2 hb2
            have hin := full_in HV.out HXN.out (by omega)
            have k5 := HS4.out.blk.cell 5
            simp only [imC, List.getElem?_cons_zero, List.getElem?_cons_succ] at k5
            have lk := HS4.out.seen.look (t := 116) (z := false) KS Try.underlying116 (by kernel_rfl) (bLi_pe Try.underlying4 false) (bLi_in Try.underlying4) HKEY.out
            rw [setF_in hin] at lk
            have lk1 : (Instr.lookup 116 (.map (some bm)) (.string x) false).run Try.prog w4 = .ok (.bool true) w4 := lk
            have e1 := Lib.hid (show gL (recG n W al d) n al (decide (d = 0)) r V P (W.drop j) q k = gL (recG n W al d) n al (decide (d = 0)) r V P (W.drop (j + 1)) q' k by
              rw [HD.out, HQ.out, gL_skip (fun e => hx0 (by rw [HX.out]; exact e.2)) (.inr (by rw [← HX.out]; exact hin))])
            clear lk hin
            go_wp2
            go_roundw
            case rel => exact ⟨j + 1, q', k, AP, cP, by omega, by go_num, by have := HQ.out; omega, Lib.hid (by rw [← HQC.out]; exact HS4.out), Lib.hid (by rw [← e1.out]; exact HE.out), hB4⟩
            case measure => simp [intOf]; omega
        · have hfull : ((V.length : Int) == (fact n : Int)) = false := beq_eq_false_iff_ne.2 (by omega)
          have HDF := Lib.hid (decide_eq_false hd)
          have lm2 := fun k => LM.out 3 (w2.drewN k) (.inr ⟨k, rfl⟩)
          go_wp2
          go_quiet (first | (go_at_call 115; exact quiet_left (impl_factorial h8)) | (go_at_call 102; exact quiet_left (impl_rounds h8)))
          clear lm2 LM
          have HS4 := Lib.hid (HS2.out.drewN nq)
          have hB4 := below_drewN hB2 nq
          obtain ⟨w4, hw4⟩ : ∃ u, u = w2.drewN nq := ⟨_, rfl⟩
          rw [← hw4] at HS4 hB4 ⊢
          clear hw4 k0 k5 HS2 hB2 hb2
          have k5 := HS4.out.blk.cell 5
          simp only [imC, List.getElem?_cons_zero, List.getElem?_cons_succ] at k5
          have lk := HS4.out.seen.look (t := 116) (z := false) KS Try.underlying116 (by kernel_rfl) (bLi_pe Try.underlying4 false) (bLi_in Try.underlying4) HKEY.out
          rcases hin : inL V x
          · rw [setF_out hin] at lk
            have lk1 : (Instr.lookup 116 (.map (some bm)) (.string x) false).run Try.prog w4 = .ok (.bool false) w4 := lk
            obtain ⟨d', hd'⟩ : ∃ d', d = d' + 1 := ⟨d - 1, by omega⟩
            have HIN := Lib.hid hin
            have HDD := Lib.hid hd'
            have hRD : recG n W al d = gX n W al d' := by subst hd'; rfl
            have HRD := Lib.hid hRD
            have HVN := Lib.hid (HV.out.snoc HXN.out hin)
            have hPl : (P ++ [y]).length = P.length + 1 := by simp
            have hVl : (V ++ [x]).length = V.length + 1 := by simp
            have HPL := Lib.hid hPl
            have HVL := Lib.hid hVl
            have hvs : V.length ≤ 16777216 := by omega
            have HQQ := Lib.hid (show q' + k ≤ 2000000 by have := HQ.out; omega)
            have k6 := HS4.out.blk.cell 6
            simp only [imC, List.getElem?_cons_zero, List.getElem?_cons_succ] at k6
            have HLM := Lib.hid HS4.out.lom
            have HIF := Lib.hid (setF_in (V := V ++ [x]) (s := x) (inL_iff.2 (by simp)))
            have HOF := Lib.hid (setF_out hin)
            have hs4 := hB4.size
            clear lk hin hd hd' hRD hPl hVl
            go_wp2_with (first | (at_mapUpdate; go_must ((refine wpList_mapx_put rfl (.tmp 100) (.tmp 101) (.const (.bool true)) 116 rfl KS Try.underlying116 rfl HS4.out.seen hvs (key := .string x) rfl (x := true) rfl HKEY.out (bLi_pe Try.underlying4 true) ?_; intro w5 hm5 hg5; have hmx := hm5 (V ++ [x]).length (setF (V ++ [x])) (by rw [HOF.out, HVL.out]; rfl) HIF.out (fun q hq => setF_snoc hq); have HS5 := Lib.hid (HS4.out.turn hg5 hmx); have HB5 := Lib.hid (hB4.grown hg5 hB4.size (fun k hk => by injection hk with hk; rw [← hk]; exact HLM.out)); have hs5 := HB5.out.size; have r6 := HS5.out.blk.cell 6; simp only [imC, List.getElem?_cons_zero, List.getElem?_cons_succ] at r6))) | (at_builtin; go_must ((refine wpList_append_recs Try.elStr strE_one rfl (.tmp 106) (.tmp 108) rfl rfl (HS5.out.path.alloc _) rfl (own_lit1_at' strE_len w5 9 y rfl (Nat.le_refl _)).recs rfl ?_ (by decide) ?_ ?_; (focus (first | omega | (simp only [World.size_alloc]; done) | (simp only [World.size_alloc]; omega) | (simp; done) | (simp; omega))); (focus (first | omega | (simp only [World.size_alloc]; done) | (simp only [World.size_alloc]; omega) | (simp; done) | (simp; omega))); intro A6 c6 w6 ho6 hg6 hl6; have KB6 := (HS5.out.blk.alloc (.cells #[.string y] 9)).grown hg6 (fun e => HS5.out.nep p e.symm rfl); have q6 := KB6.cell 6; have g6 := KB6.frozen 6; simp only [imC, List.getElem?_cons_zero, List.getElem?_cons_succ] at q6))))
            have hs6 := (HS5.out.up ((Below.refl _ _).alloc (Nat.le_refl _) (.cells #[.string y] 9))).push hg6 ho6
            rw [HQC.out] at hs6
            have hb6 : Below w0.heap.size w0 w6 := (HB5.out.alloc (by omega) _).trans (grown_base hg6 (by simp; omega) (fun k hk => (HS5.out.path.blk hk).1))
            have hb6' := hb6.setCell (p := ⟨p, 6, none⟩) HLO.out (.slice A6 (P.length + 1) c6)
            refine (IH.out d' HDD.out (r := x) (V := V ++ [x]) (P := P ++ [y]) (left := q') (count := k) HXN.out HVN.out (by rw [HVL.out]; have := HDD.out; omega) (by rw [HPL.out, HVL.out]; have := HPV.out; omega) HQQ.out hs6 hb6').mono ?_
            rintro e w7 ⟨rfl, ⟨V', P', l', ct', ov', AQ, cQ, HS7, HE7⟩, hB7⟩
            clear q6 g6 hs6 hb6 hb6' KB6 ho6 hg6 hl6 k6 r6 k5 lk1 hm5 hg5 hmx
            rcases hf : gX n W al d' x (V ++ [x]) (P ++ [y]) q' k with o | ⟨l, ct⟩
            · have e1 := Lib.hid (show gX n W al d r V P left count = .inl o by
                rw [HE.out, HD.out, HQ.out, gL_in_end HDF.out (by rw [← HX.out]; exact HIN.out) (by rw [HRD.out, ← HX.out]; exact hf)])
              rw [hf] at HE7
              have hl : Sum.isLeft (Sum.inl o : FateG) = true := rfl
              rw [hl]
              go_wp2
              go_ret
              rw [e1.out]
              exact ⟨rfl, ⟨V', P', l', ct', ov', AQ, cQ, HS7, HE7.of_end⟩, hB7⟩
            · rw [hf] at HE7
              obtain ⟨e2, e3, e4, e5, e6⟩ := HE7.1 (l, ct) rfl
              subst e2 e3 e4 e5 e6
              have hle := gX_le n W al d' x (V ++ [x]) (P ++ [y]) q' k (l, ct) hf
              simp only at hle
              have e1 := Lib.hid (show gX n W al d r V P left count = gL (recG n W al d) n al (decide (d = 0)) r V P (W.drop (j + 1)) l ct by
                rw [HE.out, HD.out, HQ.out, gL_in_go HDF.out (by rw [← HX.out]; exact HIN.out) (by rw [HRD.out, ← HX.out]; exact hf)])
              have hl : Sum.isLeft (Sum.inr (l, ct) : FateG) = false := rfl
              rw [hl]
              have hq2 := HQQ.out
              have k5 := HS7.blk.cell 5
              simp only [imC, List.getElem?_cons_zero, List.getElem?_cons_succ] at k5
              clear HE7 hf hl
              have HS8 := Lib.hid HS7.pop
              have HB8 := Lib.hid (hB7.setCell (p := ⟨p, 6, none⟩) HLO.out (.slice AQ P.length cQ))
              have k6 := HS7.blk.cell 6; have f6 := HS7.blk.frozen 6
              simp only [imC, List.getElem?_cons_zero, List.getElem?_cons_succ] at k6
              obtain ⟨g7, hg7, _, _, _, _⟩ := HS7.path.at_ (by rw [HPL.out]; omega)
              subst hg7
              have hcap := HS7.path.cap
              rw [HPL.out] at k6 hcap
              obtain ⟨M, hM⟩ : ∃ M, M = P.length + 1 := ⟨_, rfl⟩
              rw [← hM] at k6 hcap
              have hw : IntKind.i64.wrap ((M : Int) - 1) = (P.length : Int) := by rw [wrap_id (by omega)]; omega
              have hPc : P.length ≤ cQ := by omega
              have hPcI : (P.length : Int) ≤ (cQ : Int) := by omega
              clear hM HS7
              go_wp2
              go_region
              have HS9 := Lib.hid (HS8.out.up (Below.drew (Below.refl _ _)))
              have HB9 := Lib.hid (Below.drew HB8.out)
              clear k6 f6 hw
              obtain ⟨w9, hw9⟩ : ∃ u, u = (w7.setCell ⟨p, 6, none⟩ (.slice (some ⟨g7, 0, none⟩) P.length cQ)).drew := ⟨_, rfl⟩
              rw [← hw9] at HS9 HB9 ⊢
              clear hw9 HS8 HB8
              have k5 := HS9.out.blk.cell 5
              simp only [imC, List.getElem?_cons_zero, List.getElem?_cons_succ] at k5
              have hs9 := HB9.out.size
              go_wp2_with (first | (at_delete; go_must ((refine wpList_mapx_drop rfl (.tmp 132) (.tmp 133) 116 rfl KS Try.underlying116 rfl HS9.out.seen (key := .string x) rfl HKEY.out ?_; intro w10 hm10 hg10))))
              have hmx := hm10 V.length (setF V) (by rw [HIF.out, HVL.out]; rfl) HOF.out (fun q hq => (setF_snoc hq).symm)
              have HS10 := Lib.hid (HS9.out.turn hg10 hmx)
              have hb10 : Below w0.heap.size w0 w10 := HB9.out.grown hg10 HB9.out.size (fun k hk => by injection hk with hk; rw [← hk]; exact HLM.out)
              go_roundw
              case rel => exact ⟨j + 1, l, ct, _, _, by omega, by go_num, by omega, HS10, Lib.hid (by rw [e1.out]), hb10⟩
              case measure => simp [intOf]; omega
          · rw [setF_in hin] at lk
            have lk1 : (Instr.lookup 116 (.map (some bm)) (.string x) false).run Try.prog w4 = .ok (.bool true) w4 := lk
            have e1 := Lib.hid (show gL (recG n W al d) n al (decide (d = 0)) r V P (W.drop j) q k = gL (recG n W al d) n al (decide (d = 0)) r V P (W.drop (j + 1)) q' k by
              rw [HD.out, HQ.out, gL_skip (by rw [HDF.out]; simp) (.inr (by rw [← HX.out]; exact hin))])
            clear lk hin
            go_wp2
            go_roundw
            case rel => exact ⟨j + 1, q', k, AP, cP, by omega, by go_num, by have := HQ.out; omega, Lib.hid (by rw [← HQC.out]; exact HS4.out), Lib.hid (by rw [← e1.out]; exact HE.out), hB4⟩
            case measure => simp [intOf]; omega

    · obtain rfl : j = W.length := by omega
      have e1 := Lib.hid (show gX n W al d r V P left count = .inr (q, k) by rw [HE.out, List.drop_eq_nil_of_le (Nat.le_refl _), gL])
      go_wp2
      go_ret
      rw [e1.out]
      exact ⟨rfl, ⟨V, P, _, _, _, AP, cP, HS.out, EndG.go V P q k⟩, hB⟩
end Go.Proofs.Ytpccbmndgdiloaa
/- The walks through CountExtents and FindExtent, both sides. -/
namespace Go.Proofs.Ytpccbmndgdiloaa
set_option linter.unusedVariables false
set_option linter.unusedSimpArgs false
open Go.ChangeShapes Go.WideShapes Go.ChangeAt Go.RowKit Go.Deep
open Go.Maps (Keyed string_keyed)
open Go.WideMaps (keyOf_string_mk)
set_option maxHeartbeats 1000000 in
set_option maxRecDepth 100000 in
theorem spec_l19New {A : Option Addr} {N c n : Nat} {left : Int} {w : World} (h3 : 3 ≤ n) (h8 : n ≤ 8) :
    Calls Try.prog 106 #[.int .i64 n, .slice A N c, .int .i64 left] w fun e w' => ∃ p gs m, e = .returned (.pointer (some ⟨p, 0, none⟩)) ∧ SpS w' w.heap.size p n N A c gs [roundsS n] [] left 0 m none 0 ∧ Below w.heap.size w w' := by
  have hr := rowN_rounds h3 h8
  have hpz := (place_zero h3 h8 hr).2 rfl
  have HR := Lib.hid hr
  have HM0 := Lib.hid ((MarkR.none n).add hr)
  rw [hpz] at HM0
  have hfp := fact_pos n
  have HMN := Lib.hid (MarkR.none n)
  clear hr hpz
  go_in
  go_wp2_with (first | (go_at_call 174; refine (spec_l6Seen h8).mono ?_; rintro e w1 ⟨gs, rfl, ho, hb1⟩) | (go_at_call 123; refine (spec_l1Fact h8).mono ?_; rintro e w' ⟨rfl, rfl⟩; obtain ⟨hm, hg⟩ := ho.put (k := 0) (j := 0) (x := true) (u := .bool true) (y := false) (by rw [List.getElem?_replicate, if_pos hfp]) (by decide) rfl; simp only [Nat.zero_mul, Nat.add_zero] at hm hg; have HM := Lib.hid hm; have HG := Lib.hid hg; clear hm hg; obtain ⟨g', e, hgl, hgh, gc, gf⟩ := ho.at_ hfp; injection e with e; injection e with e; subst e; have c0 := gc 0 false 0 _ (by rw [List.getElem?_replicate, if_pos hfp]) rfl; have f0 := gf 0; simp only [Nat.zero_mul, Nat.add_zero] at c0; clear gc gf ho))
  go_ret
  have hb2 : Below w.heap.size w (w1.setCell ⟨gs, 0, none⟩ (.bool true)) := hb1.setCell (p := ⟨gs, 0, none⟩) hgl _
  exact ⟨w1.heap.size, gs, _, rfl, ⟨Blk.at_ (w1.setCell ⟨gs, 0, none⟩ (.bool true)) 122 (spC n N A c gs (fact n) none 0 0 left 0) (b := w1.heap.size) (by simp), HM.out.alloc _, HM0.out, Owned.nil strE_len _ _ _, hb1.size⟩, hb2.alloc hb2.size _⟩
set_option maxHeartbeats 1000000 in
set_option maxRecDepth 100000 in
theorem spec_FindExtent {A : Option Addr} {N c : Nat} {l : List ByteArray} {n s : Int} {w : World} (hN : l.length = N) (h : Strs w A l) (hz : N ≤ 16777216) (hs : ∀ s ∈ l, s.size ≤ 16777216) (hn : I64 n) (hs64 : I64 s) :
    Calls Try.prog 33 #[.int .i64 n, .slice A N c, .int .i64 s] w fun e w' => ∃ A' c', e = .returned (.tuple #[.slice A' (fdL n l s).length c', .int .i64 (fdC n l s), .bool (okFind n l s)]) ∧ Owned strE 1 9 w' w.heap.size A' (fdL n l s).length c' (fdL n l s) ∧ (fdL n l s).length ≤ 16777216 ∧ Below w.heap.size w w' := by
  have HQ : Hid (okFind n l s = ((inB n 3 4 && goodWith n l) && inB s 1 200000)) := Lib.hid rfl
  rcases h4 : inB n 3 4
  · have e2 := Lib.hid (show okFind n l s = false by rw [HQ.out, h4]; rfl)
    have e1 := Lib.hid (fd_f e2.out)
    go_in
    go_wp2_with (first | (go_at_call 104; refine (spec_l1In _ _ _ _).mono ?_; rw [h4]; rintro e w' ⟨rfl, rfl⟩))
    go_ret3
    rw [e1.out.1, e1.out.2, e2.out]
    exact ⟨none, 0, rfl, Owned.nil strE_len _ _ _, by decide, Below.refl _ _⟩
  rcases h1 : goodWith n l
  · have e2 := Lib.hid (show okFind n l s = false by rw [HQ.out, h4, h1]; rfl)
    have e1 := Lib.hid (fd_f e2.out)
    go_in
    go_wp2_with (first | (go_at_call 104; refine (spec_l1In _ _ _ _).mono ?_; rw [h4]; rintro e w' ⟨rfl, rfl⟩) | (go_at_call 105; refine (spec_l19With hN h hz hs hn).mono ?_; rw [h1]; rintro e w' ⟨rfl, rfl⟩))
    go_ret3
    rw [e1.out.1, e1.out.2, e2.out]
    exact ⟨none, 0, rfl, Owned.nil strE_len _ _ _, by decide, Below.refl _ _⟩
  rcases h2 : inB s 1 200000
  · have e2 := Lib.hid (show okFind n l s = false by rw [HQ.out, h4, h1, h2]; rfl)
    have e1 := Lib.hid (fd_f e2.out)
    go_in
    go_wp2_with (first | (go_at_call 104; refine (spec_l1In _ _ _ _).mono ?_; (first | rw [h4] | rw [h2]); rintro e w' ⟨rfl, rfl⟩) | (go_at_call 105; refine (spec_l19With hN h hz hs hn).mono ?_; rw [h1]; rintro e w' ⟨rfl, rfl⟩))
    go_ret3
    rw [e1.out.1, e1.out.2, e2.out]
    exact ⟨none, 0, rfl, Owned.nil strE_len _ _ _, by decide, Below.refl _ _⟩
  have hb4 := inB_t h4
  have hbs := inB_t h2
  obtain ⟨q, rfl⟩ : ∃ q : Nat, n = (q : Int) := ⟨n.toNat, by omega⟩
  obtain ⟨t, rfl⟩ : ∃ t : Nat, s = (t : Int) := ⟨s.toNat, by omega⟩
  have e2 := Lib.hid (show okFind q l t = true by rw [HQ.out, h4, h1, h2]; rfl)
  have hl30 := inB_t (goodWith_stage_t h1).2.1
  have hq3 : 3 ≤ q := by omega
  have hq8 : q ≤ 8 := by omega
  have hr := rowN_rounds hq3 hq8
  have HV : ClOk q [roundsS q] := ⟨by simp, fun s hs => by rw [List.mem_singleton.1 hs]; exact hr⟩
  have HHV := Lib.hid HV
  have HR := Lib.hid hr
  have hfp := fact_pos q
  have HFD := Lib.hid (show [roundsS q].length + (fact q - 1) = fact q by simp; omega)
  have HFR : Hid (fateR q l t = srch q l (fact q - 1) (roundsS q) [roundsS q] [] t) := Lib.hid rfl
  clear HV hr hfp
  go_in
  go_wp2_with (first | (go_at_call 104; refine (spec_l1In _ _ _ _).mono ?_; (first | rw [h4] | rw [h2]); rintro e w' ⟨rfl, rfl⟩) | (go_at_call 105; refine (spec_l19With hN h hz hs hn).mono ?_; rw [h1]; rintro e w' ⟨rfl, rfl⟩) | (go_at_call 106; refine (spec_l19New (left := (t : Int)) hq3 hq8).mono ?_; rintro e w1 ⟨p, gs, m, rfl, hS, hb1⟩) | (go_at_call 108; refine (spec_l1Rounds hq8).mono ?_; rintro e w' ⟨rfl, rfl⟩))
  refine (spec_search hN h (by omega) hq3 hq8 hs (fact q - 1) HR.out HHV.out HFD.out rfl (by omega) hS hb1).mono ?_; rw [← HFR.out]; rintro e w2 ⟨rfl, ⟨V', P', l', mn', m', AP', cP', HS, HE⟩, hb2⟩
  rcases hf : fateR q l t with o | k
  · rw [hf] at HE
    have hl : Sum.isLeft (Sum.inl o : Fate) = true := rfl
    rw [hl]
    rcases o with _ | P2
    · have e1 := Lib.hid (fd_over e2.out hf)
      have hm := HE.2.2 rfl
      subst hm
      have k6 := HS.blk.cell 6
      simp only [spC, List.getElem?_cons_zero, List.getElem?_cons_succ] at k6
      clear HE hf hl
      go_wp2
      go_ret3
      rw [e1.out.1, e1.out.2, e2.out]
      exact ⟨none, 0, rfl, Owned.nil strE_len _ _ _, by decide, hb2⟩
    · have e1 := Lib.hid (fd_hit e2.out hf)
      have hw := fd_way hf (by omega)
      obtain ⟨rfl, rfl⟩ := HE.2.1 P2 rfl
      have k6 := HS.blk.cell 6; have k3 := HS.blk.cell 3
      simp only [spC, List.getElem?_cons_zero, List.getElem?_cons_succ] at k6 k3
      have HW2 := Lib.hid hw
      clear HE hf hl hw
      go_wp2_with (first | (go_at_call 109; refine (spec_l1OwnS rfl HS.path.recs (by have := HW2.out.2; omega)).mono ?_; rintro e w3 ⟨A3, c3, rfl, ho3, hb3⟩))
      go_ret3
      rw [e1.out.1, e1.out.2, e2.out]
      exact ⟨A3, c3, rfl, ho3.base_le hb2.size, by have := HW2.out.2; omega, below_go hb2 hb3⟩
  · rw [hf] at HE
    have hl : Sum.isLeft (Sum.inr k : Fate) = false := rfl
    rw [hl]
    have e1 := Lib.hid (fd_go e2.out hf)
    obtain ⟨rfl, rfl, rfl, rfl⟩ := HE.1 k rfl
    have k6 := HS.blk.cell 6
    simp only [spC, List.getElem?_cons_zero, List.getElem?_cons_succ] at k6
    clear HE hf hl
    go_wp2
    go_ret3
    rw [e1.out.1, e1.out.2, e2.out]
    exact ⟨none, 0, rfl, Owned.nil strE_len _ _ _, by decide, hb2⟩
end Go.Proofs.Ytpccbmndgdiloaa
/- The walks through CountExtents and FindExtent, the program's side. -/
namespace Go.Proofs.Ytpccbmndgdiloaa
set_option linter.unusedVariables false
set_option linter.unusedSimpArgs false
open Go.ChangeShapes Go.WideShapes Go.ChangeAt Go.RowKit Go.Deep
open Go.Maps (Keyed string_keyed)
open Go.WideMaps (keyOf_string_mk)
theorem wpList_mapx_ins {α : Type} {en : α → Value} {li : α → Lit} {P : Program} {ops : Array Oper} {rest : List Oper} {o : Oper} {a : Act} {Q : Exit → Act → World → Prop} {W : World} {k e : TypeId} {b n : Nat} {f : Value → Option α}
    (hgd : o.guard = none) (M X V : Operand) (t : TypeId) (hop : o.op = Op.insert t M X V) (K : Keyed P k) (ht : P.underlying t = some (.map k e)) (hm : a.eval M = .map (some b)) (h : MapX en li P W k e b n f) (hn : n ≤ 16777216) {key : Value} (hx : a.eval X = key) {x : α} (hv : a.eval V = en x)
    {kl : Lit} (hkey : keyOf P k key = some kl) (hpe : plainElem (H := Unit) P e (en x) = some (.lit (li x), [])) (hK : ∀ w', (∀ (m' : Nat) (g : Value → Option α), m' = (if (f key).isSome then n else n + 1) → g key = some x → (∀ q, q ≠ key → g q = f q) → MapX en li P w' k e b m' g) → W.grownBy w' (some b) → wpList P ops Q rest (a.put o.dst undef) w') : wpList P ops Q (o :: rest) a W := by
  obtain ⟨w', hrun, r1, r2⟩ := h.put K ht hn hkey hpe
  refine wpList_plain hgd fun K' hK' => ?_
  unfold Oper.wp
  simp [execOp, hop, hm, hx, hv, hrun, Result.andThen]
  exact hK' _ _ (hK w' r1 r2)
theorem setF_one {x : ByteArray} {q : Value} (hq : q ≠ .string x) : setF [x] q = none := by
  have h := setF_snoc (V := []) (x := x) hq
  rw [List.nil_append] at h
  rw [h, setF.eq_def]
  split
  · rw [if_neg]; simp [inL]
  · rfl
set_option maxHeartbeats 1000000 in
set_option maxRecDepth 100000 in
theorem impl_FindExtent {A : Option Addr} {N c : Nat} {l : List ByteArray} {n s : Int} {w : World} (hN : l.length = N) (h : Strs w A l) (hz : N ≤ 16777216) (hs : ∀ s ∈ l, s.size ≤ 16777216) :
    Calls Try.prog 32 #[.int .i64 n, .slice A N c, .int .i64 s] w fun e w' => ∃ A' c', e = .returned (.tuple #[.slice A' (fdL n l s).length c', .int .i64 (fdC n l s), .bool (okFind n l s)]) ∧ Owned strE 1 9 w' w.heap.size A' (fdL n l s).length c' (fdL n l s) ∧ (fdL n l s).length ≤ 16777216 ∧ Below w.heap.size w w' := by
  have HQ : Hid (okFind n l s = ((inB n 3 4 && goodWith n l) && inB s 1 200000)) := Lib.hid rfl
  rcases h4 : inB n 3 4
  · have e2 := Lib.hid (show okFind n l s = false by rw [HQ.out, h4]; rfl)
    have e1 := Lib.hid (fd_f e2.out)
    go_in
    go_wp2_with (first | (go_at_call 100; refine (impl_within _ _ _ _).mono ?_; rw [h4]; rintro e w' ⟨rfl, rfl⟩))
    go_ret3
    rw [e1.out.1, e1.out.2, e2.out]
    exact ⟨none, 0, rfl, Owned.nil strE_len _ _ _, by decide, Below.refl _ _⟩
  rcases h1 : goodWith n l
  · have e2 := Lib.hid (show okFind n l s = false by rw [HQ.out, h4, h1]; rfl)
    have e1 := Lib.hid (fd_f e2.out)
    go_in
    go_wp2_with (first | (go_at_call 100; refine (impl_within _ _ _ _).mono ?_; rw [h4]; rintro e w' ⟨rfl, rfl⟩) | (go_at_call 101; refine (impl_goodWith hN h hz hs).mono ?_; rw [h1]; rintro e w1 ⟨rfl, hb1⟩))
    go_ret3
    rw [e1.out.1, e1.out.2, e2.out]
    exact ⟨none, 0, rfl, Owned.nil strE_len _ _ _, by decide, hb1⟩
  rcases h2 : inB s 1 200000
  · have e2 := Lib.hid (show okFind n l s = false by rw [HQ.out, h4, h1, h2]; rfl)
    have e1 := Lib.hid (fd_f e2.out)
    go_in
    go_wp2_with (first | (go_at_call 100; refine (impl_within _ _ _ _).mono ?_; (first | rw [h4] | rw [h2]); rintro e w' ⟨rfl, rfl⟩) | (go_at_call 101; refine (impl_goodWith hN h hz hs).mono ?_; rw [h1]; rintro e w1 ⟨rfl, hb1⟩))
    go_ret3
    rw [e1.out.1, e1.out.2, e2.out]
    exact ⟨none, 0, rfl, Owned.nil strE_len _ _ _, by decide, hb1⟩
  have hb4 := inB_t h4
  have hbs := inB_t h2
  obtain ⟨q, rfl⟩ : ∃ q : Nat, n = (q : Int) := ⟨n.toNat, by omega⟩
  obtain ⟨t, rfl⟩ : ∃ t : Nat, s = (t : Int) := ⟨s.toNat, by omega⟩
  have e2 := Lib.hid (show okFind q l t = true by rw [HQ.out, h4, h1, h2]; rfl)
  have hl30 := inB_t (goodWith_stage_t h1).2.1
  have hq3 : 3 ≤ q := by omega
  have hq8 : q ≤ 8 := by omega
  have hr := rowN_rounds hq3 hq8
  have HV : ClOk q [roundsS q] := ⟨by simp, fun s hs => by rw [List.mem_singleton.1 hs]; exact hr⟩
  have HHV := Lib.hid HV
  have HR := Lib.hid hr
  have hfp := fact_pos q
  have HFD := Lib.hid (show [roundsS q].length + (fact q - 1) = fact q by simp; omega)
  have HFR := Lib.hid (show gX q l false (fact q - 1) (roundsS q) [roundsS q] [] t 0 = withK 0 (fateR q l t) from gX_find q l _ _ _ _ _ _)
  have HGV := Lib.hid (fun s (hs : s ∈ l) => good_valid (allCh_mem (goodWith_stage_t h1).2.2 s hs))
  have hmm := @run_makeMap Try.prog
  have KS := string_keyed (P := Try.prog) (k := 9) Try.underlying9
  have hkey := keyOf_string_mk (P := Try.prog) (k := 9) Try.underlying9 (s := roundsS q) (by rw [hr.2]; unfold maxLen; omega)
  have HKEY := Lib.hid hkey
  clear HV hr hkey hfp
  go_in
  go_wp2_with (first | (go_at_call 100; refine (impl_within _ _ _ _).mono ?_; (first | rw [h4] | rw [h2]); rintro e w' ⟨rfl, rfl⟩) | (go_at_call 101; refine (impl_goodWith hN h hz hs).mono ?_; rw [h1]; rintro e w1 ⟨rfl, hb1⟩; have HM0 := Lib.hid (MapX.made bEn bLi Try.prog w1 9 4)) | (go_at_call 102; refine (impl_rounds hq8).mono ?_; rintro e w' ⟨rfl, rfl⟩) | (refine wpList_mapx_ins rfl (.tmp 28) (.tmp 30) (.const (.bool true)) 116 rfl KS Try.underlying116 rfl HM0.out (by decide) (key := .string (roundsS q)) rfl (x := true) rfl HKEY.out (bLi_pe Try.underlying4 true) ?_; intro w2 hm2 hg2; have hmx := hm2 1 (setF [roundsS q]) rfl (setF_in (inL_iff.2 (by simp))) (fun q hq => setF_one hq); have HMX := Lib.hid hmx; clear hm2 hmx))
  have hb2 : Below w1.heap.size w1 w2 := ((Below.refl _ _).alloc (Nat.le_refl _) (.map #[] 0)).grown hg2 (by simp) (fun k hk => by injection hk with hk; omega)
  have hs2 := hb2.size
  have hb3 := hb2.alloc hs2 (.cells #[.int .i64 q, .slice A N c, .int .i64 t, .bool false, .int .i64 0, .map (some w1.heap.size), .slice none 0 0, .bool false] 118)
  have hIm : ImS (w2.alloc (.cells #[.int .i64 q, .slice A N c, .int .i64 t, .bool false, .int .i64 0, .map (some w1.heap.size), .slice none 0 0, .bool false] 118)) w1.heap.size w2.heap.size q N A c w1.heap.size false [roundsS q] [] (t : Int) ((0 : Nat) : Int) false none 0 :=
    ⟨Blk.at_ w2 118 (imC q N A c t false 0 w1.heap.size none 0 0 false) (b := w2.heap.size) rfl, HMX.out.alloc _, Owned.nil strE_len _ _ _, hs2, Nat.le_refl _⟩
  refine (impl_search hN (h.up hb1) (by omega) hq3 hq8 hs HGV.out false (fact q - 1) HR.out HHV.out HFD.out rfl (by omega) hIm hb3).mono ?_
  rintro e w4 ⟨rfl, ⟨V', P', l', ct', ov', AP', cP', HS, HE⟩, hb4'⟩
  rw [HFR.out] at HE ⊢
  rcases hf : fateR q l t with o | k
  · rw [hf] at HE
    have hl : Sum.isLeft (withK 0 (Sum.inl o)) = true := rfl
    rw [hl]
    rcases o with _ | P2
    · have e1 := Lib.hid (fd_over e2.out hf)
      have hm := HE.2.2 rfl
      subst hm
      have k7 := HS.blk.cell 7
      simp only [imC, List.getElem?_cons_zero, List.getElem?_cons_succ] at k7
      clear HE hf hl hIm
      go_wp2
      go_ret3
      rw [e1.out.1, e1.out.2, e2.out]
      exact ⟨none, 0, rfl, Owned.nil strE_len _ _ _, by decide, below_go hb1 hb4'⟩
    · have e1 := Lib.hid (fd_hit e2.out hf)
      have hw := fd_way hf (by omega)
      obtain ⟨hp, hov⟩ := HE.2.1 P2 rfl
      subst hp hov
      have k7 := HS.blk.cell 7; have k6 := HS.blk.cell 6
      simp only [imC, List.getElem?_cons_zero, List.getElem?_cons_succ] at k7 k6
      have HW2 := Lib.hid hw
      clear HE hf hl hw hIm
      go_wp2
      go_ret3
      rw [e1.out.1, e1.out.2, e2.out]
      exact ⟨AP', cP', rfl, HS.path.base_le hb1.size, by have := HW2.out.2; omega, below_go hb1 hb4'⟩
  · rw [hf] at HE
    have hl : Sum.isLeft (withK 0 (Sum.inr k)) = false := rfl
    rw [hl]
    have e1 := Lib.hid (fd_go e2.out hf)
    obtain ⟨_, _, _, _, hov⟩ := HE.1 (k, 0) rfl
    subst hov
    have k7 := HS.blk.cell 7
    simp only [imC, List.getElem?_cons_zero, List.getElem?_cons_succ] at k7
    clear HE hf hl hIm
    go_wp2
    go_ret3
    rw [e1.out.1, e1.out.2, e2.out]
    exact ⟨none, 0, rfl, Owned.nil strE_len _ _ _, by decide, below_go hb1 hb4'⟩
end Go.Proofs.Ytpccbmndgdiloaa
/- The walks through RowsFrom, both sides. -/
namespace Go.Proofs.Ytpccbmndgdiloaa
set_option linter.unusedVariables false
set_option linter.unusedSimpArgs false
open Go.ChangeShapes Go.WideShapes Go.ChangeAt Go.RowKit Go.Deep
theorem Recs.take {α : Type} {e : α → List Value} {s : Nat} {w : World} {A : Option Addr} {l : List α} (h : Recs e s w A l) (m : Nat) : Recs e s w A (l.take m) := by
  refine ⟨h.1, by rw [flatMap_len h.1], fun hn => ?_⟩
  have h0 : 0 < l.length := by rw [List.length_take] at hn; omega
  obtain ⟨b, off, hA, hb, hc⟩ := h.2.2 h0
  refine ⟨b, off, hA, hb, fun j u hu => hc j u ?_⟩
  have e1 : l.flatMap e = (l.take m).flatMap e ++ (l.drop m).flatMap e := by rw [← List.flatMap_append, List.take_append_drop]
  rw [e1, List.getElem?_append_left (List.getElem?_eq_some_iff.1 hu).1]
  exact hu
set_option maxRecDepth 100000 in
theorem spec_RowsFrom {A : Option Addr} {N c : Nat} {l : List ByteArray} {n : Int} {w : World} (hN : l.length = N) (h : Strs w A l) (hz : N ≤ 16000000) (hs : ∀ s ∈ l, s.size ≤ 16777216) (hn : I64 n) :
    Calls Try.prog 41 #[.int .i64 n, .slice A N c] w fun e w' => ∃ A' c', e = .returned (.tuple #[.slice A' (fromR n l).length c', .bool (okFrom n l)]) ∧
      Owned strE 1 9 w' w.heap.size A' (fromR n l).length c' (fromR n l) ∧ (fromR n l).length ≤ 16777216 ∧ Below w.heap.size w w' := by
  subst hN
  have HG : Hid (okFrom n l = ((List.range l.length).all (okCh n l) && (inB n 3 8 && inB l.length 1 800))) := Lib.hid rfl
  have HF : Hid (okFrom n l = false → fromR n l = []) := Lib.hid fromR_f
  have HS := Lib.hid hs
  go_in
  go_wp2
  go_loopw [12] (fun i wr => ∃ k : Nat, k ≤ l.length ∧ i = .int .i64 k ∧ Hid (∀ j, j < k → okCh n l j = true) ∧ w = wr) (fun i _ => l.length - (intOf i).toNat)
  case atStart => exact ⟨0, Nat.zero_le _, rfl, Lib.hid (fun j hj => absurd hj (by omega)), rfl⟩
  case round =>
    obtain ⟨k, hk, rfl, HK, rfl⟩ := hrel
    by_cases hlt : k < l.length
    · obtain ⟨b1, o1, y, rfl, hbb, hy, hcy⟩ := h.at_str hlt
      have hys := HS.out y (List.mem_of_getElem? hy)
      have EC := Lib.hid (okCh_at (n := n) hy)
      clear hy
      rcases hg : goodChange n y
      · have e0 := Lib.hid (show okFrom n l = false by rw [HG.out, all_bad hlt (by rw [EC.out, hg])])
        go_wp2_with (first | (go_at_call 82; refine (spec_l2Change hys hn).mono ?_; rintro e w' ⟨rfl, rfl⟩))
        go_ret2
        rw [HF.out e0.out, e0.out]
        exact ⟨none, 0, rfl, Owned.nil strE_len _ _ _, by decide, Below.refl _ _⟩
      · have e0 := Lib.hid (show okCh n l k = true by rw [EC.out, hg])
        go_wp2_with (first | (go_at_call 82; refine (spec_l2Change hys hn).mono ?_; rintro e w' ⟨rfl, rfl⟩))
        go_roundw
        case rel => exact ⟨k + 1, by omega, by go_num, Lib.hid (upto_succ HK.out e0.out), trivial⟩
        case measure => simp [intOf]; omega
    · obtain rfl : k = l.length := by omega
      have HG2 := Lib.hid (show okFrom n l = (inB n 3 8 && inB l.length 1 800) by rw [HG.out, all_good (fun j hj => HK.out j hj)])
      rcases h1 : inB n 3 8
      · have e0 := Lib.hid (show okFrom n l = false by rw [HG2.out, h1]; rfl)
        go_wp2_with (first | (go_at_call 104; refine (spec_l1In _ _ _ _).mono ?_; rintro e w' ⟨rfl, rfl⟩))
        go_ret2
        rw [HF.out e0.out, e0.out]
        exact ⟨none, 0, rfl, Owned.nil strE_len _ _ _, by decide, Below.refl _ _⟩
      have hn3 := inB_t h1
      rcases h2 : inB l.length 1 800
      · have e0 := Lib.hid (show okFrom n l = false by rw [HG2.out, h1, h2]; rfl)
        go_wp2_with (first | (go_at_call 104; refine (spec_l1In _ _ _ _).mono ?_; rintro e w' ⟨rfl, rfl⟩))
        go_ret2
        rw [HF.out e0.out, e0.out]
        exact ⟨none, 0, rfl, Owned.nil strE_len _ _ _, by decide, Below.refl _ _⟩
      have e0 := Lib.hid (show okFrom n l = true by rw [HG2.out, h1, h2]; rfl)
      obtain ⟨m, rfl⟩ := Int.eq_ofNat_of_zero_le (show 0 ≤ n by omega)
      have hm : m ≤ 8 := by omega
      have hrs : (roundsS m).size ≤ 8 := by rw [rounds_size m (by omega)]; exact hm
      have ER := Lib.hid (fromR_t e0.out)
      go_wp2_with (first | (go_at_call 104; refine (spec_l1In _ _ _ _).mono ?_; rintro e w' ⟨rfl, rfl⟩) | (go_at_call 108; refine (spec_l1Rounds hm).mono ?_; rintro e w' ⟨rfl, rfl⟩) | (go_at_call 126; refine (spec_l4Lead hrs rfl h hz hs).mono ?_; rintro e w1 ⟨A1, c1, rfl, ho1, hb1⟩))
      go_ret2
      rw [ER.out, e0.out, rowsL_len]
      exact ⟨A1, c1, rfl, ho1, by omega, hb1⟩
set_option maxRecDepth 100000 in
theorem impl_RowsFrom {A : Option Addr} {N c : Nat} {l : List ByteArray} {n : Int} {w : World} (hN : l.length = N) (h : Strs w A l) (hz : N ≤ 16000000) (hs : ∀ s ∈ l, s.size ≤ 16777216) (hcap : N ≤ c) :
    Calls Try.prog 34 #[.int .i64 n, .slice A N c] w fun e w' => ∃ A' c', e = .returned (.tuple #[.slice A' (fromR n l).length c', .bool (okFrom n l)]) ∧
      Owned strE 1 9 w' w.heap.size A' (fromR n l).length c' (fromR n l) ∧ (fromR n l).length ≤ 16777216 ∧ Below w.heap.size w w' := by
  subst hN
  have HG : Hid (okFrom n l = ((List.range l.length).all (okCh n l) && (inB n 3 8 && inB l.length 1 800))) := Lib.hid rfl
  have HF : Hid (okFrom n l = false → fromR n l = []) := Lib.hid fromR_f
  have HS := Lib.hid hs
  rcases h1 : inB n 3 8
  · have e0 := Lib.hid (show okFrom n l = false by rw [HG.out, h1, Bool.false_and, Bool.and_false])
    go_in
    go_wp2_with (first | (go_at_call 110; refine (impl_isStage _ _).mono ?_; rintro e w' ⟨rfl, rfl⟩))
    go_ret2
    rw [HF.out e0.out, e0.out]
    exact ⟨none, 0, rfl, Owned.nil strE_len _ _ _, by decide, Below.refl _ _⟩
  have hn3 := inB_t h1
  rcases h2 : inB l.length 1 800
  · have e0 := Lib.hid (show okFrom n l = false by rw [HG.out, h1, h2, Bool.and_false, Bool.and_false])
    go_in
    go_wp2_with (first | (go_at_call 110; refine (impl_isStage _ _).mono ?_; rintro e w' ⟨rfl, rfl⟩) | (go_at_call 100; refine (impl_within _ _ _ _).mono ?_; rintro e w' ⟨rfl, rfl⟩))
    go_ret2
    rw [HF.out e0.out, e0.out]
    exact ⟨none, 0, rfl, Owned.nil strE_len _ _ _, by decide, Below.refl _ _⟩
  have hl8 := inB_t h2
  obtain ⟨m, rfl⟩ := Int.eq_ofNat_of_zero_le (show 0 ≤ n by omega)
  have hm : m ≤ 8 := by omega
  have hrs : (roundsS m).size ≤ 8 := by rw [rounds_size m (by omega)]; exact hm
  go_in
  go_wp2_with (first | (go_at_call 110; refine (impl_isStage _ _).mono ?_; rintro e w' ⟨rfl, rfl⟩) | (go_at_call 100; refine (impl_within _ _ _ _).mono ?_; rintro e w' ⟨rfl, rfl⟩))
  go_loopw [19] (fun i wr => ∃ k : Nat, k ≤ l.length ∧ i = .int .i64 k ∧ Hid (∀ j, j < k → okCh m l j = true) ∧ Below w.heap.size w wr) (fun i _ => l.length - (intOf i).toNat)
  case atStart => exact ⟨0, Nat.zero_le _, rfl, Lib.hid (fun j hj => absurd hj (by omega)), Below.refl _ _⟩
  case round =>
    obtain ⟨k, hk, rfl, HK, hb⟩ := hrel
    by_cases hlt : k < l.length
    · obtain ⟨b1, o1, y, rfl, hbb, hy, hcy⟩ := (h.below hb (Nat.le_refl _)).at_str hlt
      have hys := HS.out y (List.mem_of_getElem? hy)
      have EC := Lib.hid (okCh_at (n := m) hy)
      clear hy
      rcases hg : goodChange m y
      · have e0 := Lib.hid (show okFrom m l = false by rw [HG.out, all_bad hlt (by rw [EC.out, hg])])
        go_wp2_with (first | (go_at_call 80; refine (impl_GoodChange hys).mono ?_; rintro e w2 ⟨rfl, hb2⟩))
        go_ret2
        rw [HF.out e0.out, e0.out]
        exact ⟨none, 0, rfl, Owned.nil strE_len _ _ _, by decide, below_go hb hb2⟩
      · have e0 := Lib.hid (show okCh m l k = true by rw [EC.out, hg])
        go_wp2_with (first | (go_at_call 80; refine (impl_GoodChange hys).mono ?_; rintro e w2 ⟨rfl, hb2⟩))
        go_roundw
        case rel => exact ⟨k + 1, by omega, by go_num, Lib.hid (upto_succ HK.out e0.out), below_go hb hb2⟩
        case measure => simp [intOf]; omega
    · obtain rfl : k = l.length := by omega
      have e0 := Lib.hid (show okFrom m l = true by rw [HG.out, all_good (fun j hj => HK.out j hj), h1, h2]; rfl)
      have ER := Lib.hid (fromR_t e0.out)
      obtain ⟨M, hM⟩ : ∃ M, l.length = M + 1 := ⟨l.length - 1, by omega⟩
      have hall : allCh m l = true := by rw [allCh]; exact all_yes (fun j hj => HK.out j hj)
      have hgd : ∀ s ∈ l.take M, isDash s = true ∨ validD s = true := fun s hs => good_valid (allCh_mem hall s (List.mem_of_mem_take hs))
      have hs2 : ∀ s ∈ l.take M, s.size ≤ 16777216 := fun s h => hs s (List.mem_of_mem_take h)
      have hT := (h.below hb (Nat.le_refl _)).take M
      have hTl : (l.take M).length = M := by rw [List.length_take]; omega
      have hpm : ((l.length : Int) - 1) = (M : Int) := by omega
      have hrw := Lib.hid (show rowsL (roundsS m) (l.take M) (M + 1) = rowsL (roundsS m) l l.length by rw [rowsL_take, hM])
      have hwk : IntKind.i64.wrap (M : Int) = (M : Int) := by
        rw [PlainAid.i64_is]; unfold wrap64; omega
      have hMc : M ≤ c := by omega
      have hMi : (M : Int) ≤ (c : Int) := by omega
      obtain ⟨b1, o1, y0, rfl, _, _, _⟩ := h.at_str (k := 0) (by omega)
      clear HK hall hs
      go_wp2
      go_region_held3 (fun u => True) (first | trivial) (first | (go_at_call 102; refine (impl_rounds hm).mono ?_; rintro e w' ⟨rfl, rfl⟩) | (go_at_call 111; refine (impl_rowsUnder hrs hTl hT.drew (by omega) hs2 hgd).mono ?_; rintro e w2 ⟨A2, c2, rfl, ho2, hbd⟩; have hb2 := below_of_drew hbd))
      go_wp2
      go_ret2
      rw [ER.out, e0.out, rowsL_len]
      have ho3 := ho2.base_le (base' := w.heap.size) hb.size
      rw [hrw.out, ← hM] at ho3
      exact ⟨A2, c2, by rw [hM]; rfl, ho3, by omega, below_go hb hb2⟩
end Go.Proofs.Ytpccbmndgdiloaa
/- The walks through the draws of FnExtents, and the program's IsLevel where each row occurs once. -/
namespace Go.Proofs.Ytpccbmndgdiloaa
set_option linter.unusedVariables false
set_option linter.unusedSimpArgs false
open Go.ChangeShapes Go.WideShapes Go.ChangeAt Go.RowKit Go.Deep
theorem fdL_mem {n s : Int} {l : List ByteArray} : (∀ c ∈ fdL n l s, c ∈ l) ∧ (fdL n l s).length ≤ 24 := by
  rcases h : okFind n l s
  · rw [(fd_f h).1]; exact ⟨fun c hc => (by cases hc), Nat.zero_le _⟩
  · obtain ⟨hn, _⟩ := find_t h
    have hs : 0 ≤ s := by
      rw [okFind, Bool.and_eq_true] at h
      have := inB_t h.2; omega
    obtain ⟨S, rfl⟩ := Int.eq_ofNat_of_zero_le hs
    obtain ⟨N, rfl⟩ := Int.eq_ofNat_of_zero_le (show 0 ≤ n by omega)
    rcases hf : fateR N l S with (_ | q) | k
    · rw [(fd_over h hf).1]; exact ⟨fun c hc => (by cases hc), Nat.zero_le _⟩
    · rw [(fd_hit h hf).1]; exact fd_way hf (by omega)
    · rw [(fd_go h hf).1]; exact ⟨fun c hc => (by cases hc), Nat.zero_le _⟩
theorem fromR_small {n : Int} {l : List ByteArray} : (∀ s ∈ fromR n l, s.size ≤ 8) ∧ (fromR n l).length ≤ 800 := by
  rcases h : okFrom n l
  · rw [fromR_f h]; exact ⟨fun s hs => (by cases hs), Nat.zero_le _⟩
  · have h' := h
    simp only [okFrom, Bool.and_eq_true] at h'
    have hn := inB_t h'.2.1
    have hl := inB_t h'.2.2
    obtain ⟨N, rfl⟩ := Int.eq_ofNat_of_zero_le (show 0 ≤ n by omega)
    rw [fromR_t h, rowsL_len]
    refine ⟨fun s hs => ?_, by omega⟩
    obtain ⟨k, _, rfl⟩ := List.mem_map.1 hs
    rw [rAt_size, rounds_size N (by omega)]
    omega
set_option maxHeartbeats 1000000 in
set_option maxRecDepth 100000 in
theorem draw_RowsFrom {A : Option Addr} {n c : Nat} {w : World} (hS : Src w A n) :
    Calls Try.prog 40 #[.slice A n c] w fun e w' => ∃ (N : Nat) (A1 : Option Addr) (n1 c1 : Nat) (l1 : List ByteArray), e = .returned (.tuple #[.int .i64 N, .slice A1 n1 c1]) ∧ l1.length = n1 ∧ n1 ≤ 60 ∧ n1 ≤ c1 ∧ (∀ s ∈ l1, s.size ≤ 16777216) ∧ Strs w' A1 l1 ∧ N ≤ 9 ∧ Below w.heap.size w w' := by
  have b0 : Below w.heap.size w (w.alloc (.cells #[.slice A n c, .int .i64 0, .int .u64 0] 104)) := by (repeat' (first | (with_reducible exact Below.refl _ _) | (with_reducible assumption) | (with_reducible refine below_drewN ?_ _) | (with_reducible refine Below.drew ?_) | (with_reducible refine below_alloc ?_ _) | (with_reducible refine Below.alloc ?_ ?_ _) | (with_reducible refine Below.setCell ?_ ?_ _) | (with_reducible refine below_go ?_ (by with_reducible assumption)) | (with_reducible refine below_then (by with_reducible assumption) ?_ ?_) | go_size))
  have c0 := cur_fresh w A n c
  go_in
  go_wp2_with fail
  obtain ⟨w1, hw1⟩ : ∃ u, u = w.alloc (.cells #[.slice A n c, .int .i64 0, .int .u64 0] 104) := ⟨_, rfl⟩
  rw [← hw1] at b0 c0 ⊢
  clear hw1
  refine (cur_anyChanges hS b0 (Nat.le_refl _) c0 (by omega)).mono ?_; rintro e w2 ⟨N, A2, m2, c2, L2, rfl, hN, hm2, hs2, ho2, hc2, hg2⟩
  have hB2 := grown_below b0 (Nat.le_refl _) hg2
  go_wp2
  go_ret2
  exact ⟨N, A2, m2, c2, L2, rfl, ho2.len, hm2, ho2.cap.1, fun s hs => Nat.le_trans (hs2 s hs) (by decide), ho2.recs, hN, hB2⟩
set_option maxHeartbeats 2000000 in
set_option maxRecDepth 100000 in
theorem draw_IsExtent {A : Option Addr} {n c : Nat} {w : World} (hS : Src w A n) :
    Calls Try.prog 38 #[.slice A n c] w fun e w' => ∃ (A1 : Option Addr) (n1 c1 : Nat) (l1 : List ByteArray), e = .returned (.slice A1 n1 c1) ∧ l1.length = n1 ∧ n1 ≤ 800 ∧ (∀ s ∈ l1, s.size ≤ 16777216) ∧ Strs w' A1 l1 ∧ Below w.heap.size w w' := by
  have b0 : Below w.heap.size w (w.alloc (.cells #[.slice A n c, .int .i64 0, .int .u64 0] 104)) := by (repeat' (first | (with_reducible exact Below.refl _ _) | (with_reducible assumption) | (with_reducible refine below_drewN ?_ _) | (with_reducible refine Below.drew ?_) | (with_reducible refine below_alloc ?_ _) | (with_reducible refine Below.alloc ?_ ?_ _) | (with_reducible refine Below.setCell ?_ ?_ _) | (with_reducible refine below_go ?_ (by with_reducible assumption)) | (with_reducible refine below_then (by with_reducible assumption) ?_ ?_) | go_size))
  have c0 := cur_fresh w A n c
  go_in
  go_wp2_with fail
  obtain ⟨w1, hw1⟩ : ∃ u, u = w.alloc (.cells #[.slice A n c, .int .i64 0, .int .u64 0] 104) := ⟨_, rfl⟩
  rw [← hw1] at b0 c0 ⊢
  clear hw1
  have HS := Lib.hid hS
  clear hS
  refine (cur_one HS.out b0 (Nat.le_refl _) c0 (by omega) (by decide) (by decide)).mono ?_; rintro e w2 ⟨b, rfl, hc2, hg2⟩
  have HB2 := Lib.hid (grown_below b0 (Nat.le_refl _) hg2)
  have s2 := HB2.out.size
  clear b0 c0 hg2
  rcases b
  · go_wp2_with fail
    refine (cur_rung HS.out HB2.out (Nat.le_refl _) hc2 (by omega)).mono ?_; rintro e w3 ⟨A3, m3, c3, L3, rfl, hm3, hd3, ho3, hc3, hg3⟩
    have HD := Lib.hid hd3
    have HL := Lib.hid ho3.len
    have HR := Lib.hid ho3.recs
    have HB3 := Lib.hid (grown_below HB2.out (Nat.le_refl _) hg3)
    clear hd3 ho3 hc3 hg3
    go_wp2
    go_ret
    exact ⟨_, m3, _, L3, rfl, HL.out, by omega, fun s hs => Nat.le_trans (HD.out s hs).1 (by decide), HR.out, HB3.out⟩
  · go_wp2_with fail
    refine (cur_pick HS.out HB2.out (Nat.le_refl _) hc2 (by omega) (by decide) (by decide)).mono ?_; rintro e w3 ⟨x, rfl, ⟨x0, x1⟩, hc3, hg3⟩
    obtain ⟨X, rfl⟩ := Int.eq_ofNat_of_zero_le x0
    have hX : X ≤ 1 := by omega
    have HB3 := Lib.hid (grown_below HB2.out (Nat.le_refl _) hg3)
    have HC3 := Lib.hid hc3
    clear x0 x1 hc3 hg3
    go_wp2_with fail
    first | rw [show (3 : Int) + (X : Int) = ((3 + X : Nat) : Int) by omega] | skip
    refine (spec_l2All (n := 3 + X) (by omega)).mono ?_; rintro e w4 ⟨A4, c4, L4, rfl, ho4, hp4, hb4⟩
    have hsm := chs_small (by omega) hp4
    have HSM := Lib.hid (fun s (hs : s ∈ L4) => show s.size ≤ 16777216 from Nat.le_trans (hsm.2 s hs) (by decide))
    have hl34 := hsm.1
    have R4 := ho4.recs
    have HB4 := Lib.hid (below_go HB3.out hb4)
    clear hsm hp4 ho4
    go_wp2_with fail
    first | rw [show (3 : Int) + (X : Int) = ((3 + X : Nat) : Int) by omega] | skip
    refine (spec_FindExtent (n := ((3 + X : Nat) : Int)) (s := 20000) rfl R4 (by omega) HSM.out (by constructor <;> omega) (by constructor <;> omega)).mono ?_; rintro e w5 ⟨A5, c5, rfl, ho5, _, hb5⟩
    have hfm := fdL_mem (n := ((3 + X : Nat) : Int)) (s := 20000) (l := L4)
    obtain ⟨Q, hQ⟩ : ∃ Q, Q = fdL ((3 + X : Nat) : Int) L4 20000 := ⟨_, rfl⟩
    rw [← hQ] at ho5 hfm
    rw [← hQ]
    obtain ⟨fc, hfc⟩ : ∃ u, u = fdC ((3 + X : Nat) : Int) L4 20000 := ⟨_, rfl⟩
    rw [← hfc]
    clear hfc
    have HB5 := Lib.hid (below_go HB4.out hb5)
    have R5 := ho5.recs
    have HQM := Lib.hid (fun s (hs : s ∈ Q) => HSM.out s (hfm.1 s hs))
    have hq24 := hfm.2
    clear hQ hfm ho5
    by_cases hf : fc = 1
    · go_wp2_with fail
      first | rw [show (3 : Int) + (X : Int) = ((3 + X : Nat) : Int) by omega] | skip
      refine (spec_RowsFrom (n := ((3 + X : Nat) : Int)) rfl R5 (by omega) HQM.out (by constructor <;> omega)).mono ?_; rintro e w6 ⟨A6, c6, rfl, ho6, _, hb6⟩
      have hfs := fromR_small (n := ((3 + X : Nat) : Int)) (l := Q)
      obtain ⟨F, hF⟩ : ∃ F, F = fromR ((3 + X : Nat) : Int) Q := ⟨_, rfl⟩
      rw [← hF] at ho6 hfs
      rw [← hF]
      have HFS := Lib.hid hfs.1
      have hf8 := hfs.2
      have HB6 := Lib.hid (below_go HB5.out hb6)
      have R6 := Lib.hid ho6.recs
      clear hF hfs ho6 hf
      go_wp2
      go_ret
      exact ⟨_, _, _, F, rfl, rfl, hf8, fun s hs => Nat.le_trans (HFS.out s hs) (by decide), R6.out, HB6.out⟩
    · have HC5 := Lib.hid ((HC3.out.up hb4).up hb5)
      go_wp2_with fail
      refine (cur_rung HS.out HB5.out (Nat.le_refl _) HC5.out (by omega)).mono ?_; rintro e w6 ⟨A6, m6, c6, L6, rfl, hm6, hd6, ho6, hc6, hg6⟩
      have HD := Lib.hid hd6
      have HL := Lib.hid ho6.len
      have HR := Lib.hid ho6.recs
      have HB6 := Lib.hid (grown_below HB5.out (Nat.le_refl _) hg6)
      clear hd6 ho6 hc6 hg6 hf
      go_wp2
      go_ret
      exact ⟨_, m6, _, L6, rfl, HL.out, by omega, fun s hs => Nat.le_trans (HD.out s hs).1 (by decide), HR.out, HB6.out⟩
end Go.Proofs.Ytpccbmndgdiloaa
/- The walk through the program's IsLevel where each row of the stage occurs once. -/
namespace Go.Proofs.Ytpccbmndgdiloaa
set_option linter.unusedVariables false
set_option linter.unusedSimpArgs false
open Go.ChangeShapes Go.WideShapes Go.ChangeAt Go.RowKit Go.Deep
set_option maxRecDepth 100000 in
theorem slices_MinOnes {A : Option Addr} {n c : Nat} {l : List Int} {w : World} (hn : l.length = n) (h : Ints w A l) (h0 : 0 < n) (h1 : ∀ x ∈ l, x = 1) (hz : n ≤ 16777216) :
    Calls Try.prog 117 #[.slice A n c] w fun e w' => e = .returned (.int .i64 1) ∧ w = w' := by
  subst hn
  obtain ⟨b0, o0, x0, rfl, _, hx0, hc0⟩ := h.at_int h0
  obtain rfl := h1 x0 (List.mem_of_getElem? hx0)
  simp only [Nat.add_zero] at hc0
  have H1 := Lib.hid h1
  have hI0 : ¬ (l.length : Int) < 1 := by omega
  clear hx0 h1
  go_in
  go_wp2
  go_loopw [3, 4] (fun v i wr => ∃ k : Nat, 1 ≤ k ∧ k ≤ l.length ∧ i = .int .i64 k ∧ v = .int .i64 1 ∧ w = wr) (fun _ i _ => l.length - (intOf i).toNat)
  case atStart => exact ⟨1, Nat.le_refl _, h0, rfl, rfl, rfl⟩
  case round =>
    obtain ⟨k, hk1, hk, rfl, rfl, rfl⟩ := hrel
    by_cases hlt : k < l.length
    · obtain ⟨b, o, x, hA, _, hx, hcx⟩ := h.at_int hlt
      injection hA with hA
      injection hA with hA1 hA2
      subst hA1 hA2
      obtain rfl := H1.out x (List.mem_of_getElem? hx)
      clear hx
      go_wp2
      go_roundw
      case rel => exact ⟨k + 1, by omega, by omega, by go_num, rfl, trivial⟩
      case measure => simp [intOf]; omega
    · go_wp2
      go_ret
      exact ⟨rfl, rfl⟩
set_option maxRecDepth 100000 in
theorem slices_MaxOnes {A : Option Addr} {n c : Nat} {l : List Int} {w : World} (hn : l.length = n) (h : Ints w A l) (h0 : 0 < n) (h1 : ∀ x ∈ l, x = 1) (hz : n ≤ 16777216) :
    Calls Try.prog 118 #[.slice A n c] w fun e w' => e = .returned (.int .i64 1) ∧ w = w' := by
  subst hn
  obtain ⟨b0, o0, x0, rfl, _, hx0, hc0⟩ := h.at_int h0
  obtain rfl := h1 x0 (List.mem_of_getElem? hx0)
  simp only [Nat.add_zero] at hc0
  have H1 := Lib.hid h1
  have hI0 : ¬ (l.length : Int) < 1 := by omega
  clear hx0 h1
  go_in
  go_wp2
  go_loopw [3, 4] (fun v i wr => ∃ k : Nat, 1 ≤ k ∧ k ≤ l.length ∧ i = .int .i64 k ∧ v = .int .i64 1 ∧ w = wr) (fun _ i _ => l.length - (intOf i).toNat)
  case atStart => exact ⟨1, Nat.le_refl _, h0, rfl, rfl, rfl⟩
  case round =>
    obtain ⟨k, hk1, hk, rfl, rfl, rfl⟩ := hrel
    by_cases hlt : k < l.length
    · obtain ⟨b, o, x, hA, _, hx, hcx⟩ := h.at_int hlt
      injection hA with hA
      injection hA with hA1 hA2
      subst hA1 hA2
      obtain rfl := H1.out x (List.mem_of_getElem? hx)
      clear hx
      go_wp2
      go_roundw
      case rel => exact ⟨k + 1, by omega, by omega, by go_num, rfl, trivial⟩
      case measure => simp [intOf]; omega
    · go_wp2
      go_ret
      exact ⟨rfl, rfl⟩
set_option maxRecDepth 100000 in
theorem impl_IsLevelOnes {A : Option Addr} {N c n : Nat} {l : List ByteArray} {w : World} (hN : l.length = N) (h : Strs w A l) (hz : N ≤ 800) (h6 : n ≤ 6) (hok : ClOk n l) (hf : N = fact n) (hsm : smallR l = true) :
    Calls Try.prog 36 #[.slice A N c] w fun e w' => e = .returned (.tuple #[.bool true, .bool true]) ∧ Below w.heap.size w w' := by
  have h0 : 0 < N := by rw [hf]; exact fact_pos n
  have HS := Lib.hid hsm
  have HO := Lib.hid hok
  have hs : ∀ s ∈ l, s.size ≤ 16777216 := fun s hs => by rw [(hok.2 s hs).2]; omega
  have HF := Lib.hid (show l.length = fact n by rw [hN, hf])
  have hfp := fact_pos n
  have hf8 := fact_le8 (by omega : n ≤ 8)
  clear hok hsm hf
  go_in
  go_wp2_with fail
  refine (impl_countable hN h (by omega) hs).mono ?_; rw [HS.out]; rintro e w' ⟨rfl, rfl⟩
  go_wp2_with fail
  refine (impl_counts hN h hz h0 HO.out.2 h6).mono ?_; rintro e w1 ⟨A1, m, rfl, hm, ho, hb1⟩
  have hall := Lib.hid (cnt_all HO.out HF.out hm)
  have hml := Lib.hid hm.1
  have hr := Lib.hid ho.recs
  obtain ⟨F, hF⟩ : ∃ F, F = fact n := ⟨_, rfl⟩
  rw [← hF] at hfp hf8 hml
  rw [← hF]
  clear hm ho hF
  go_wp2_with fail
  refine (slices_MinOnes hml.out hr.out hfp hall.out (by omega)).mono ?_; rintro e w2 ⟨rfl, rfl⟩
  go_wp2_with fail
  refine (slices_MaxOnes hml.out hr.out hfp hall.out (by omega)).mono ?_; rintro e w3 ⟨rfl, rfl⟩
  go_wp2
  go_ret2
  exact ⟨rfl, hb1⟩
end Go.Proofs.Ytpccbmndgdiloaa
/- The laws' own conversions of []impl.Strike: copying, comparing, counting, marking. -/
namespace Go.Proofs.Ytpccbmndgdiloaa
set_option linter.unusedVariables false
set_option linter.unusedSimpArgs false
open Go.ChangeShapes Go.WideShapes Go.ChangeAt Go.RowKit Go.Deep
theorem Try.elStrike : ElemOk Try.prog 75 140 (.agg #[.int .i64 0, .int .i64 0]) 2 16 := ⟨Try.underlying75, by kernel_rfl, rfl, by decide⟩
theorem laws_toStrike (a0 a1 : Int) (w : World) :
    Calls Try.prog 149 #[.agg #[.int .i64 a0, .int .i64 a1]] w fun e w' => e = .returned (.agg #[.int .i64 a0, .int .i64 a1]) ∧ Below w.heap.size w w' := by
  go_in
  go_wp2
  go_returns
  exact ⟨rfl, by (repeat' (first | (with_reducible exact Below.refl _ _) | (with_reducible assumption) | (with_reducible refine below_drewN ?_ _) | (with_reducible refine Below.drew ?_) | (with_reducible refine below_alloc ?_ _) | (with_reducible refine Below.alloc ?_ ?_ _) | (with_reducible refine Below.setCell ?_ ?_ _) | (with_reducible refine below_go ?_ (by with_reducible assumption)) | (with_reducible refine below_then (by with_reducible assumption) ?_ ?_) | go_size))⟩
set_option maxRecDepth 100000 in
theorem laws_toStrikeS (A : Option Addr) (n c : Nat) (l : List (Int × Int)) (w : World) (hn : l.length = n) (h : Recs strikeE 2 w A l) (hz : n ≤ 1048576) :
    Calls Try.prog 62 #[.slice A n c] w fun e w' => ∃ g, e = .returned (.slice (some ⟨g, 0, none⟩) n n) ∧ Owned strikeE 2 140 w' w.heap.size (some ⟨g, 0, none⟩) n n l ∧ Below w.heap.size w w' := by
  subst hn
  have hmk := run_make_rec (e := strikeE) Try.elStrike (0, 0) rfl l.length (by omega) (by decide)
  go_in
  go_wp2
  clear hmk
  go_loopw [4] (fun i wr => ∃ (k : Nat) (m : List (Int × Int)), k ≤ l.length ∧ i = .int .i64 k ∧ Hid (∀ j, j < k → m[j]? = l[j]?) ∧ Owned strikeE 2 140 wr w.heap.size (some ⟨w.heap.size, 0, none⟩) l.length l.length m ∧ Below w.heap.size w wr) (fun i _ => l.length - (intOf i).toNat)
  case atStart => exact ⟨0, _, Nat.zero_le _, rfl, Lib.hid (fun j hj => absurd hj (by omega)), Owned.made (e := strikeE) (s := 2) (fun _ => rfl) w 140 (0, 0) l.length (by omega) (Nat.le_refl _), by (repeat' (first | (with_reducible exact Below.refl _ _) | (with_reducible assumption) | (with_reducible refine below_drewN ?_ _) | (with_reducible refine Below.drew ?_) | (with_reducible refine below_alloc ?_ _) | (with_reducible refine Below.alloc ?_ ?_ _) | (with_reducible refine Below.setCell ?_ ?_ _) | (with_reducible refine below_go ?_ (by with_reducible assumption)) | (with_reducible refine below_then (by with_reducible assumption) ?_ ?_) | go_size))⟩
  case round =>
    obtain ⟨k, m, hk, rfl, HM, ho, hb⟩ := hrel
    by_cases hlt : k < l.length
    · obtain ⟨x, hx⟩ := some_of_lt hlt
      obtain ⟨y, hy⟩ := some_of_lt (l := m) (k := k) (by rw [ho.len]; exact hlt)
      obtain ⟨b1, o1, rfl, hbb, hc0, hc1⟩ := (h.below hb (Nat.le_refl _)).at_2 hx
      have HX := Lib.hid hx
      have HY := Lib.hid hy
      have HO := Lib.hid ho
      clear hx hy ho h
      go_wp2_with fail
      refine (laws_toStrike _ _ _).mono ?_; rintro e w1 ⟨rfl, hb1⟩
      have HO1 := Lib.hid (HO.out.up hb1)
      obtain ⟨g', eg, _, _, hcell, hfz⟩ := HO1.out.at_ (by omega)
      injection eg with eg
      injection eg with eg
      subst eg
      have old0 := hcell k y 0 _ HY.out rfl
      have fz0 := hfz (k * 2 + 0)
      have old1 := hcell k y 1 _ HY.out rfl
      have fz1 := hfz (k * 2 + 1)
      simp only [Nat.add_zero] at old0 fz0
      clear hcell hfz
      go_wp2
      go_roundw
      case rel =>
        refine ⟨k + 1, m.set k x, by omega, by go_num, Lib.hid (upto_set HM.out HX.out (by rw [HO1.out.len]; exact hlt)), ?_, by (repeat' (first | (with_reducible exact Below.refl _ _) | (with_reducible assumption) | (with_reducible refine below_drewN ?_ _) | (with_reducible refine Below.drew ?_) | (with_reducible refine below_alloc ?_ _) | (with_reducible refine Below.alloc ?_ ?_ _) | (with_reducible refine Below.setCell ?_ ?_ _) | (with_reducible refine below_go ?_ (by with_reducible assumption)) | (with_reducible refine below_then (by with_reducible assumption) ?_ ?_) | go_size))⟩
        have p0 := (HO1.out.put (j := 0) (x := (x.1, y.2)) (u := .int .i64 x.1) HY.out (by decide) rfl).1
        have p1 := (p0.put (j := 1) (x := (x.1, x.2)) (u := .int .i64 x.2) (List.getElem?_set_self (by rw [HO1.out.len]; exact hlt)) (by decide) rfl).1
        simp only [List.set_set] at p1
        exact p1
      case measure => simp [intOf]; omega
    · go_wp2
      go_ret
      have e1 : m = l := eq_of_upto (fun j hj => HM.out j hj) (by rw [ho.len]; omega) (by omega)
      subst e1
      exact ⟨_, rfl, ho, hb⟩
theorem laws_eqStrike (a0 a1 b0 b1 : Int) (w : World) :
    Calls Try.prog 153 #[.agg #[.int .i64 a0, .int .i64 a1], .agg #[.int .i64 b0, .int .i64 b1]] w fun e w' => e = .returned (.bool (decide ((a0, a1) = (b0, b1)))) ∧ Below w.heap.size w w' := by
  have E : Hid (∀ p : Bool, p = decide (a0 = b0 ∧ a1 = b1) → p = decide ((a0, a1) = (b0, b1))) := fun p h => by rw [h]; simp
  go_in
  go_wp2
  all_goals go_ret
  all_goals refine ⟨ret_bool (E.out _ ?_), by (repeat' (first | (with_reducible exact Below.refl _ _) | (with_reducible assumption) | (with_reducible refine below_drewN ?_ _) | (with_reducible refine Below.drew ?_) | (with_reducible refine below_alloc ?_ _) | (with_reducible refine Below.alloc ?_ ?_ _) | (with_reducible refine Below.setCell ?_ ?_ _) | (with_reducible refine below_go ?_ (by with_reducible assumption)) | (with_reducible refine below_then (by with_reducible assumption) ?_ ?_) | go_size))⟩
  all_goals simp_all
set_option maxRecDepth 100000 in
theorem laws_eqStrikeS (A C : Option Addr) (n n' c d : Nat) (l m : List (Int × Int)) (w : World) (hn : l.length = n) (hn' : m.length = n') (h : Recs strikeE 2 w A l) (g : Recs strikeE 2 w C m) (hz : n ≤ 16777216) (hz' : n' ≤ 16777216) :
    Calls Try.prog 64 #[.slice A n c, .slice C n' d] w fun e w' => e = .returned (.bool (decide (l = m))) ∧ Below w.heap.size w w' := by
  subst hn hn'
  by_cases hl : l.length = m.length
  · have HL := Lib.hid hl
    rw [← hl]
    clear hl
    go_in
    go_wp2
    go_loopw [5] (fun i wr => ∃ k : Nat, k ≤ l.length ∧ i = .int .i64 k ∧ Hid (∀ j, j < k → l[j]? = m[j]?) ∧ Below w.heap.size w wr) (fun i _ => l.length - (intOf i).toNat)
    case atStart => exact ⟨0, Nat.zero_le _, rfl, Lib.hid (fun j hj => absurd hj (by omega)), Below.refl _ _⟩
    case round =>
      obtain ⟨k, hk, rfl, HT, hb⟩ := hrel
      by_cases hlt : k < l.length
      · obtain ⟨x, hx⟩ := some_of_lt hlt
        obtain ⟨y, hy⟩ := some_of_lt (l := m) (k := k) (by rw [← HL.out]; exact hlt)
        obtain ⟨b1, o1, rfl, _, hcx0, hcx1⟩ := (h.below hb (Nat.le_refl _)).at_2 hx
        obtain ⟨b2, o2, rfl, _, hcy0, hcy1⟩ := (g.below hb (Nat.le_refl _)).at_2 hy
        have HX := Lib.hid hx
        have HY := Lib.hid hy
        clear hx hy h g
        go_wp2
        go_still_tail 8, (by kernel_rfl)
        change wpList _ _ _ _ _ wr.drew
        go_wp2_with fail
        refine (laws_eqStrike _ _ _ _ _).mono ?_; rintro e w1 ⟨rfl, hb1⟩
        by_cases hxy : x = y
        · have hd : decide ((x.1, x.2) = (y.1, y.2)) = true := by rw [hxy]; simp
          rw [hd]
          have HXY := Lib.hid hxy
          clear hxy hd
          go_wp2
          go_roundw
          case rel => exact ⟨k + 1, by omega, by go_num, Lib.hid (upto_succ HT.out (by rw [HX.out, HY.out, HXY.out])), by (repeat' (first | (with_reducible exact Below.refl _ _) | (with_reducible assumption) | (with_reducible refine below_drewN ?_ _) | (with_reducible refine Below.drew ?_) | (with_reducible refine below_alloc ?_ _) | (with_reducible refine Below.alloc ?_ ?_ _) | (with_reducible refine Below.setCell ?_ ?_ _) | (with_reducible refine below_go ?_ (by with_reducible assumption)) | (with_reducible refine below_then (by with_reducible assumption) ?_ ?_) | go_size))⟩
          case measure => simp [intOf]; omega
        · have hd : decide ((x.1, x.2) = (y.1, y.2)) = false := decide_eq_false hxy
          rw [hd]
          have HXY := Lib.hid hxy
          clear hxy hd
          go_wp2
          go_ret
          refine ⟨ret_bool ?_, by (repeat' (first | (with_reducible exact Below.refl _ _) | (with_reducible assumption) | (with_reducible refine below_drewN ?_ _) | (with_reducible refine Below.drew ?_) | (with_reducible refine below_alloc ?_ _) | (with_reducible refine Below.alloc ?_ ?_ _) | (with_reducible refine Below.setCell ?_ ?_ _) | (with_reducible refine below_go ?_ (by with_reducible assumption)) | (with_reducible refine below_then (by with_reducible assumption) ?_ ?_) | go_size))⟩
          have hd : l ≠ m := fun e => by
            have h1 := HX.out
            rw [e, HY.out] at h1
            injection h1 with h1
            exact HXY.out h1.symm
          simp [hd]
      · go_wp2
        go_ret
        refine ⟨ret_bool ?_, hb⟩
        have hd : l = m := eq_of_upto (fun j hj => HT.out j hj) (by omega) (by have := HL.out; omega)
        simp [hd]
  · have hne : ((l.length : Int) != (m.length : Int)) = true := by simp; omega
    have hd : l ≠ m := fun e => hl (by rw [e])
    have HD := Lib.hid hd
    clear hd hl
    go_in
    go_wp2
    go_ret
    refine ⟨ret_bool ?_, by (repeat' (first | (with_reducible exact Below.refl _ _) | (with_reducible assumption) | (with_reducible refine below_drewN ?_ _) | (with_reducible refine Below.drew ?_) | (with_reducible refine below_alloc ?_ _) | (with_reducible refine Below.alloc ?_ ?_ _) | (with_reducible refine Below.setCell ?_ ?_ _) | (with_reducible refine below_go ?_ (by with_reducible assumption)) | (with_reducible refine below_then (by with_reducible assumption) ?_ ?_) | go_size))⟩
    simp [HD.out]
theorem laws_szStrikeS_ok (A : Option Addr) (n c : Nat) (left : Int) (w : World) (h : (n : Int) ≤ left) (h' : left ≤ 1048576) :
    Calls Try.prog 60 #[.slice A n c, .int .i64 left] w fun e w' => e = .returned (.int .i64 (left - n)) ∧ w = w' := by
  go_in
  go_wp2
  go_ret
  exact ⟨rfl, rfl⟩
theorem laws_szStrikeS_no (A : Option Addr) (n c : Nat) (left : Int) (w : World) (h : left < (n : Int)) (h' : 0 ≤ left) (h2 : n ≤ 9223372036854775807) :
    Calls Try.prog 60 #[.slice A n c, .int .i64 left] w fun e w' => e = .returned (.int .i64 (-1)) ∧ w = w' := by
  go_in
  go_wp2
  go_ret
  exact ⟨rfl, rfl⟩
/-- The marks that element j gets. -/
def markStrike (k0 : Int) (j : Nat) : (Int × Int) := (k0 + 2 * (j : Int), k0 + 2 * (j : Int) + 1)
set_option maxRecDepth 100000 in
theorem laws_markStrikeS (A : Option Addr) (n c base : Nat) (l : List (Int × Int)) (k0 : Int) (w : World) (h : Owned strikeE 2 140 w base A n c l) (hbase : base ≤ w.heap.size) (hz : n ≤ 16777216) (hk0 : 0 ≤ k0 ∧ k0 ≤ 1099511627776) :
    Calls Try.prog 65 #[.slice A n c, .int .i64 k0] w fun e w' => e = .returned (.int .i64 (k0 + 2 * (n : Int))) ∧ Owned strikeE 2 140 w' base A n c ((List.range n).map (markStrike k0)) ∧ w.grownBy w' (Value.slice A n c).ownBlock ∧ Below base w w' := by
  go_in
  go_wp2
  go_loopw [5, 1] (fun p q wr => ∃ (i : Nat) (m : List (Int × Int)), i ≤ n ∧ p = .int .i64 i ∧ q = .int .i64 (k0 + 2 * (i : Int)) ∧ Hid (∀ j, j < i → m[j]? = some (markStrike k0 j)) ∧ Owned strikeE 2 140 wr base A n c m ∧ w.grownBy wr (Value.slice A n c).ownBlock) (fun p _ _ => n - (intOf p).toNat)
  case atStart => exact ⟨0, l, Nat.zero_le _, rfl, by simp, Lib.hid (fun j hj => absurd hj (by omega)), h, ⟨rfl, rfl, rfl, Nat.le_refl _, fun _ _ _ => rfl⟩⟩
  case round =>
    obtain ⟨i, m, hi, rfl, rfl, HM, ho, hg⟩ := hrel
    by_cases hlt : i < n
    · obtain ⟨y, hy⟩ := some_of_lt (l := m) (k := i) (by rw [ho.len]; exact hlt)
      obtain ⟨g, rfl, hgb, hgs, hcell, hfz⟩ := ho.at_ (by omega)
      have old0 := hcell i y 0 _ hy rfl
      have fz0 := hfz (i * 2 + 0)
      have old1 := hcell i y 1 _ hy rfl
      have fz1 := hfz (i * 2 + 1)
      simp only [Nat.add_zero] at old0 fz0
      have HY := Lib.hid hy
      have HO := Lib.hid ho
      clear hcell hfz h hy ho
      go_wp2
      go_roundw
      case rel =>
        refine ⟨i + 1, m.set i (markStrike k0 i), by omega, by go_num, by go_num, Lib.hid (upto_mark HM.out (by rw [HO.out.len]; exact hlt)), ?_, ?_⟩
        · have p0 := HO.out.put (j := 0) (x := (k0 + 2 * (i : Int), y.2)) (u := .int .i64 (k0 + 2 * (i : Int))) HY.out (by decide) rfl
          have p1 := p0.1.put (j := 1) (x := (k0 + 2 * (i : Int), k0 + 2 * (i : Int) + 1)) (u := .int .i64 (k0 + 2 * (i : Int) + 1)) (List.getElem?_set_self (by rw [HO.out.len]; exact hlt)) (by decide) rfl
          simp only [List.set_set] at p1
          exact p1.1
        · have p0 := HO.out.put (j := 0) (x := (k0 + 2 * (i : Int), y.2)) (u := .int .i64 (k0 + 2 * (i : Int))) HY.out (by decide) rfl
          have p1 := p0.1.put (j := 1) (x := (k0 + 2 * (i : Int), k0 + 2 * (i : Int) + 1)) (u := .int .i64 (k0 + 2 * (i : Int) + 1)) (List.getElem?_set_self (by rw [HO.out.len]; exact hlt)) (by decide) rfl
          simp only [List.set_set] at p1
          exact grownBy_trans (grownBy_trans hg p0.2) p1.2
      case measure => simp [intOf]; omega
    · go_wp2
      go_ret
      obtain rfl : i = n := by omega
      have e1 : m = (List.range i).map (markStrike k0) := marks_eq HM.out ho.len
      rw [e1] at ho
      exact ⟨rfl, ho, hg, (Below.refl _ _).grown hg hbase fun k hk => (h.blk hk).1⟩
set_option maxRecDepth 100000 in
theorem laws_heldStrikeS (A : Option Addr) (n c : Nat) (k0 : Int) (w : World) (h : Recs strikeE 2 w A ((List.range n).map (markStrike k0))) (hz : n ≤ 16777216) (hk0 : 0 ≤ k0 ∧ k0 ≤ 1099511627776) :
    Calls Try.prog 66 #[.slice A n c, .int .i64 k0] w fun e w' => e = .returned (.int .i64 (k0 + 2 * (n : Int))) ∧ w = w' := by
  go_in
  go_wp2
  go_loop [5, 1] (fun p q => ∃ i : Nat, i ≤ n ∧ p = .int .i64 i ∧ q = .int .i64 (k0 + 2 * (i : Int))) (fun p _ => n - (intOf p).toNat)
  case atStart => exact ⟨0, Nat.zero_le _, rfl, by simp⟩
  case round =>
    obtain ⟨i, hi, rfl, rfl⟩ := hrel
    by_cases hlt : i < n
    · have hx : ((List.range n).map (markStrike k0))[i]? = some (markStrike k0 i) := by simp [hlt]
      obtain ⟨b1, o1, rfl, hbb, hc0, hc1⟩ := h.at_2 hx
      simp only [markStrike] at hc0 hc1
      clear hx h
      go_wp2
      go_round
      case rel => exact ⟨i + 1, by omega, by go_num, by go_num⟩
      case measure => simp [intOf]; omega
    · go_wp2
      go_ret
      obtain rfl : i = n := by omega
      exact ⟨rfl, rfl⟩
end Go.Proofs.Ytpccbmndgdiloaa
/- The walks through the laws' comparisons of lists of strikes, texts and ints, where both are the same list. -/
namespace Go.Proofs.Ytpccbmndgdiloaa
set_option linter.unusedVariables false
set_option linter.unusedSimpArgs false
open Go.ChangeShapes Go.WideShapes Go.ChangeAt Go.RowKit Go.Deep
theorem laws_big3 (A B : Option Addr) (n m c d : Nat) (w : World) (hn : n ≤ 9223372036854775807) (hm : m ≤ 9223372036854775807) :
    Calls Try.prog 8 #[.slice A n c, .slice B m d] w fun e w' => e = .returned (.bool (!decide (n + m ≤ 1048576))) ∧ w = w' := by
  by_cases h1 : n ≤ 1048576
  · have hI : ¬ (1048576 : Int) < (n : Int) := by omega
    have hW : IntKind.i64.wrap (1048576 - (n : Int)) = 1048576 - (n : Int) := wrap_id (by omega)
    go_in
    go_wp2
    go_ret
    refine ⟨ret_bool ?_, rfl⟩
    by_cases h2 : n + m ≤ 1048576
    · simp [h2]; omega
    · simp [h2]; omega
  · have hI : (1048576 : Int) < (n : Int) := by omega
    go_in
    go_wp2
    go_ret
    refine ⟨ret_bool ?_, rfl⟩
    have h2 : ¬ n + m ≤ 1048576 := by omega
    simp [h2]
set_option maxRecDepth 100000 in
theorem laws_sameIntsB {A B : Option Addr} {n c d : Nat} {l : List Int} {w : World} (hn : l.length = n) (h : Ints w A l) (g : Ints w B l) (hz : n ≤ 16777216) :
    Calls Try.prog 45 #[.slice A n c, .slice B n d] w fun e w' => e = .returned (.bool true) ∧ Below w.heap.size w w' := by
  subst hn
  go_in
  go_wp2
  go_loopw [13] (fun i wr => ∃ k : Nat, k ≤ l.length ∧ i = .int .i64 k ∧ Below w.heap.size w wr) (fun i _ => l.length - (intOf i).toNat)
  case atStart => exact ⟨0, Nat.zero_le _, rfl, Below.refl _ _⟩
  case round =>
    obtain ⟨k, hk, rfl, hb⟩ := hrel
    by_cases hlt : k < l.length
    · obtain ⟨b1, o1, x, rfl, _, hx, hcx⟩ := (h.below hb (Nat.le_refl _)).at_int hlt
      obtain ⟨b2, o2, y, rfl, _, hy, hcy⟩ := (g.below hb (Nat.le_refl _)).at_int hlt
      rw [hx] at hy
      injection hy with hy
      subst hy
      clear hx h g
      go_wp2
      go_quiet (fail)
      go_wp2
      go_roundw
      case rel => exact ⟨k + 1, by omega, by go_num, below_drewN hb _⟩
      case measure => simp [intOf]; omega
    · go_wp2
      go_ret
      exact ⟨rfl, hb⟩
set_option maxRecDepth 100000 in
theorem laws_sameTextsB {A B : Option Addr} {n c d : Nat} {l : List ByteArray} {w : World} (hn : l.length = n) (h : Strs w A l) (g : Strs w B l) (hz : n ≤ 16777216) :
    Calls Try.prog 30 #[.slice A n c, .slice B n d] w fun e w' => e = .returned (.bool true) ∧ Below w.heap.size w w' := by
  subst hn
  go_in
  go_wp2
  go_loopw [13] (fun i wr => ∃ k : Nat, k ≤ l.length ∧ i = .int .i64 k ∧ Below w.heap.size w wr) (fun i _ => l.length - (intOf i).toNat)
  case atStart => exact ⟨0, Nat.zero_le _, rfl, Below.refl _ _⟩
  case round =>
    obtain ⟨k, hk, rfl, hb⟩ := hrel
    by_cases hlt : k < l.length
    · obtain ⟨b1, o1, x, rfl, _, hx, hcx⟩ := (h.below hb (Nat.le_refl _)).at_str hlt
      obtain ⟨b2, o2, y, rfl, _, hy, hcy⟩ := (g.below hb (Nat.le_refl _)).at_str hlt
      rw [hx] at hy
      injection hy with hy
      subst hy
      clear hx h g
      go_wp2
      go_quiet (fail)
      go_wp2
      go_roundw
      case rel => exact ⟨k + 1, by omega, by go_num, below_drewN hb _⟩
      case measure => simp [intOf]; omega
    · go_wp2
      go_ret
      exact ⟨rfl, hb⟩
end Go.Proofs.Ytpccbmndgdiloaa
/- The walk through FnExtents: for all bytes the law answers true. -/
namespace Go.Proofs.Ytpccbmndgdiloaa
set_option linter.unusedVariables false
set_option linter.unusedSimpArgs false
open Go.ChangeShapes Go.WideShapes Go.ChangeAt Go.RowKit Go.Deep
theorem i64_small {x : Int} (h : -1000000 ≤ x ∧ x ≤ 1000000) : I64 x := ⟨by omega, by omega⟩
set_option maxHeartbeats 4000000 in
set_option maxRecDepth 100000 in
theorem law_Extents (A0 : Option Addr) (c0 : Nat) (l0 : List Int) (A1 : Option Addr) (c1 : Nat) (l1 : List Int) (w : World) (h0 : Recs byteE 1 w A0 l0) (hm0 : l0.length ≤ 9223372036854775807) (hb0 : ∀ x ∈ l0, 0 ≤ x ∧ x ≤ 255)
    (h1 : Recs byteE 1 w A1 l1) (hm1 : l1.length ≤ 9223372036854775807) (hb1 : ∀ x ∈ l1, 0 ≤ x ∧ x ≤ 255) :
    Calls Try.prog 5 #[.slice A0 l0.length c0, .slice A1 l1.length c1] w fun e w' => e = .returned (.bool true) ∧ Below w.heap.size w w' := by
  by_cases hz : l0.length + l1.length ≤ 1048576
  · have S0 := Lib.hid (show Src w A0 l0.length from ⟨l0, rfl, by omega, hb0, h0⟩)
    have S1 := Lib.hid (show Src w A1 l1.length from ⟨l1, rfl, by omega, hb1, h1⟩)
    clear h0 h1 hb0 hb1
    go_in
    go_wp2_with fail
    refine (laws_big3 _ _ _ _ _ _ _ (by omega) (by omega)).mono ?_; rintro e w' ⟨rfl, rfl⟩
    go_wp2_with fail
    refine (draw_FindExtent S0.out).mono ?_; rintro e w1 ⟨N, A4, n4, c4, l4, s, rfl, e4, k4, z4, R4, s0, s1, m4, hB1⟩
    subst e4
    have HW := hB1
    have HZ4 := Lib.hid z4
    clear z4 hB1
    have HM := Lib.hid (fdL_mem (n := (N : Int)) (s := s) (l := l4))
    have HFE := Lib.hid (fun (h : okFind (N : Int) l4 s = true) (h1 : fdC (N : Int) l4 s = 1) => found_ext h h1)
    obtain ⟨M, hM⟩ : ∃ u, u = fdL (N : Int) l4 s := ⟨_, rfl⟩
    obtain ⟨C, hC⟩ : ∃ u, u = fdC (N : Int) l4 s := ⟨_, rfl⟩
    obtain ⟨K, hK⟩ : ∃ u, u = okFind (N : Int) l4 s := ⟨_, rfl⟩
    rw [← hM] at HM
    rw [← hM, ← hC, ← hK] at HFE
    have GM := Lib.hid hM
    have GC := Lib.hid hC
    have GK := Lib.hid hK
    clear hM hC hK
    go_wp2_with fail
    refine (impl_FindExtent rfl R4 (by omega) HZ4.out).mono ?_; rw [← GM.out, ← GC.out, ← GK.out]; rintro e w2 ⟨A5, c5, rfl, o5, z5, hb2⟩
    have R4 := R4.up hb2
    have HW := below_go HW hb2
    have cp5 := o5.cap.1
    have R5 := o5.recs
    clear hb2 o5
    go_wp2_with fail
    refine (spec_FindExtent rfl R4 (by omega) HZ4.out (i64_small (by omega)) (i64_small (by omega))).mono ?_; rw [← GM.out, ← GC.out, ← GK.out]; rintro e w3 ⟨A6, c6, rfl, o6, _, hb3⟩
    have R4 := R4.up hb3
    have R5 := R5.up hb3
    have HW := below_go HW hb3
    have R6 := o6.recs
    clear hb3 o6 GM GC GK
    go_wp2_with fail
    refine (laws_sameTextsB rfl R5 R6 z5).mono ?_; rintro e w4 ⟨rfl, hb4⟩
    have R4 := R4.up hb4
    have R5 := R5.up hb4
    have R6 := R6.up hb4
    have HW := below_go HW hb4
    clear hb4 R6
    by_cases hh : K = true ∧ C = 1
    · obtain ⟨rfl, rfl⟩ := hh
      obtain ⟨hn34, hin, hway, hgc⟩ := HFE.out rfl rfl
      obtain ⟨n3, n4'⟩ := hn34
      have HEF := Lib.hid (ext_found (n := N) (by omega) (by omega) hway hgc)
      have HIN := Lib.hid hin
      have hM24 : M.length ≤ 24 := HM.out.2
      have HCL := Lib.hid hway.2.1
      have HLN := Lib.hid hway.1
      have HZM := Lib.hid (fun s (hs : s ∈ M) => HZ4.out s (HM.out.1 s hs))
      obtain ⟨F, hF⟩ : ∃ u, u = rowsL (roundsS N) M M.length := ⟨_, rfl⟩
      have hFl : F.length = M.length := by rw [hF, rowsL_len]
      have HFL := Lib.hid hFl
      rw [← hF] at HEF HCL
      clear hway hgc hin HFE hFl hF
      go_wp2_with fail
      refine (impl_RowsFrom (n := (N : Int)) rfl R5 (by omega) HZM.out cp5).mono ?_; rw [HEF.out.1, HEF.out.2.1]; rintro e w5 ⟨A7, c7, rfl, o7, z7, hb5⟩
      have R7 := o7.recs
      have R4 := R4.up hb5
      have R5 := R5.up hb5
      have HW := below_go HW hb5
      clear hb5 o7
      have HZF : Hid (∀ s ∈ F, s.size ≤ 16777216) := Lib.hid (fun s hs => by rw [(HCL.out.2 s hs).2]; omega)
      have hF24 : F.length ≤ 24 := by rw [HFL.out]; exact hM24
      go_wp2_with fail
      refine (impl_IsExtent rfl R7 (by omega) HZF.out).mono ?_; rw [HEF.out.2.2.1, HEF.out.2.2.2]; rintro e w6 ⟨rfl, hb6⟩
      have R4 := R4.up hb6
      have R5 := R5.up hb6
      have R7 := R7.up hb6
      have HW := below_go HW hb6
      clear hb6
      go_wp2_with fail
      refine (impl_IsLevelOnes (n := N) rfl R7 (by omega) (by omega) HCL.out (by rw [HFL.out, HLN.out]) HEF.out.2.2.2).mono ?_; rintro e w7 ⟨rfl, hb7⟩
      have R4 := R4.up hb7
      have R5 := R5.up hb7
      have R7 := R7.up hb7
      have HW := below_go HW hb7
      clear hb7
      have hFM : (F.length : Int) = (M.length : Int) := by rw [HFL.out]
      have H4 := Lib.hid R4
      have H5 := Lib.hid R5
      have HWW := Lib.hid HW
      clear R4 R5 R7 HW
      go_wp2
      clear hFM
      go_loopw [120] (fun i wr => ∃ k : Nat, k ≤ M.length ∧ i = .int .i64 k ∧ w7 = wr) (fun i _ => M.length - (intOf i).toNat)
      case atStart => exact ⟨0, Nat.zero_le _, rfl, rfl⟩
      case round =>
        obtain ⟨k, hk, rfl, rfl⟩ := hrel
        by_cases hlt : k < M.length
        · have hI : (k : Int) < (M.length : Int) := by omega
          obtain ⟨b, o, y, hA5, _, hy, hcy⟩ := H5.out.at_str hlt
          subst hA5
          have hym := HIN.out y (List.mem_of_getElem? hy)
          clear hy
          go_wp2_with fail
          refine (laws_placeIn rfl H4.out (by omega) hym).mono ?_; rintro e w8 ⟨j, rfl, rfl⟩
          have hj : ¬ (j : Int) < 0 := by omega
          go_wp2
          go_roundw
          case rel => exact ⟨k + 1, by omega, by go_num, trivial⟩
          case measure => simp [intOf]; omega
        · have hI : ¬ (k : Int) < (M.length : Int) := by omega
          have HW := HWW.out
          clear HEF HIN HM HCL HLN HZM HFL HZF H4 H5 HWW
          go_wp2_with fail
          refine (draw_IsExtent (S1.out.over HW)).mono ?_; rintro e w20 ⟨A20, m20, c20, L20, rfl, e20, k20, z20, R20, hb20⟩
          have HW := below_go HW hb20
          have HZ20 := Lib.hid z20
          subst e20
          clear hb20 z20
          obtain ⟨x20, hx20⟩ : ∃ u, u = extR L20 := ⟨_, rfl⟩
          have Gx20 := Lib.hid hx20
          clear hx20
          obtain ⟨y20, hy20⟩ : ∃ u, u = smallR L20 := ⟨_, rfl⟩
          have Gy20 := Lib.hid hy20
          clear hy20
          go_wp2_with fail
          refine (impl_IsExtent rfl R20 (by omega) HZ20.out).mono ?_; rw [← Gx20.out, ← Gy20.out]; rintro e w21 ⟨rfl, hb21⟩
          have R20 := R20.up hb21
          have HW := below_go HW hb21
          clear hb21
          go_wp2_with fail
          refine (spec_IsExtent rfl R20 (by omega) HZ20.out).mono ?_; rw [← Gx20.out, ← Gy20.out]; rintro e w22 ⟨rfl, hb22⟩
          have R20 := R20.up hb22
          have HW := below_go HW hb22
          clear hb22 R20 HZ20 Gx20 Gy20
          go_wp2_with fail
          refine (draw_RowsFrom (S1.out.over HW)).mono ?_; rintro e w23 ⟨N23, A23, m23, c23, L23, rfl, e23, k23, q23, z23, R23, n23, hb23⟩
          have HW := below_go HW hb23
          have HZ23 := Lib.hid z23
          subst e23
          clear hb23 z23
          obtain ⟨F23, hF23⟩ : ∃ u, u = fromR (N23 : Int) L23 := ⟨_, rfl⟩
          have GF23 := Lib.hid hF23
          clear hF23
          obtain ⟨y23, hy23⟩ : ∃ u, u = okFrom (N23 : Int) L23 := ⟨_, rfl⟩
          have Gy23 := Lib.hid hy23
          clear hy23
          go_wp2_with fail
          refine (impl_RowsFrom (n := (N23 : Int)) rfl R23 (by omega) HZ23.out q23).mono ?_; rw [← GF23.out, ← Gy23.out]; rintro e w24 ⟨A24, c24, rfl, o24, z24, hb24⟩
          have R23 := R23.up hb24
          have HW := below_go HW hb24
          have R24 := o24.recs
          clear hb24 o24
          go_wp2_with fail
          refine (spec_RowsFrom (n := (N23 : Int)) rfl R23 (by omega) HZ23.out (i64_small (by omega))).mono ?_; rw [← GF23.out, ← Gy23.out]; rintro e w25 ⟨A25, c25, rfl, o25, _, hb25⟩
          have R24 := R24.up hb25
          have HW := below_go HW hb25
          have R25 := o25.recs
          clear hb25 o25 R23 HZ23 GF23 Gy23
          go_wp2_with fail
          refine (laws_sameTextsB rfl R24 R25 z24).mono ?_; rintro e w26 ⟨rfl, hb26⟩
          go_wp2
          go_ret
          exact ⟨rfl, below_go HW hb26⟩
    · have hh2 : (K && (C == 1)) = false := by
        rcases K
        · rfl
        · rw [Bool.true_and, beq_eq_false_iff_ne]; exact fun e => hh ⟨rfl, e⟩
      clear HFE HM R4 R5 hh
      rcases K
      · clear hh2
        go_wp2_with fail
        refine (draw_IsExtent (S1.out.over HW)).mono ?_; rintro e w20 ⟨A20, m20, c20, L20, rfl, e20, k20, z20, R20, hb20⟩
        have HW := below_go HW hb20
        have HZ20 := Lib.hid z20
        subst e20
        clear hb20 z20
        obtain ⟨x20, hx20⟩ : ∃ u, u = extR L20 := ⟨_, rfl⟩
        have Gx20 := Lib.hid hx20
        clear hx20
        obtain ⟨y20, hy20⟩ : ∃ u, u = smallR L20 := ⟨_, rfl⟩
        have Gy20 := Lib.hid hy20
        clear hy20
        go_wp2_with fail
        refine (impl_IsExtent rfl R20 (by omega) HZ20.out).mono ?_; rw [← Gx20.out, ← Gy20.out]; rintro e w21 ⟨rfl, hb21⟩
        have R20 := R20.up hb21
        have HW := below_go HW hb21
        clear hb21
        go_wp2_with fail
        refine (spec_IsExtent rfl R20 (by omega) HZ20.out).mono ?_; rw [← Gx20.out, ← Gy20.out]; rintro e w22 ⟨rfl, hb22⟩
        have R20 := R20.up hb22
        have HW := below_go HW hb22
        clear hb22 R20 HZ20 Gx20 Gy20
        go_wp2_with fail
        refine (draw_RowsFrom (S1.out.over HW)).mono ?_; rintro e w23 ⟨N23, A23, m23, c23, L23, rfl, e23, k23, q23, z23, R23, n23, hb23⟩
        have HW := below_go HW hb23
        have HZ23 := Lib.hid z23
        subst e23
        clear hb23 z23
        obtain ⟨F23, hF23⟩ : ∃ u, u = fromR (N23 : Int) L23 := ⟨_, rfl⟩
        have GF23 := Lib.hid hF23
        clear hF23
        obtain ⟨y23, hy23⟩ : ∃ u, u = okFrom (N23 : Int) L23 := ⟨_, rfl⟩
        have Gy23 := Lib.hid hy23
        clear hy23
        go_wp2_with fail
        refine (impl_RowsFrom (n := (N23 : Int)) rfl R23 (by omega) HZ23.out q23).mono ?_; rw [← GF23.out, ← Gy23.out]; rintro e w24 ⟨A24, c24, rfl, o24, z24, hb24⟩
        have R23 := R23.up hb24
        have HW := below_go HW hb24
        have R24 := o24.recs
        clear hb24 o24
        go_wp2_with fail
        refine (spec_RowsFrom (n := (N23 : Int)) rfl R23 (by omega) HZ23.out (i64_small (by omega))).mono ?_; rw [← GF23.out, ← Gy23.out]; rintro e w25 ⟨A25, c25, rfl, o25, _, hb25⟩
        have R24 := R24.up hb25
        have HW := below_go HW hb25
        have R25 := o25.recs
        clear hb25 o25 R23 HZ23 GF23 Gy23
        go_wp2_with fail
        refine (laws_sameTextsB rfl R24 R25 z24).mono ?_; rintro e w26 ⟨rfl, hb26⟩
        go_wp2
        go_ret
        exact ⟨rfl, below_go HW hb26⟩
      · have hC : ¬ C = 1 := by simpa using hh2
        have hCb : (C == 1) = false := by simpa using hh2
        clear hh2
        go_wp2_with fail
        refine (draw_IsExtent (S1.out.over HW)).mono ?_; rintro e w20 ⟨A20, m20, c20, L20, rfl, e20, k20, z20, R20, hb20⟩
        have HW := below_go HW hb20
        have HZ20 := Lib.hid z20
        subst e20
        clear hb20 z20
        obtain ⟨x20, hx20⟩ : ∃ u, u = extR L20 := ⟨_, rfl⟩
        have Gx20 := Lib.hid hx20
        clear hx20
        obtain ⟨y20, hy20⟩ : ∃ u, u = smallR L20 := ⟨_, rfl⟩
        have Gy20 := Lib.hid hy20
        clear hy20
        go_wp2_with fail
        refine (impl_IsExtent rfl R20 (by omega) HZ20.out).mono ?_; rw [← Gx20.out, ← Gy20.out]; rintro e w21 ⟨rfl, hb21⟩
        have R20 := R20.up hb21
        have HW := below_go HW hb21
        clear hb21
        go_wp2_with fail
        refine (spec_IsExtent rfl R20 (by omega) HZ20.out).mono ?_; rw [← Gx20.out, ← Gy20.out]; rintro e w22 ⟨rfl, hb22⟩
        have R20 := R20.up hb22
        have HW := below_go HW hb22
        clear hb22 R20 HZ20 Gx20 Gy20
        go_wp2_with fail
        refine (draw_RowsFrom (S1.out.over HW)).mono ?_; rintro e w23 ⟨N23, A23, m23, c23, L23, rfl, e23, k23, q23, z23, R23, n23, hb23⟩
        have HW := below_go HW hb23
        have HZ23 := Lib.hid z23
        subst e23
        clear hb23 z23
        obtain ⟨F23, hF23⟩ : ∃ u, u = fromR (N23 : Int) L23 := ⟨_, rfl⟩
        have GF23 := Lib.hid hF23
        clear hF23
        obtain ⟨y23, hy23⟩ : ∃ u, u = okFrom (N23 : Int) L23 := ⟨_, rfl⟩
        have Gy23 := Lib.hid hy23
        clear hy23
        go_wp2_with fail
        refine (impl_RowsFrom (n := (N23 : Int)) rfl R23 (by omega) HZ23.out q23).mono ?_; rw [← GF23.out, ← Gy23.out]; rintro e w24 ⟨A24, c24, rfl, o24, z24, hb24⟩
        have R23 := R23.up hb24
        have HW := below_go HW hb24
        have R24 := o24.recs
        clear hb24 o24
        go_wp2_with fail
        refine (spec_RowsFrom (n := (N23 : Int)) rfl R23 (by omega) HZ23.out (i64_small (by omega))).mono ?_; rw [← GF23.out, ← Gy23.out]; rintro e w25 ⟨A25, c25, rfl, o25, _, hb25⟩
        have R24 := R24.up hb25
        have HW := below_go HW hb25
        have R25 := o25.recs
        clear hb25 o25 R23 HZ23 GF23 Gy23
        go_wp2_with fail
        refine (laws_sameTextsB rfl R24 R25 z24).mono ?_; rintro e w26 ⟨rfl, hb26⟩
        go_wp2
        go_ret
        exact ⟨rfl, below_go HW hb26⟩
  · go_in
    go_wp2_with fail
    refine (laws_big3 _ _ _ _ _ _ _ (by omega) (by omega)).mono ?_; rintro e w' ⟨rfl, rfl⟩
    go_wp2
    go_ret
    exact ⟨rfl, Below.refl _ _⟩
end Go.Proofs.Ytpccbmndgdiloaa
