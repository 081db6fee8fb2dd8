/- Appending many records at once, from wherever they are read; rows of rows. -/
import Derived.Test.YtoheahbkopbmhaaDoorTab
import Derived.Test.YtoheahbkopbmhaaDoorApp
import Derived.Maps.AppendAt
import Derived.Deep.AppendLies
namespace Go.Proofs.YtoheahbkopbmhaaDoor
set_option linter.unusedVariables false
set_option linter.unusedSimpArgs false
open Go.ChangeShapes Go.WideShapes Go.ChangeAt Go.RowKit Go.Deep
theorem flatMap_nil_of {α : Type} {e : α → List Value} {s : Nat} {l : List α} (h : l.length = 0) : l.flatMap e = [] := by
  rw [List.length_eq_zero_iff] at h
  subst h; rfl
theorem run_append_recs {P : Program} {α : Type} {e : α → List Value} {s bytes : Nat} {t E : TypeId} {z : Value} (he : ElemOk P t E z s bytes) (h1 : ∀ x, ∀ u ∈ e x, u.oneCell' = true) {W : World} {base : Nat} {A : Option Addr} {n c : Nat} {l : List α} (hown : Owned e s E W base A n c l)
    {B : Option Addr} {m d : Nat} {l2 : List α} (hr : Recs e s W B l2) (hm : l2.length = m) (hn : n + m ≤ 16777216) (hby : bytes ≤ 4096) (hbase : base ≤ W.heap.size) (ty : TypeId) :
    ∃ A' c' w', (Builtin.append_ #[t, t] ty #[.slice A n c, .slice B m d]).run P W = .ok (.slice A' (n + m) c') w' ∧ Owned e s E w' base A' (n + m) c' (l ++ l2) ∧ W.grownBy w' (Value.slice A n c).ownBlock ∧
      (∀ k, (Value.slice A' (n + m) c').ownBlock = some k → (Value.slice A n c).ownBlock = some k ∨ W.heap.size ≤ k) := by
  obtain ⟨i0, hi, hz0, hz1, hz2⟩ := info_parts he.info
  subst hm
  rcases B with _ | ad
  · have hm : l2.length = 0 := by
      rcases Nat.eq_zero_or_pos l2.length with h | h
      · exact h
      · obtain ⟨b, o, e1, _⟩ := hr.2.2 h
        cases e1
    have e2 : l2 = [] := List.eq_nil_of_length_eq_zero hm
    subst e2
    refine ⟨A, c, W, ?_, by simpa using hown, World.grownBy.refl W _, fun k hk => .inl hk⟩
    rcases hown.2.2.2 with ⟨hv, h0⟩ | ⟨g, cap, cur, hv, _, _, hnc, _⟩
    · injection hv with a1 a2 a3
      subst a1 a2 a3
      simp [Builtin.append_, run_underlying he.under, sizeOf, typeInfo, hi, Builtin.lenOf, Builtin.firstCells]
    · injection hv with a1 a2 a3
      subst a1 a3
      simp [Builtin.append_, run_underlying he.under, sizeOf, typeInfo, hi, Builtin.lenOf, Builtin.firstCells, hnc, storeCells]
  · have hcells : ∀ j u, (l2.flatMap e)[j]? = some u → W.cell? (ad.add j) = some u := by
      intro j u hu
      rcases Nat.eq_zero_or_pos l2.length with h0 | h0
      · rw [flatMap_nil_of (e := e) (s := s) h0] at hu; simp at hu
      · obtain ⟨b, o, e1, _, hc⟩ := hr.2.2 h0
        injection e1 with e1
        subst e1
        rw [Go.WideShapes.add_plain]
        exact hc j u hu
    obtain ⟨v', w', hrun, h2, h3, _, h5⟩ := run_append_own_at (P := P) W base t ty E i0 z s bytes he.under hi hz0 hz1 hz2 he.zs he.pos _ n _ hown.2.2 ad l2.length d (l2.flatMap e) (flatMap_len hown.1 l2) hcells
      (fun u hu => by obtain ⟨x, _, hx⟩ := List.mem_flatMap.1 hu; exact h1 x u hx) (by unfold maxLen; omega) (Nat.le_trans (Nat.mul_le_mul hn hby) (by decide)) hbase
    obtain ⟨A', c', rfl, ho⟩ := Owned.of_row (l := l ++ l2) hown.1 h2 (by simp) (by rw [List.length_append, hown.2.1])
    refine ⟨A', c', w', hrun, ho, h3, fun k hk => ?_⟩
    rcases h5 with h5 | h5
    · exact .inl (by rw [← h5]; exact hk)
    · right
      rw [h5] at hk
      injection hk with hk
      omega
theorem wp_append_recs {P : Program} {α : Type} {e : α → List Value} {s bytes : Nat} {t E : TypeId} {z : Value} (he : ElemOk P t E z s bytes) (h1 : ∀ x, ∀ u ∈ e x, u.oneCell' = true) {o : Oper} {a : Act} {K : Act → World → Prop} {Q : Exit → Act → World → Prop} {W : World}
    (S X : Operand) (ho : o.op = .call { callee := .builtin .append, args := #[S, X], argTypes := #[t, t] })
    {base : Nat} {A : Option Addr} {n c : Nat} {l : List α} (hs : a.eval S = .slice A n c) (hown : Owned e s E W base A n c l) {B : Option Addr} {m d : Nat} {l2 : List α} (hx : a.eval X = .slice B m d) (hr : Recs e s W B l2) (hm : l2.length = m)
    (hn : n + m ≤ 16777216) (hby : bytes ≤ 4096) (hbase : base ≤ W.heap.size)
    (h : ∀ A' c' w', Owned e s E w' base A' (n + m) c' (l ++ l2) → W.grownBy w' (Value.slice A n c).ownBlock → (∀ k, (Value.slice A' (n + m) c').ownBlock = some k → (Value.slice A n c).ownBlock = some k ∨ W.heap.size ≤ k) → K (a.put o.dst (.slice A' (n + m) c')) w') : o.wp P a W K Q := by
  obtain ⟨A', c', w', hrun, h2, h3, h4⟩ := run_append_recs he h1 hown hr hm hn hby hbase o.type
  unfold Oper.wp execOp
  simp only [ho, resolve, invoke, builtin, Sem.run_bind, Sem.run_pure, Result.andThen_ok, List.map_toArray, List.map_cons, List.map_nil, hs, hx]
  rw [hrun]
  exact h A' c' w' h2 h3 h4
/-- 'append(xs, ys...)' onto a row of the call's own. -/
theorem wpList_append_recs {P : Program} {α : Type} {e : α → List Value} {s bytes : Nat} {t E : TypeId} {z : Value} (he : ElemOk P t E z s bytes) (h1 : ∀ x, ∀ u ∈ e x, u.oneCell' = true) {ops : Array Oper} {rest : List Oper} {o : Oper} {a : Act} {Q : Exit → Act → World → Prop} {W : World}
    (hgd : o.guard = none) (S X : Operand) (ho : o.op = .call { callee := .builtin .append, args := #[S, X], argTypes := #[t, t] })
    {base : Nat} {A : Option Addr} {n c : Nat} {l : List α} (hs : a.eval S = .slice A n c) (hown : Owned e s E W base A n c l) {B : Option Addr} {m d : Nat} {l2 : List α} (hx : a.eval X = .slice B m d) (hr : Recs e s W B l2) (hm : l2.length = m)
    (hn : n + m ≤ 16777216) (hby : bytes ≤ 4096) (hbase : base ≤ W.heap.size)
    (h : ∀ A' c' w', Owned e s E w' base A' (n + m) c' (l ++ l2) → W.grownBy w' (Value.slice A n c).ownBlock → (∀ k, (Value.slice A' (n + m) c').ownBlock = some k → (Value.slice A n c).ownBlock = some k ∨ W.heap.size ≤ k) → wpList P ops Q rest (a.put o.dst (.slice A' (n + m) c')) w') :
    wpList P ops Q (o :: rest) a W :=
  wpList_plain hgd fun _ hK => wp_append_recs he h1 S X ho hs hown hx hr hm hn hby hbase fun A' c' w' h2 h3 h4 => hK _ _ (h A' c' w' h2 h3 h4)
theorem step_append_recs {P : Program} {α : Type} {e : α → List Value} {s bytes : Nat} {t E : TypeId} {z : Value} (he : ElemOk P t E z s bytes) (h1 : ∀ x, ∀ u ∈ e x, u.oneCell' = true) {ops : Array Oper} {o : Oper} {a : Act} {K : Act → World → Prop} {Q : Exit → Act → World → Prop} {E' : Prop} {W : World}
    (hgd : o.guard = none) (S X : Operand) (ho : o.op = .call { callee := .builtin .append, args := #[S, X], argTypes := #[t, t] })
    {base : Nat} {A : Option Addr} {n c : Nat} {l : List α} (hs : a.eval S = .slice A n c) (hown : Owned e s E W base A n c l) {B : Option Addr} {m d : Nat} {l2 : List α} (hx : a.eval X = .slice B m d) (hr : Recs e s W B l2) (hm : l2.length = m)
    (hn : n + m ≤ 16777216) (hby : bytes ≤ 4096) (hbase : base ≤ W.heap.size)
    (h : ∀ A' c' w', Owned e s E w' base A' (n + m) c' (l ++ l2) → W.grownBy w' (Value.slice A n c).ownBlock → (∀ k, (Value.slice A' (n + m) c').ownBlock = some k → (Value.slice A n c).ownBlock = some k ∨ W.heap.size ≤ k) → K (a.put o.dst (.slice A' (n + m) c')) w') :
    if Region.wanted o (yielded ops a.tmps) = true then Oper.wp P o a W K Q else E' := by
  have hw : Region.wanted o (yielded ops a.tmps) = true := by simp [Region.wanted, hgd]
  rw [if_pos hw]
  exact wp_append_recs he h1 S X ho hs hown hx hr hm hn hby hbase h
theorem grown_base {w w' : World} {v : Value} {base : Nat} (hg : w.grownBy w' v.ownBlock) (hb : base ≤ w.heap.size) (hr : ∀ k, v.ownBlock = some k → base ≤ k) : Below base w w' := (Below.refl _ _).grown hg hb fun k hk => hr k hk
theorem lit_app {w w' : World} {o : Obj} {n c : Nat} (hg : (w.alloc o).grownBy w' (Value.slice (some ⟨w.heap.size, 0, none⟩) n c).ownBlock) : Below w.heap.size w w' :=
  ((Below.refl _ _).alloc (Nat.le_refl _) _).trans (grown_base hg (by simp) (fun k hk => by injection hk with hk; dsimp only at hk; omega))
theorem Recs.alloc {α : Type} {e : α → List Value} {s : Nat} {w : World} {A : Option Addr} {l : List α} (h : Recs e s w A l) (o : Obj) : Recs e s (w.alloc o) A l := h.up ((Below.refl _ _).alloc (Nat.le_refl _) o)
/-- Two rows of different element types lie in different blocks. -/
theorem Owned.ne {α β : Type} {e : α → List Value} {s : Nat} {E : TypeId} {e' : β → List Value} {s' : Nat} {E' : TypeId} {w : World} {base base' : Nat} {A B : Option Addr} {n c m d : Nat} {l : List α} {l' : List β}
    (h : Owned e s E w base A n c l) (h' : Owned e' s' E' w base' B m d l') (hE : E ≠ E') : ∀ k, (Value.slice A n c).ownBlock = some k → (Value.slice B m d).ownBlock ≠ some k := by
  intro k hk hk'
  rcases h.2.2.2 with ⟨hv, _⟩ | ⟨g, cap, cur, hv, _, hh, _⟩
  · rw [hv] at hk; cases hk
  · rcases h'.2.2.2 with ⟨hv', _⟩ | ⟨g', cap', cur', hv', _, hh', _⟩
    · rw [hv'] at hk'; cases hk'
    · rw [hv] at hk; rw [hv'] at hk'
      injection hk with hk; injection hk' with hk'
      dsimp only at hk hk'
      subst hk; subst hk'
      rw [hh] at hh'
      injection hh' with hh'
      injection hh' with _ e2 _
      exact hE e2
/-- A list of rows of the call's own: the heads' row, and each head's row. -/
structure LT {α : Type} (e : α → List Value) (s : Nat) (E F : TypeId) (vs : List Hd) (w : World) (base : Nat) (A : Option Addr) (n c : Nat) (T : List (List α)) : Prop where
  len : T.length = n
  top : Owned slcE 1 F w base A n c vs
  row : ∀ (k : Nat) (v : Hd) (r : List α), vs[k]? = some v → T[k]? = some r → Owned e s E w base v.1 v.2.1 v.2.2 r
section
variable {α : Type} {e : α → List Value} {s : Nat} {E F : TypeId} {vs us : List Hd} {w w' : World} {base : Nat} {A : Option Addr} {n c : Nat} {T : List (List α)}
theorem LT.nil (w : World) (base : Nat) : LT e s E F [] w base none 0 0 ([] : List (List α)) := ⟨rfl, Owned.nil slcE_len _ _ _, fun k v r hv _ => by simp at hv⟩
theorem LT.up (h : LT e s E F vs w base A n c T) (hb : Below w.heap.size w w') : LT e s E F vs w' base A n c T := ⟨h.len, h.top.up hb, fun k v r hv hr => (h.row k v r hv hr).up hb⟩
theorem LT.base_le {base' : Nat} (h : LT e s E F vs w base A n c T) (hb : base' ≤ base) : LT e s E F vs w base' A n c T := ⟨h.len, h.top.base_le hb, fun k v r hv hr => (h.row k v r hv hr).base_le hb⟩
theorem LT.alloc (h : LT e s E F vs w base A n c T) (o : Obj) : LT e s E F vs (w.alloc o) base A n c T := h.up ((Below.refl _ _).alloc (Nat.le_refl _) o)
theorem LT.vlen (h : LT e s E F vs w base A n c T) : vs.length = T.length := by rw [h.top.len, h.len]
/-- One head is appended. -/
theorem LT.add {A' : Option Addr} {c' : Nat} {v : Hd} {r : List α} (h : LT e s E F vs w base A n c T) (hEF : E ≠ F) (hr : Owned e s E w base v.1 v.2.1 v.2.2 r) (ho : Owned slcE 1 F w' base A' (n + 1) c' (vs ++ [v])) (hg : w.grownBy w' (Value.slice A n c).ownBlock) :
    LT e s E F (vs ++ [v]) w' base A' (n + 1) c' (T ++ [r]) := by
  have hne : ∀ {v : Hd} {r : List α}, Owned e s E w base v.1 v.2.1 v.2.2 r → Owned e s E w' base v.1 v.2.1 v.2.2 r := fun hq => hq.kept hg fun k hk e2 => hq.ne h.top hEF k hk e2
  refine ⟨by rw [List.length_append, h.len]; rfl, ho, fun k u q hu hq => ?_⟩
  rw [List.getElem?_append] at hu hq
  by_cases hk : k < vs.length
  · rw [if_pos hk] at hu
    rw [if_pos (by rw [← h.vlen]; exact hk)] at hq
    exact hne (h.row k u q hu hq)
  · rw [if_neg hk] at hu
    rw [if_neg (by rw [← h.vlen]; exact hk)] at hq
    have hk0 : k - vs.length = 0 := by
      have := (List.getElem?_eq_some_iff.1 hu).1
      simp at this; omega
    rw [hk0] at hu
    rw [← h.vlen, hk0] at hq
    simp at hu hq
    subst hu hq
    exact hne hr
/-- The heads of another list are appended. -/
theorem LT.join {A' B : Option Addr} {c' m d : Nat} {T' : List (List α)} (h : LT e s E F vs w base A n c T) (hEF : E ≠ F) (h' : LT e s E F us w base B m d T') (ho : Owned slcE 1 F w' base A' (n + m) c' (vs ++ us)) (hg : w.grownBy w' (Value.slice A n c).ownBlock) :
    LT e s E F (vs ++ us) w' base A' (n + m) c' (T ++ T') := by
  have hne : ∀ {v : Hd} {r : List α}, Owned e s E w base v.1 v.2.1 v.2.2 r → Owned e s E w' base v.1 v.2.1 v.2.2 r := fun hq => hq.kept hg fun k hk e2 => hq.ne h.top hEF k hk e2
  refine ⟨by rw [List.length_append, h.len, h'.len], ho, fun k u q hu hq => ?_⟩
  rw [List.getElem?_append] at hu hq
  by_cases hk : k < vs.length
  · rw [if_pos hk] at hu
    rw [if_pos (by rw [← h.vlen]; exact hk)] at hq
    exact hne (h.row k u q hu hq)
  · rw [if_neg hk] at hu
    rw [if_neg (by rw [← h.vlen]; exact hk)] at hq
    rw [← h.vlen] at hq
    exact hne (h'.row _ u q hu hq)
/-- Row k, as it is read. -/
theorem LT.at_ (h : LT e s E F vs w base A n c T) {k : Nat} (hk : k < n) : ∃ b off v r, A = some ⟨b, off, none⟩ ∧ b < w.heap.size ∧ T[k]? = some r ∧ vs[k]? = some v ∧ w.cell? ⟨b, off + k, none⟩ = some (.slice v.1 r.length v.2.2) ∧ Owned e s E w base v.1 r.length v.2.2 r := by
  obtain ⟨b, off, v, hA, hb, hv, hc⟩ := h.top.recs.at_slc (k := k) (by rw [h.top.len]; exact hk)
  obtain ⟨r, hr⟩ := some_of_lt (l := T) (k := k) (by rw [h.len]; exact hk)
  have ho := h.row k v r hv hr
  have hl := ho.len
  rw [← hl] at ho hc
  exact ⟨b, off, v, r, hA, hb, hr, hv, hc, ho⟩
end
end Go.Proofs.YtoheahbkopbmhaaDoor
