/- A map to strings or to ints that the call has made, as a plain function of the key. -/
import Derived.Test.YtmdmnjjlpefigaaSet
import Derived.Maps.StringElems
namespace Go.Proofs.Ytmdmnjjlpefigaa
set_option linter.unusedVariables false
set_option linter.unusedSimpArgs false
open Go.ChangeShapes Go.WideShapes Go.ChangeAt Go.RowKit Go.Deep
open Go.Maps (Keyed)

/-- Block b is a map of at most n entries that reads as f. -/
def MapTo {α : Type} (en : α → Value) (li : α → Lit) (z : α) (P : Program) (w : World) (k e : TypeId) (b n : Nat) (f : Value → α) : Prop :=
  ∃ D : DataW Unit, w.ownsMap P k (plainElem P e) b n D ∧ ∀ key kl, keyOf P k key = some kl → D.atKey kl (.lit (li z)) = .lit (li (f key))
section
variable {α : Type} {en : α → Value} {li : α → Lit} {z : α} {P : Program} {w w' : World} {k e : TypeId} {b n : Nat} {f : Value → α}
theorem MapTo.made (en : α → Value) (li : α → Lit) (z : α) (P : Program) (w : World) (k e : TypeId) : MapTo en li z P (w.alloc (.map #[] 0)) k e w.heap.size 0 (fun _ => z) :=
  ⟨.map [], World.ownsMap_made w P k _, fun key kl _ => rfl⟩
theorem MapTo.lt (h : MapTo en li z P w k e b n f) : b < w.heap.size := by
  obtain ⟨D, h1, _⟩ := h
  exact h1.lt
theorem MapTo.kept {row : Option Nat} (h : MapTo en li z P w k e b n f) (hg : w.grownBy w' row) (hne : some b ≠ row) : MapTo en li z P w' k e b n f := by
  obtain ⟨D, h1, h2⟩ := h
  exact ⟨D, h1.kept hg hne, h2⟩
theorem MapTo.up (h : MapTo en li z P w k e b n f) (hb : Below w.heap.size w w') : MapTo en li z P w' k e b n f := h.kept (grown_of_below hb) (by simp)
theorem MapTo.alloc (h : MapTo en li z P w k e b n f) (o : Obj) : MapTo en li z P (w.alloc o) k e b n f := h.up ((Below.refl _ _).alloc (Nat.le_refl _) o)
theorem MapTo.drew (h : MapTo en li z P w k e b n f) : MapTo en li z P w.drew k e b n f := h.up (Below.refl _ _).drew
theorem MapTo.look {t : TypeId} (h : MapTo en li z P w k e b n f) (K : Keyed P k) (ht : P.underlying t = some (.map k e)) (hz : (zeroValue e).run P w = .ok (en z) w) (hzd : plainElem (H := Unit) P e (en z) = some (.lit (li z), [])) (hin : ∀ v x ps, plainElem (H := Unit) P e v = some (.lit (li x), ps) → v = en x)
    {key : Value} {kl : Lit} (hkey : keyOf P k key = some kl) : (Instr.lookup t (.map (some b)) key false).run P w = .ok (en (f key)) w := by
  obtain ⟨D, h1, h2⟩ := h
  obtain ⟨v, ps, hrun, hv⟩ := h1.lookup K ht hz hzd hkey
  rw [h2 key kl hkey] at hv
  rw [hrun, hin _ _ _ hv]
end
theorem MapTo.put {α : Type} {en : α → Value} {li : α → Lit} {z : α} {P : Program} {W : World} {t k e : TypeId} (K : Keyed P k) (ht : P.underlying t = some (.map k e)) {b n : Nat} {f : Value → α} (h : MapTo en li z P W k e b n f) (hn : n ≤ 16777216) {key : Value} {x : α}
    {kl : Lit} (hkey : keyOf P k key = some kl) (hpe : plainElem (H := Unit) P e (en x) = some (.lit (li x), [])) : ∃ w', (Instr.mapUpdate t (.map (some b)) key (en x)).run P W = .ok () w' ∧ (∀ g : Value → α, g key = x → (∀ q, q ≠ key → g q = f q) → MapTo en li z P w' k e b (n + 1) g) ∧ W.grownBy w' (some b) := by
  obtain ⟨D, h1, h2⟩ := h
  obtain ⟨w', hrun, hown, hg⟩ := h1.update K ht (by unfold maxLen; omega) hkey hpe
  refine ⟨w', hrun, fun g g1 g2 => ⟨_, hown, fun key' kl' hk' => ?_⟩, hg⟩
  by_cases ek : kl' = kl
  · subst ek
    have e1 : key' = key := K.inj hk' hkey
    subst e1
    rw [Maps.atKey_put_same h1.isMap (K.key hkey), g1]
  · have e1 : key' ≠ key := fun e2 => ek (by rw [e2, hkey] at hk'; injection hk' with hk'; exact hk'.symm)
    rw [Maps.atKey_put_other ek, g2 _ e1]
    exact h2 key' kl' hk'
theorem wp_map_put {α : Type} {en : α → Value} {li : α → Lit} {z : α} {P : Program} {o : Oper} {a : Act} {K' : Act → World → Prop} {Q : Exit → Act → World → Prop} {W : World} (M X V : Operand) (t : TypeId) (hop : o.op = Op.mapUpdate t M X V)
    {k e : TypeId} (K : Keyed P k) (ht : P.underlying t = some (.map k e)) {b n : Nat} {f : Value → α} (hm : a.eval M = .map (some b)) (h : MapTo en li z P W k e b n f) (hn : n ≤ 16777216) {key : Value} (hx : a.eval X = key) {x : α} (hv : a.eval V = en x)
    {kl : Lit} (hkey : keyOf P k key = some kl) (hpe : plainElem (H := Unit) P e (en x) = some (.lit (li x), [])) (hK : ∀ w', (∀ g : Value → α, g key = x → (∀ q, q ≠ key → g q = f q) → MapTo en li z P w' k e b (n + 1) g) → W.grownBy w' (some b) → K' (a.put o.dst undef) w') : o.wp P a W K' Q := by
  obtain ⟨w', hrun, r1, r2⟩ := h.put K ht hn hkey hpe
  unfold Oper.wp
  simp [execOp, hop, hm, hx, hv, hrun, Result.andThen]
  exact hK w' r1 r2
theorem wpList_map_put {α : Type} {en : α → Value} {li : α → Lit} {z : α} {P : Program} {ops : Array Oper} {rest : List Oper} {o : Oper} {a : Act} {Q : Exit → Act → World → Prop} {W : World} (hgd : o.guard = none) (M X V : Operand) (t : TypeId) (hop : o.op = Op.mapUpdate t M X V)
    {k e : TypeId} (K : Keyed P k) (ht : P.underlying t = some (.map k e)) {b n : Nat} {f : Value → α} (hm : a.eval M = .map (some b)) (h : MapTo en li z P W k e b n f) (hn : n ≤ 16777216) {key : Value} (hx : a.eval X = key) {x : α} (hv : a.eval V = en x)
    {kl : Lit} (hkey : keyOf P k key = some kl) (hpe : plainElem (H := Unit) P e (en x) = some (.lit (li x), [])) (hK : ∀ w', (∀ g : Value → α, g key = x → (∀ q, q ≠ key → g q = f q) → MapTo en li z P w' k e b (n + 1) g) → W.grownBy w' (some b) → wpList P ops Q rest (a.put o.dst undef) w') : wpList P ops Q (o :: rest) a W := by
  refine wpList_plain hgd fun K' hK' => wp_map_put M X V t hop K ht hm h hn hx hv hkey hpe fun w' r1 r2 => hK' _ _ (hK w' r1 r2)
theorem step_map_put {α : Type} {en : α → Value} {li : α → Lit} {z : α} {P : Program} {ops : Array Oper} {o : Oper} {a : Act} {K' : Act → World → Prop} {Q : Exit → Act → World → Prop} {E' : Prop} {W : World} (hgd : o.guard = none) (M X V : Operand) (t : TypeId) (hop : o.op = Op.mapUpdate t M X V)
    {k e : TypeId} (K : Keyed P k) (ht : P.underlying t = some (.map k e)) {b n : Nat} {f : Value → α} (hm : a.eval M = .map (some b)) (h : MapTo en li z P W k e b n f) (hn : n ≤ 16777216) {key : Value} (hx : a.eval X = key) {x : α} (hv : a.eval V = en x)
    {kl : Lit} (hkey : keyOf P k key = some kl) (hpe : plainElem (H := Unit) P e (en x) = some (.lit (li x), [])) (hK : ∀ w', (∀ g : Value → α, g key = x → (∀ q, q ≠ key → g q = f q) → MapTo en li z P w' k e b (n + 1) g) → W.grownBy w' (some b) → K' (a.put o.dst undef) w') :
    if Region.wanted o (yielded ops a.tmps) = true then Oper.wp P o a W K' Q else E' := by
  have hw : Region.wanted o (yielded ops a.tmps) = true := by simp [Region.wanted, hgd]
  rw [if_pos hw]
  exact wp_map_put M X V t hop K ht hm h hn hx hv hkey hpe hK
theorem wp_map_ins {α : Type} {en : α → Value} {li : α → Lit} {z : α} {P : Program} {o : Oper} {a : Act} {K' : Act → World → Prop} {Q : Exit → Act → World → Prop} {W : World} (M X V : Operand) (t : TypeId) (hop : o.op = Op.insert t M X V)
    {k e : TypeId} (K : Keyed P k) (ht : P.underlying t = some (.map k e)) {b n : Nat} {f : Value → α} (hm : a.eval M = .map (some b)) (h : MapTo en li z P W k e b n f) (hn : n ≤ 16777216) {key : Value} (hx : a.eval X = key) {x : α} (hv : a.eval V = en x)
    {kl : Lit} (hkey : keyOf P k key = some kl) (hpe : plainElem (H := Unit) P e (en x) = some (.lit (li x), [])) (hK : ∀ w', (∀ g : Value → α, g key = x → (∀ q, q ≠ key → g q = f q) → MapTo en li z P w' k e b (n + 1) g) → W.grownBy w' (some b) → K' (a.put o.dst undef) w') : o.wp P a W K' Q := by
  obtain ⟨w', hrun, r1, r2⟩ := h.put K ht hn hkey hpe
  unfold Oper.wp
  simp [execOp, hop, hm, hx, hv, hrun, Result.andThen]
  exact hK w' r1 r2
theorem step_map_ins {α : Type} {en : α → Value} {li : α → Lit} {z : α} {P : Program} {ops : Array Oper} {o : Oper} {a : Act} {K' : Act → World → Prop} {Q : Exit → Act → World → Prop} {E' : Prop} {W : World} (hgd : o.guard = none) (M X V : Operand) (t : TypeId) (hop : o.op = Op.insert t M X V)
    {k e : TypeId} (K : Keyed P k) (ht : P.underlying t = some (.map k e)) {b n : Nat} {f : Value → α} (hm : a.eval M = .map (some b)) (h : MapTo en li z P W k e b n f) (hn : n ≤ 16777216) {key : Value} (hx : a.eval X = key) {x : α} (hv : a.eval V = en x)
    {kl : Lit} (hkey : keyOf P k key = some kl) (hpe : plainElem (H := Unit) P e (en x) = some (.lit (li x), [])) (hK : ∀ w', (∀ g : Value → α, g key = x → (∀ q, q ≠ key → g q = f q) → MapTo en li z P w' k e b (n + 1) g) → W.grownBy w' (some b) → K' (a.put o.dst undef) w') :
    if Region.wanted o (yielded ops a.tmps) = true then Oper.wp P o a W K' Q else E' := by
  have hw : Region.wanted o (yielded ops a.tmps) = true := by simp [Region.wanted, hgd]
  rw [if_pos hw]
  exact wp_map_ins M X V t hop K ht hm h hn hx hv hkey hpe hK
/-- The bound on a map's size is the length of what it reads as. -/
theorem ownsMap_tight {H : Type} {P : Program} {w : World} {k : TypeId} {R : Value → Option (DataW H × List MemPlace)} {b n m : Nat} {l : List (Lit × DataW H)} (h : w.ownsMap P k R b n (.map l)) (hm : l.length ≤ m) : w.ownsMap P k R b m (.map l) := by
  obtain ⟨es, clock, hb, F, hs, hD⟩ := h
  refine ⟨es, clock, hb, F, ?_, hD⟩
  injection hD with hD
  have e1 := congrArg List.length hD
  rw [length_sorted] at e1
  simp at e1
  omega
/-- The world behind 'm[key] = v'. -/
def putW (P : Program) (t : TypeId) (b : Nat) (key v : Value) (u : World) : World :=
  match (Instr.mapUpdate t (.map (some b)) key v).run P u with
  | .ok _ w' => w'
  | _ => u
theorem putW_eq {P : Program} {t : TypeId} {b : Nat} {key v : Value} {u w' : World} (h : (Instr.mapUpdate t (.map (some b)) key v).run P u = .ok () w') : putW P t b key v u = w' := by
  rw [putW, h]
/-! strings -/
def sLi (s : ByteArray) : Lit := .string s.data.toList
theorem ba_ext {s t : ByteArray} (h : s.data.toList = t.data.toList) : s = t := by
  cases s; cases t
  simp only [ByteArray.mk.injEq]
  exact Array.ext' h
theorem sLi_pe {P : Program} {e : TypeId} (he : P.underlying e = some .string) {s : ByteArray} (hs : s.size ≤ 16777216) : plainElem (H := Unit) P e (.string s) = some (.lit (sLi s), []) := plainElem_string he (by unfold maxLen; omega)
theorem sLi_in {P : Program} {e : TypeId} (he : P.underlying e = some .string) (v : Value) (x : ByteArray) (ps : List MemPlace) (h : plainElem (H := Unit) P e v = some (.lit (sLi x), ps)) : v = .string x := by
  obtain ⟨s, rfl, hz, _⟩ := plainElem_string_inv he h
  simp only [Prod.mk.injEq, DataW.lit.injEq, sLi, Lit.string.injEq] at hz
  rw [ba_ext hz.1]
/-! ints -/
theorem lit_i64 {x : Int} (h : I64 x) : (Lit.int .i64 x).wf = true := by
  simp only [Lit.wf, Bool.and_eq_true, decide_eq_true_eq]
  exact h
def iLi (i : Int) : Lit := .int .i64 i
theorem iLi_pe {P : Program} {e : TypeId} (he : P.underlying e = some (.int .i64)) {i : Int} (hi : I64 i) : plainElem (H := Unit) P e (.int .i64 i) = some (.lit (iLi i), []) := plainElem_int he (lit_i64 hi)
theorem iLi_in {P : Program} {e : TypeId} (he : P.underlying e = some (.int .i64)) (v : Value) (x : Int) (ps : List MemPlace) (h : plainElem (H := Unit) P e v = some (.lit (iLi x), ps)) : v = .int .i64 x := by
  obtain ⟨s, rfl, hz, _⟩ := plainElem_int_inv he h
  simp only [Prod.mk.injEq, DataW.lit.injEq, iLi, Lit.int.injEq] at hz
  rw [hz.1.2]
end Go.Proofs.Ytmdmnjjlpefigaa
