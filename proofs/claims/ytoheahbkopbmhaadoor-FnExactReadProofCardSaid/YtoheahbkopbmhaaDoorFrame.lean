/- The frame of a law's row: what comes in is opened into plain words; behind the call each argument reads as it did, because nothing that was there has turned. -/
import Derived.Test.YtoheahbkopbmhaaDoorRows
import Derived.Test.YtoheahbkopbmhaaDoorBase
import Derived.Lib.SmallJoins
import Derived.SliceStrings
import Derived.JoinedCond
import Derived.SizedLaws
namespace Go.Proofs.YtoheahbkopbmhaaDoor
set_option linter.unusedVariables false
set_option linter.unusedSimpArgs false
open Go.ChangeShapes Go.WideShapes Go.ChangeAt Go.RowKit Go.Deep Go.Joins
open Go.ChangeMaps (open_string)

theorem Tryd.own : ownKnob Tryd.prog.godebug = none := by kernel_rfl
theorem Tryd.laidOut : laidOutB Tryd.prog = true := by kernel_rfl

section
variable {H : Type} {enc : TypeId × Value → H} {P : Program}
theorem trodAll_below (hl : laidOutB P = true) {W W' : World} {sp : Nat → Bool} (hb : Below W.heap.size W W') : ∀ {ts : List TypeId} {vs : List Value} {ds : List (DataW H)} {ps : List MemPlace},
    (∀ t ∈ ts, P.readableRec t = true ∧ t < P.types.size) → DataW.TrodAll enc P W 0 (fun _ => true) true ts vs ds ps → (∀ x ∈ ps, x.block < W.heap.size) → (∀ x ∈ ps, sp x.block = true) →
    DataW.TrodAll enc P W' 0 sp true ts vs ds ps
  | [], vs, ds, ps, _, h, _, _ => by
    obtain ⟨rfl, rfl, rfl⟩ := trodAll_nil h
    exact trodAll_mk0
  | t :: ts, vs, ds, ps, hr, h, hlt, hsp => by
    obtain ⟨v, vs', d, ds', p, q, rfl, rfl, rfl, h0, r0⟩ := trodAll_cons h
    have ht := hr t (by simp)
    exact trodAll_cons_mk (WideElems.Trod_stays hl ht.1 ht.2 h0 (fun x hx => hb.same (hlt x (by simp [hx]))) (fun x hx => hsp x (by simp [hx])))
      (trodAll_below hl hb (fun t' h' => hr t' (by simp [h'])) r0 (fun x hx => hlt x (by simp [hx])) (fun x hx => hsp x (by simp [hx])))

theorem law_post {f : Func} {s : ChangeSpec} {W W' : World} {args : Array Value} {ds gs : List (DataW H)} {before : List MemPlace} {tb : TypeId}
    (hl : laidOutB P = true) (hW : DataW.Whole enc P f.params.toList s.vars false W args.toList ds gs before) (hv : s.vars = []) (hr : f.resultTypes = #[tb]) (hbool : P.underlying tb = some .bool)
    (hts : ∀ t ∈ f.params.toList, P.readableRec t = true ∧ t < P.types.size)
    (hs : ∀ ds' : List (DataW H), ds'.length = f.params.toList.length → s.fn H ds' = { results := [.lit (.bool true)], args := ds' }) (hb : Below W.heap.size W W') :
    s.post enc P f false true false false W args (.bool true) W' := by
  have hW' := hW
  have hltp : ∀ x ∈ before, x.block < W.heap.size := fun x hx => hW'.lt x hx
  obtain ⟨p, q, hA, hV, hpq, _, _⟩ := hW
  rw [hv] at hV
  obtain ⟨hg, hq⟩ := trodVars_none hV
  subst hg; subst hq
  simp only [List.append_nil] at hpq
  subst hpq
  have hlen : ds.length = f.params.toList.length := by
    have : ∀ {ts : List TypeId} {vs : List Value} {ds : List (DataW H)} {ps : List MemPlace}, DataW.TrodAll enc P W 0 (fun _ => true) true ts vs ds ps → ds.length = ts.length := by
      intro ts
      induction ts with
      | nil => intro vs ds ps h; obtain ⟨rfl, rfl, rfl⟩ := trodAll_nil h; rfl
      | cons t ts ih =>
        intro vs ds ps h
        obtain ⟨v, vs', d, ds', p, q, rfl, rfl, rfl, h0, r0⟩ := trodAll_cons h
        simp [ih r0]
    exact this hA
  have e := hs (ds ++ []) (by simpa using hlen)
  refine ⟨_, _, _, [], before, [], hW', ?_, ?_, ?_, hb.frame _, fun h => by cases h⟩
  · rw [e, hr]
    exact trodAll_cons_mk (shut_bool hbool true) trodAll_mk0
  · rw [e]
    have := trodAll_below (sp := fun b => decide (b < W.heap.size)) hl hb hts hA hltp (fun x hx => by simpa using hltp x hx)
    simpa using this
  · rw [e, hv]
    rfl

theorem lenOk {n c : Nat} (h : n ≤ c) (hm : c ≤ maxLen) : n ≤ 9223372036854775807 := by unfold maxLen at hm; omega
theorem cell_str {W : World} {t : TypeId} (ht : P.underlying t = some .string) {n : Nat} {v : Value} {y : DataW H × List MemPlace} (h : DataW.trod enc P W 0 (fun _ => true) true n t [v] = some y) : ∃ s : ByteArray, v = .string s ∧ s.size ≤ maxLen := by
  obtain ⟨s, e, _, hs⟩ := DataW.trod_string ht h
  simp only [List.cons.injEq, and_true] at e
  exact ⟨s, e, hs⟩

/-- A slice of numbers that came in, as one cell. -/
theorem cell_ints {W : World} {t e : TypeId} (ht : P.underlying t = some (.slice e)) (he : P.underlying e = some (.int .i64)) (hc : P.cellsOf e = 1) {n : Nat} {v : Value} {y : DataW H × List MemPlace}
    (hf : DataW.trod enc P W 0 (fun _ => true) true n t [v] = some y) :
    ∃ (A : Option Addr) (c : Nat) (l : List Int), v = .slice A l.length c ∧ l.length ≤ c ∧ c ≤ maxLen ∧ Ints W A l ∧ ∀ x ∈ l, -9223372036854775808 ≤ x ∧ x ≤ 9223372036854775807 := by
  rcases open_ints ht he hc hf with ⟨hcs, hx⟩ | ⟨a, len, cap, zs, hcs, _, hl, hm, hz, hx, hcell, hwz⟩
  · simp only [List.cons.injEq, and_true] at hcs
    subst hcs
    exact ⟨none, 0, [], rfl, Nat.le_refl _, Nat.zero_le _, ⟨intE_len, Rd.none_ _ _ _⟩, fun x hx => by cases hx⟩
  · simp only [List.cons.injEq, and_true] at hcs
    subst hcs
    simp only [if_true] at hz
    have hlt : (zs.take len).length = len := by simp; omega
    refine ⟨some a, cap, zs.take len, by rw [hlt], by omega, hm, ⟨intE_len, ?_, fun hn => ?_⟩, fun x hx => bounds_i64 (hwz x (List.mem_of_mem_take hx))⟩
    · rw [flatMap_len intE_len]
    · obtain ⟨b, off, rfl, hc'⟩ := ints_at hcell (by omega)
      refine ⟨b, off, rfl, World.block_lt_of_cell? W _ (hc' 0 (by omega)), fun j u hu => ?_⟩
      have hj : j < len := by
        have := (List.getElem?_eq_some_iff.1 hu).1
        rw [flatMap_len intE_len] at this
        omega
      have hx : zs[j]? = some (zs.getD j 0) := by
        rw [List.getD_eq_getElem?_getD, List.getElem?_eq_getElem (by omega)]; rfl
      have h1 := flatMap_at intE_len (zs.take len) j (zs.getD j 0) 0 (by rw [List.getElem?_take, if_pos hj]; exact hx) (by omega)
      simp only [Nat.mul_one, Nat.add_zero] at h1
      rw [h1] at hu
      injection hu with hu
      rw [← hu]
      exact hc' j (by omega)

theorem strings_at {w : World} {a : Addr} {ss : List ByteArray} (h : ∀ i, i < ss.length → w.cell? (a.add i) = some (.string (ss.getD i ByteArray.empty))) (hp : 0 < ss.length) :
    ∃ b off, a = ⟨b, off, none⟩ ∧ ∀ j, j < ss.length → w.cell? ⟨b, off + j, none⟩ = some (.string (ss.getD j ByteArray.empty)) := by
  obtain ⟨b, off, spot⟩ := a
  have hspot : spot = none := by simpa [Addr.add] using World.cell?_spot (h 0 hp)
  subst hspot
  exact ⟨b, off, rfl, fun j hj => by rw [← Go.WideShapes.add_plain]; exact h j hj⟩

/-- A slice of texts that came in. -/
theorem in_strs {W : World} {t e : TypeId} (ht : P.underlying t = some (.slice e)) (he : P.underlying e = some .string) (hc : P.cellsOf e = 1) {n : Nat} {cs : List Value} {d : DataW H} {p : List MemPlace}
    (hf : DataW.trod enc P W 0 (fun _ => true) true n t cs = some (d, p)) :
    ∃ (A : Option Addr) (c : Nat) (l : List ByteArray), cs = [.slice A l.length c] ∧ l.length ≤ c ∧ c ≤ maxLen ∧ Strs W A l ∧ ∀ x ∈ l, x.size ≤ maxLen := by
  rcases open_strings ht he hc hf with ⟨hcs, hx⟩ | ⟨a, len, cap, zs, hcs, _, hl, hm, hz, hx, hcell, hwz⟩
  · exact ⟨none, 0, [], hcs, Nat.le_refl _, Nat.zero_le _, ⟨strE_len, Rd.none_ _ _ _⟩, fun x hx => by cases hx⟩
  · simp only [if_true] at hz
    have hlt : (zs.take len).length = len := by simp; omega
    refine ⟨some a, cap, zs.take len, by rw [hlt]; exact hcs, by omega, hm, ⟨strE_len, ?_, fun hn => ?_⟩, fun x hx => hwz x (List.mem_of_mem_take hx)⟩
    · rw [flatMap_len strE_len]
    · obtain ⟨b, off, rfl, hc'⟩ := strings_at hcell (by omega)
      refine ⟨b, off, rfl, World.block_lt_of_cell? W _ (hc' 0 (by omega)), fun j u hu => ?_⟩
      have hj : j < len := by
        have := (List.getElem?_eq_some_iff.1 hu).1
        rw [flatMap_len strE_len] at this
        omega
      have hx : zs[j]? = some (zs.getD j ByteArray.empty) := by
        rw [List.getD_eq_getElem?_getD, List.getElem?_eq_getElem (by omega)]; rfl
      have h1 := flatMap_at strE_len (zs.take len) j (zs.getD j ByteArray.empty) 0 (by rw [List.getElem?_take, if_pos hj]; exact hx) (by omega)
      simp only [Nat.mul_one, Nat.add_zero] at h1
      rw [h1] at hu
      injection hu with hu
      rw [← hu]
      exact hc' j (by omega)

/-- A slice of structs that came in: for every element the cells of all its fields, each with its own reading. -/
theorem open_slice_fields {w : World} {base : Nat} {spare : Nat → Bool} {held : Bool} {t e : TypeId} {fs : Array Field} {fuel : Nat} {cs : List Value} {x : DataW H × List MemPlace} (ht : P.underlying t = some (.slice e)) (he : P.underlying e = some (.struct fs))
    (hone : oneCellFields P fs = true) (hC : P.cellsOf e = fs.size) (h : DataW.trod enc P w base spare held fuel t cs = some x) :
    (cs = [.slice none 0 0] ∧ x = (.nil, [])) ∨
    ∃ (a : Addr) (len cap m : Nat), cs = [.slice (some a) len cap] ∧ len ≤ cap ∧ cap ≤ maxLen ∧ m = (if spare a.block then cap else len) ∧
      ∀ i, i < m → ∀ (j : Nat) (f : Field), fs[j]? = some f → ∃ (v : Value) (y : DataW H × List MemPlace) (n : Nat), w.cell? (a.add (i * fs.size + j)) = some v ∧ DataW.trod enc P w base spare held n f.type [v] = some y := by
  rcases open_slice ht h with h0 | ⟨a, len, cap, m, n, D, Pl, hcs, hb, hl, hm, hmm, hx, hi⟩
  · exact .inl h0
  · refine .inr ⟨a, len, cap, m, hcs, hl, hm, hmm, fun i him j f hj => ?_⟩
    obtain ⟨cs', hc, ht'⟩ := hi i him
    rw [hC] at hc
    obtain ⟨ys, n', hn', hy, hlen, hyl, hf⟩ := DataW.trod_struct he ht'
    obtain ⟨_, hcl, hat⟩ := World.cells?_some hc
    obtain ⟨ho, hk⟩ := hone_of hone j f hj
    have hjl : j < fs.size := (Array.getElem?_eq_some_iff.1 hj).1
    have hcell := hat j hjl
    have hv : cs'[j]? = some (cs'[j]'(by omega)) := List.getElem?_eq_getElem (by omega)
    have h1 := hf j f hj
    rw [ho, hk] at h1
    have hone' : (cs'.drop j).take 1 = [cs'[j]'(by omega)] := by
      rw [List.drop_eq_getElem_cons (by omega)]
      rfl
    rw [hone'] at h1
    have hys : ys[j]? = some (ys[j]'(by omega)) := List.getElem?_eq_getElem (by omega)
    refine ⟨_, _, n', ?_, h1.trans hys⟩
    rw [← Go.Deep.add_add, hcell, hv]

/-- From 'for every element its cells' to a list of records. -/
theorem recs_of {α : Type} [Inhabited α] {e : α → List Value} {s : Nat} (he : ∀ x, (e x).length = s) (hs : 0 < s) {W : World} {a : Addr} {len : Nat} {Q : α → Prop} (h : ∀ i, i < len → ∃ x : α, Q x ∧ ∀ j u, (e x)[j]? = some u → W.cell? (a.add (i * s + j)) = some u) :
    ∃ l : List α, l.length = len ∧ Recs e s W (some a) l ∧ ∀ x ∈ l, Q x := by
  obtain ⟨F, hF0⟩ := choose_lt h
  have hF := fun i hi => (hF0 i hi).2
  refine ⟨(List.range len).map F, by simp, ⟨he, flatMap_len he _, fun hn => ?_⟩, fun x hx => by
    obtain ⟨i, hi, rfl⟩ := List.mem_map.1 hx
    exact (hF0 i (List.mem_range.1 hi)).1⟩
  have hn : 0 < len := by simpa using hn
  obtain ⟨b, off, spot⟩ := a
  obtain ⟨u0, hu0⟩ : ∃ u, (e (F 0))[0]? = some u := ⟨_, List.getElem?_eq_getElem (by rw [he]; exact hs)⟩
  have h00 := hF 0 hn 0 u0 hu0
  have hspot : spot = none := by simpa [Addr.add] using World.cell?_spot h00
  subst hspot
  have hblk : b < W.heap.size := by simpa [Addr.add] using World.block_lt_of_cell? W _ h00
  refine ⟨b, off, rfl, hblk, fun j u hu => ?_⟩
  have hj : j < len * s := by
    have := (List.getElem?_eq_some_iff.1 hu).1
    rw [flatMap_len he] at this
    simpa using this
  have hjs : j / s < len := Nat.div_lt_of_lt_mul (by rw [Nat.mul_comm]; exact hj)
  have hel : ((List.range len).map F)[j / s]? = some (F (j / s)) := by simp [hjs]
  have h2 := flatMap_at he _ (j / s) _ (j % s) hel (Nat.mod_lt _ hs)
  have hdm : j / s * s + j % s = j := Nat.div_add_mod' j s
  rw [hdm] at h2
  have h3 := hF (j / s) hjs (j % s) u (h2.symm.trans hu)
  rw [hdm, Go.WideShapes.add_plain] at h3
  exact h3

theorem cell_int {W : World} {t : TypeId} (ht : P.underlying t = some (.int .i64)) {n : Nat} {v : Value} {y : DataW H × List MemPlace} (h : DataW.trod enc P W 0 (fun _ => true) true n t [v] = some y) : ∃ x : Int, v = .int .i64 x ∧ I64 x := by
  obtain ⟨x, e, _, hx⟩ := DataW.trod_int ht h
  simp only [List.cons.injEq, and_true] at e
  exact ⟨x, e, bounds_i64 hx⟩
theorem in_recs2 {α : Type} [Inhabited α] {f g : α → Value} {Q : α → Prop} {W : World} {t e : TypeId} {f0 f1 : Field} (ht : P.underlying t = some (.slice e)) (he : P.underlying e = some (.struct #[f0, f1])) (hone : oneCellFields P #[f0, f1] = true) (hC : P.cellsOf e = 2)
    (hcell : ∀ v0 v1 y0 y1 n0 n1, DataW.trod enc P W 0 (fun _ => true) true n0 f0.type [v0] = some y0 → DataW.trod enc P W 0 (fun _ => true) true n1 f1.type [v1] = some y1 → ∃ x : α, Q x ∧ v0 = f x ∧ v1 = g x)
    {n : Nat} {v : Value} {y : DataW H × List MemPlace} (h : DataW.trod enc P W 0 (fun _ => true) true n t [v] = some y) :
    ∃ (A : Option Addr) (c : Nat) (l : List α), [v] = [.slice A l.length c] ∧ l.length ≤ c ∧ c ≤ maxLen ∧ Recs (fun x => [f x, g x]) 2 W A l ∧ ∀ x ∈ l, Q x := by
  rcases open_slice_fields ht he hone (by rw [hC]; rfl) h with ⟨hcs, _⟩ | ⟨a, len, cap, m, hcs, hl, hm, hmm, hi⟩
  · exact ⟨none, 0, [], hcs, Nat.le_refl _, Nat.zero_le _, ⟨fun _ => rfl, Rd.none_ _ _ _⟩, fun x hx => by cases hx⟩
  · simp only [if_true] at hmm
    obtain ⟨l, hlen, hrec, hq⟩ := recs_of (e := fun x : α => [f x, g x]) (s := 2) (fun _ => rfl) (by omega) (W := W) (a := a) (len := len) (Q := Q) fun i hil => by
      obtain ⟨v0, y0, n0, c0, t0⟩ := hi i (by omega) 0 f0 rfl
      obtain ⟨v1, y1, n1, c1, t1⟩ := hi i (by omega) 1 f1 rfl
      obtain ⟨x, hx, rfl, rfl⟩ := hcell _ _ _ _ _ _ t0 t1
      refine ⟨x, hx, fun j u hu => ?_⟩
      match j, hu with
      | 0, hu => simp at hu; subst hu; exact c0
      | 1, hu => simp at hu; subst hu; exact c1
    exact ⟨some a, cap, l, by rw [hlen]; exact hcs, by omega, hm, hrec, hq⟩
theorem in_recs3 {α : Type} [Inhabited α] {f g k : α → Value} {Q : α → Prop} {W : World} {t e : TypeId} {f0 f1 f2 : Field} (ht : P.underlying t = some (.slice e)) (he : P.underlying e = some (.struct #[f0, f1, f2])) (hone : oneCellFields P #[f0, f1, f2] = true) (hC : P.cellsOf e = 3)
    (hcell : ∀ v0 v1 v2 y0 y1 y2 n0 n1 n2, DataW.trod enc P W 0 (fun _ => true) true n0 f0.type [v0] = some y0 → DataW.trod enc P W 0 (fun _ => true) true n1 f1.type [v1] = some y1 → DataW.trod enc P W 0 (fun _ => true) true n2 f2.type [v2] = some y2 → ∃ x : α, Q x ∧ v0 = f x ∧ v1 = g x ∧ v2 = k x)
    {n : Nat} {v : Value} {y : DataW H × List MemPlace} (h : DataW.trod enc P W 0 (fun _ => true) true n t [v] = some y) :
    ∃ (A : Option Addr) (c : Nat) (l : List α), [v] = [.slice A l.length c] ∧ l.length ≤ c ∧ c ≤ maxLen ∧ Recs (fun x => [f x, g x, k x]) 3 W A l ∧ ∀ x ∈ l, Q x := by
  rcases open_slice_fields ht he hone (by rw [hC]; rfl) h with ⟨hcs, _⟩ | ⟨a, len, cap, m, hcs, hl, hm, hmm, hi⟩
  · exact ⟨none, 0, [], hcs, Nat.le_refl _, Nat.zero_le _, ⟨fun _ => rfl, Rd.none_ _ _ _⟩, fun x hx => by cases hx⟩
  · simp only [if_true] at hmm
    obtain ⟨l, hlen, hrec, hq⟩ := recs_of (e := fun x : α => [f x, g x, k x]) (s := 3) (fun _ => rfl) (by omega) (W := W) (a := a) (len := len) (Q := Q) fun i hil => by
      obtain ⟨v0, y0, n0, c0, t0⟩ := hi i (by omega) 0 f0 rfl
      obtain ⟨v1, y1, n1, c1, t1⟩ := hi i (by omega) 1 f1 rfl
      obtain ⟨v2, y2, n2, c2, t2⟩ := hi i (by omega) 2 f2 rfl
      obtain ⟨x, hx, rfl, rfl, rfl⟩ := hcell _ _ _ _ _ _ _ _ _ t0 t1 t2
      refine ⟨x, hx, fun j u hu => ?_⟩
      match j, hu with
      | 0, hu => simp at hu; subst hu; exact c0
      | 1, hu => simp at hu; subst hu; exact c1
      | 2, hu => simp at hu; subst hu; exact c2
    exact ⟨some a, cap, l, by rw [hlen]; exact hcs, by omega, hm, hrec, hq⟩
end
section
variable {H : Type} {enc : TypeId × Value → H}
end
end Go.Proofs.YtoheahbkopbmhaaDoor
