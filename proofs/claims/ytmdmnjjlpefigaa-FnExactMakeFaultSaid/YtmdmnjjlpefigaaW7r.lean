/- The walks through repeats: the first pair of equal rows, both sides. -/
import Derived.Test.YtmdmnjjlpefigaaP7r
import Derived.Test.YtmdmnjjlpefigaaMapX
import Derived.Test.YtmdmnjjlpefigaaW2a
import Derived.Test.YtmdmnjjlpefigaaW06
namespace Go.Proofs.Ytmdmnjjlpefigaa
set_option linter.unusedVariables false
set_option linter.unusedSimpArgs false
open Go.ChangeShapes Go.WideShapes Go.ChangeAt Go.RowKit Go.Deep
open Go.Maps (Keyed string_keyed)
open Go.WideMaps (keyOf_string_mk)
theorem own_lit2 (w : World) (E : TypeId) (x y : Int) {base : Nat} (hb : base ≤ w.heap.size) : Owned intE 1 E (w.alloc (.cells #[.int .i64 x, .int .i64 y] E)) base (some ⟨w.heap.size, 0, none⟩) 2 2 [x, y] :=
  ⟨intE_len, rfl, by simpa [intE] using World.ownsRow_lit (e := E) (base := base) (size := 1) w #[.int .i64 x, .int .i64 y] 2 hb (by unfold maxLen; omega) (by simp)⟩
theorem own_lit1_at {α : Type} {e : α → List Value} {s : Nat} (he : ∀ x, (e x).length = s) (w : World) (E : TypeId) (x : α) {b base : Nat} (h : b = w.heap.size) (hb : base ≤ w.heap.size) : Owned e s E (w.alloc (.cells ⟨e x⟩ E)) base (some ⟨b, 0, none⟩) 1 1 [x] := by
  subst h
  exact own_lit1 he w E x hb
/-- The list of the one pair, if there is one. -/
def repL (o : Option (Nat × Nat)) : List (List Int) := match o with | some p => [[(p.1 : Int), (p.2 : Int)]] | none => []
theorem repL_some {o : Option (Nat × Nat)} (h : o ≠ none) : (repL o).length = 1 := by
  rcases o with _ | p
  · exact absurd rfl h
  · rfl
def msN (N : Nat) : Nat → Nat
  | 0 => 0
  | k + 1 => N - k
def msR (N : Nat) (v : Value) : Nat := msN N (intOf v).toNat
theorem msR_lt {N p q : Nat} (hp : 0 < p) (hN : p ≤ N) (h : q = 0 ∨ p < q) : msR N (.int .i64 (q : Int)) < msR N (.int .i64 (p : Int)) := by
  simp only [msR, intOf, Int.toNat_natCast]
  obtain ⟨p, rfl⟩ : ∃ k, p = k + 1 := ⟨p - 1, by omega⟩
  rcases q with _ | q
  · show 0 < N - p; omega
  · show N - q < N - p; omega
set_option maxHeartbeats 1000000 in
set_option maxRecDepth 100000 in
theorem impl_repeats1 {A : Option Addr} {N c : Nat} {l : List ByteArray} {w : World} (hN : l.length = N) (h : Strs w A l) (hz : N ≤ 1000000) (hs : ∀ s ∈ l, s.size ≤ 16777216) :
    Calls Try.prog 90 #[.slice A N c, .int .i64 1] w fun e w' => ∃ vs A' c', e = .returned (.slice A' (repL (firstRep l)).length c') ∧ LT intE 1 3 103 vs w' w.heap.size A' (repL (firstRep l)).length c' (repL (firstRep l)) ∧ Below w.heap.size w w' := by
  subst hN
  have HS := Lib.hid hs
  clear hs
  have hmm := @run_makeMap Try.prog
  have hmk := @run_make_rec Try.prog Int intE 1 8 103 3 (.int .i64 0) Try.elInt 0 rfl l.length (by omega) (by decide)
  have KS := string_keyed (P := Try.prog) (k := 9) Try.underlying9
  have O0 := Owned.made (e := intE) intE_len w 3 0 l.length (by omega) (Nat.le_refl w.heap.size)
  go_in
  go_wp2
  clear hmm hmk
  have HZ : ∃ z : Nat, z = w.heap.size := ⟨_, rfl⟩
  go_loopw [7] (fun i wr => ∃ (k m : Nat), k ≤ l.length ∧ i = .int .i64 ((k : Int) - 1) ∧ Hid (MapX (fun i => Value.int .i64 i) iLi Try.prog wr 9 3 (w.heap.size + 1) m (laterF l k)) ∧ m ≤ l.length - k ∧ Hid (Owned intE 1 3 wr w.heap.size (some ⟨w.heap.size, 0, none⟩) l.length l.length (nextRow l k)) ∧ Below w.heap.size w wr) (fun i _ => (intOf i + 1).toNat)
  case atStart => exact ⟨l.length, 0, Nat.le_refl _, rfl, Lib.hid ((MapX.made_at (fun i => Value.int .i64 i) iLi Try.prog (w.alloc (.cells (madeCells (intE 0).toArray l.length) 3)) 9 3 (by simp)).as rfl (fun q => (laterF_end l q).symm)), Nat.zero_le _, Lib.hid (by rw [nextRow_end]; simpa using O0.alloc (.map #[] 0)), by (repeat' (first | (with_reducible exact Below.refl _ _) | (with_reducible assumption) | (with_reducible refine below_drewN ?_ _) | (with_reducible refine Below.drew ?_) | (with_reducible refine below_alloc ?_ _) | (with_reducible refine Below.alloc ?_ ?_ _) | (with_reducible refine Below.setCell ?_ ?_ _) | (with_reducible refine below_go ?_ (by with_reducible assumption)) | (with_reducible refine below_then (by with_reducible assumption) ?_ ?_) | go_size))⟩
  case round =>
    obtain ⟨k, m, hk, rfl, HM, hm, HO, hb⟩ := hrel
    rcases k with _ | j
    · clear O0 HM
      have hI : ¬ (0 : Int) ≤ ((0 : Nat) : Int) - 1 := by decide
      rename World => w1
      have HC : Hid (∀ u : World, Below w1.heap.size w1 u → ∀ j, j < l.length → u.cell? ⟨w.heap.size, j, none⟩ = some (.int .i64 (nxtN l j))) := Lib.hid (fun u hu j hj => by
        obtain ⟨g, e, _, _, gc, _⟩ := (HO.out.up hu).at_ (by omega)
        injection e with e
        injection e with e
        subst e
        have := gc j _ 0 _ (nextRow_at hj) rfl
        rw [if_pos (Nat.zero_le _)] at this
        simpa using this)
      clear HO
      have hw1 := hb.size
      go_wp2
      go_loopw [10, 47] (fun v i wr => ∃ (vs : List Hd) (A' : Option Addr) (c' j : Nat), j ≤ l.length ∧ i = .int .i64 j ∧ v = .slice A' (repL (repTo l j)).length c' ∧ Hid (LT intE 1 3 103 vs wr w1.heap.size A' (repL (repTo l j)).length c' (repL (repTo l j))) ∧ Below w1.heap.size w1 wr) (fun _ i _ => l.length - (intOf i).toNat)
      case atStart => exact ⟨[], _, _, 0, Nat.zero_le _, rfl, rfl, Lib.hid ⟨rfl, Owned.empty slcE_len 103 w1 (Nat.le_refl _), fun k v r hv _ => by simp at hv⟩, by (repeat' (first | (with_reducible exact Below.refl _ _) | (with_reducible assumption) | (with_reducible refine below_drewN ?_ _) | (with_reducible refine Below.drew ?_) | (with_reducible refine below_alloc ?_ _) | (with_reducible refine Below.alloc ?_ ?_ _) | (with_reducible refine Below.setCell ?_ ?_ _) | (with_reducible refine below_go ?_ (by with_reducible assumption)) | (with_reducible refine below_then (by with_reducible assumption) ?_ ?_) | go_size))⟩
      case round =>
        obtain ⟨vs, A', c', j, hj, rfl, rfl, HL, hb2⟩ := hrel
        rename World => w2
        by_cases hlt : j < l.length
        · have hcj := HC.out _ hb2 j hlt
          go_wp2
          go_loopw [10, 12] (fun v q wr => ∃ (vs : List Hd) (A' : Option Addr) (c' q' : Nat) (o : Option (Nat × Nat)), q = .int .i64 q' ∧ q' ≤ l.length ∧ v = .slice A' (repL o).length c' ∧ Hid ((o = repTo l j ∧ q' = nxtN l j) ∨ (o = repTo l (j + 1) ∧ o ≠ none)) ∧ Hid (LT intE 1 3 103 vs wr w1.heap.size A' (repL o).length c' (repL o)) ∧ Below w1.heap.size w1 wr) (fun _ q _ => msR l.length q)
          case atStart => exact ⟨vs, A', c', nxtN l j, repTo l j, rfl, by have := nxtN_le l j; omega, rfl, Lib.hid (Or.inl ⟨rfl, rfl⟩), HL, hb2⟩
          case round =>
            clear HL hb2 hcj
            obtain ⟨vs, A', c', q, o, rfl, hq, rfl, HO, HL, hb2⟩ := hrel
            rename World => w3
            by_cases h0 : 0 < q
            · have hI : (0 : Int) < (q : Int) := by omega
              rcases o with _ | p
              · obtain ⟨ho, hqe⟩ : none = repTo l j ∧ q = nxtN l j := by
                  rcases HO.out with h | h
                  · exact h
                  · exact absurd rfl h.2
                have hnj := nxtN_lt (l := l) (i := j) (by omega)
                have hq2 := (nxt_some hnj).2.1
                rw [← hqe] at hnj hq2
                have e1 := Lib.hid (show repTo l (j + 1) = some (j, q) by rw [repTo_succ, ← ho, hnj]; rfl)
                have HL2 := Lib.hid (show LT intE 1 3 103 vs w3 w1.heap.size A' 0 c' [] from HL.out)
                have hsz := hb2.size
                have HNE := Lib.hid (nxtN_le l q)
                clear ho hqe hnj HO HL
                simp only [repL, List.length_nil]
                have HCC := HC
                go_wp2_with (first | (at_builtin; go_must ((refine wpList_append_recs Try.elInts slcE_one rfl (.tmp 65) (.tmp 69) rfl rfl ((HL2.out.top.alloc _).alloc _) rfl (own_lit1_at slcE_len (w3.alloc (.cells #[.int .i64 j, .int .i64 q] 3)) 103 ((some ⟨w3.heap.size, 0, none⟩, 2, 2) : Hd) (b := w3.heap.size + 1) (by simp) (Nat.le_refl _)).recs rfl ?_ (by decide) ?_ ?_; (focus (first | omega | (simp only [World.size_alloc]; done) | (simp only [World.size_alloc]; omega) | (simp; done) | (simp; omega))); (focus (first | omega | (simp only [World.size_alloc]; done) | (simp only [World.size_alloc]; omega) | (simp; done) | (simp; omega))); intro A3 c3 w4 ho3 hg3 hl3; have hb4 : Below w1.heap.size w1 w4 := ((hb2.alloc hsz _).alloc (by simp; omega) _).trans (grown_base hg3 (by simp; omega) (fun k hk => (HL2.out.top.blk hk).1)); have hcq := HC.out _ hb4 q hq2))))
                have hL3 := ((HL2.out.alloc (.cells #[.int .i64 j, .int .i64 q] 3)).alloc (.cells #[.slice (some ⟨w3.heap.size, 0, none⟩) 2 2] 103)).add (by decide) ((own_lit2 w3 3 (j : Int) (q : Int) hsz).alloc _) ho3 hg3
                go_roundw
                case rel => exact ⟨_, A3, c3, nxtN l q, some (j, q), by go_num, by have := HNE.out; omega, rfl, Lib.hid (Or.inr ⟨e1.out.symm, by simp⟩), Lib.hid hL3, hb4⟩
                case measure => exact msR_lt h0 hq (by have := HNE.out; omega)
              · have e1 := Lib.hid (show firstRep l = some p by
                  rcases HO.out with h | h
                  · exact repTo_keep h.1.symm (by omega)
                  · exact repTo_keep h.1.symm (by omega))
                have HL2 := Lib.hid (show LT intE 1 3 103 vs w3 w1.heap.size A' 1 c' [[(p.1 : Int), (p.2 : Int)]] from HL.out)
                clear HO HL
                simp only [repL, List.length_cons, List.length_nil, Nat.zero_add]
                go_wp2
                go_ret
                rw [e1.out]
                exact ⟨vs, _, _, rfl, HL2.out.base_le hw1, below_go hb hb2⟩
            · obtain rfl : q = 0 := by omega
              have e1 := Lib.hid (show o = repTo l (j + 1) by
                rcases HO.out with h | h
                · rw [repTo_succ, nxtN_zero h.2.symm, h.1]; simp
                · exact h.1)
              have hI : ¬ (0 : Int) < ((0 : Nat) : Int) := by decide
              go_wp2
              go_roundw
              case rel => exact ⟨vs, A', c', j + 1, by omega, by go_num, by rw [← e1.out], Lib.hid (by rw [← e1.out]; exact HL.out), hb2⟩
              case measure => simp [intOf]; omega
        · obtain rfl : j = l.length := by omega
          go_wp2
          go_ret
          exact ⟨vs, _, _, rfl, HL.out.base_le hw1, below_go hb hb2⟩
    · have hlt : j < l.length := by omega
      have hI : (0 : Int) ≤ ((j + 1 : Nat) : Int) - 1 := by omega
      rw [show ((j + 1 : Nat) : Int) - 1 = (j : Int) by omega] at hI ⊢
      obtain ⟨b1, o1, y, rfl, hbb, hy, hcy0⟩ := h.at_str hlt
      have hcy := (hb.cell (p := ⟨b1, o1 + j, none⟩) hbb).trans hcy0
      have hne : ¬ w.heap.size = b1 := by omega
      have hys := HS.out y (List.mem_of_getElem? hy)
      have hkey := keyOf_string_mk (P := Try.prog) (k := 9) Try.underlying9 (s := y) (by unfold maxLen; omega)
      have lk := HM.out.look_ok (t := 139) (z := (0 : Int)) KS Try.underlying139 (by kernel_rfl) (iLi_pe Try.underlying3 (by unfold I64; omega)) (iLi_in Try.underlying3) hkey
      rw [laterF_str hy] at lk
      have HY := Lib.hid hy
      have HKEY := Lib.hid hkey
      clear hy hkey O0
      have hN0 : nxtN l j = (nxt l j).getD 0 := rfl
      have HNR := Lib.hid (nextRow_set (l := l) hlt)
      have HNZ := Lib.hid (nextRow_zero (l := l) hlt)
      have HNA := Lib.hid (nextRow_at (l := l) (i := j + 1) (j := j) hlt)
      have HLT := Lib.hid (laterF_str HY.out)
      have HLH := Lib.hid (laterF_here HY.out)
      have HLO := Lib.hid (fun q hq => laterF_other HY.out (q := q) hq)
      rcases hx : nxt l j with _ | q
      · rw [hx] at lk
        simp only [Option.map_none, Option.getD_none, Option.isSome_none] at lk
        have HX := Lib.hid hx
        clear hx
        go_wp2_with (first | (at_mapUpdate; go_must ((refine wpList_mapx_put rfl (.tmp 38) (.tmp 42) (.tmp 43) 139 rfl KS Try.underlying139 rfl HM.out ?_ (key := .string y) rfl (x := (j : Int)) rfl HKEY.out (iLi_pe Try.underlying3 (by unfold I64; omega)) ?_; (focus (first | omega | (simp only [World.size_alloc]; done) | (simp only [World.size_alloc]; omega) | (simp; done) | (simp; omega))); intro w2 hm2 hg2))))
        have hm3 := hm2 (m + 1) (laterF l j) (by rw [HLT.out, HX.out]; rfl) HLH.out HLO.out
        go_roundw
        case rel => exact ⟨j, m + 1, by omega, rfl, Lib.hid hm3, by omega, Lib.hid (by rw [← HNZ.out HX.out]; exact HO.out.kept hg2 (fun k hk => by simp [Value.ownBlock] at hk; subst hk; simp)), hb.grown hg2 hb.size (fun k hk => by injection hk with hk; omega)⟩
        case measure => simp [intOf]
      · rw [hx] at lk
        simp only [Option.map_some, Option.getD_some, Option.isSome_some] at lk
        have HX := Lib.hid hx
        clear hx
        have HN := Lib.hid (show nxtN l j = q by rw [nxtN, HX.out]; rfl)
        obtain ⟨HO2, hg1⟩ := HO.out.put (k := j) (j := 0) (x := (q : Int)) (u := .int .i64 q) HNA.out (by decide) rfl
        obtain ⟨g, e, _, _, gc, gf⟩ := HO.out.at_ (by omega)
        injection e with e
        injection e with e
        subst e
        have c1 := gc j _ 0 _ HNA.out rfl
        have f1 := gf j
        simp only [Nat.mul_one, Nat.add_zero] at HO2 hg1 c1
        have HM1 := Lib.hid (HM.out.kept hg1 (by simp))
        have HG1 := Lib.hid hg1
        have HO3 := Lib.hid HO2
        clear gc gf hg1 HO2
        go_wp2_with (first | (at_mapUpdate; go_must ((refine wpList_mapx_put rfl (.tmp 38) (.tmp 42) (.tmp 43) 139 rfl KS Try.underlying139 rfl HM1.out ?_ (key := .string y) rfl (x := (j : Int)) rfl HKEY.out (iLi_pe Try.underlying3 (by unfold I64; omega)) ?_; (focus (first | omega | (simp only [World.size_alloc]; done) | (simp only [World.size_alloc]; omega) | (simp; done) | (simp; omega))); intro w2 hm2 hg2))))
        have hm3 := hm2 m (laterF l j) (by rw [HLT.out, HX.out]; rfl) HLH.out HLO.out
        go_roundw
        case rel => exact ⟨j, m, by omega, rfl, Lib.hid hm3, by omega, Lib.hid (by rw [← HNR.out, HN.out]; exact HO3.out.kept hg2 (fun k hk => by simp [Value.ownBlock] at hk; subst hk; simp)), (hb.grown HG1.out hb.size (fun k hk => by injection hk with hk; omega)).grown hg2 (by simp; exact hb.size) (fun k hk => by injection hk with hk; omega)⟩
        case measure => simp [intOf]
/-- The pairs found: the first of them is the first pair. -/
def FstP (T : List (List Int)) (o : Option (Nat × Nat)) : Prop := T[0]? = (repL o)[0]?
theorem FstP.nil {o : Option (Nat × Nat)} (h : FstP [] o) : o = none := by
  rcases o with _ | p
  · rfl
  · cases h
theorem FstP.cons {o : Option (Nat × Nat)} {T : List (List Int)} (h : FstP T o) (hT : T ≠ []) : ∃ p, o = some p := by
  rcases o with _ | p
  · rcases T with _ | ⟨a, T⟩
    · exact absurd rfl hT
    · cases h
  · exact ⟨p, rfl⟩
theorem FstP.snoc {o : Option (Nat × Nat)} {T : List (List Int)} (h : FstP T o) (hT : T ≠ []) (r : List Int) : FstP (T ++ [r]) o := by
  rcases T with _ | ⟨a, T⟩
  · exact absurd rfl hT
  · exact h
/-- The state behind k places held against place j. -/
def RepSt (l : List ByteArray) (j k : Nat) (T : List (List Int)) : Prop := (T = [] ∧ repTo l j = none ∧ ∀ q, j < q → q < k → l[q]? ≠ l[j]?) ∨ (T ≠ [] ∧ FstP T (repTo l (j + 1)))
theorem RepSt.start {l : List ByteArray} {j : Nat} {T : List (List Int)} (h : FstP T (repTo l j)) : RepSt l j (j + 1) T := by
  by_cases hT : T = []
  · subst hT
    exact Or.inl ⟨rfl, h.nil, fun q h1 h2 => by omega⟩
  · obtain ⟨p, hp⟩ := h.cons hT
    refine Or.inr ⟨hT, ?_⟩
    rw [repTo_keep hp (Nat.le_succ j)]
    rwa [hp] at h
theorem RepSt.same {l : List ByteArray} {j k : Nat} {T : List (List Int)} (h : RepSt l j k T) (hjk : j < k) (hk : k < l.length) (he : l[k]? = l[j]?) : RepSt l j (k + 1) (T ++ [[(j : Int), (k : Int)]]) := by
  rcases h with ⟨rfl, h1, h2⟩ | ⟨h1, h2⟩
  · refine Or.inr ⟨by simp, ?_⟩
    rw [repTo_succ, h1, nxt_is hjk hk he h2]
    rfl
  · exact Or.inr ⟨by simp, h2.snoc h1 _⟩
theorem RepSt.other {l : List ByteArray} {j k : Nat} {T : List (List Int)} (h : RepSt l j k T) (he : l[k]? ≠ l[j]?) : RepSt l j (k + 1) T := by
  rcases h with ⟨rfl, h1, h2⟩ | h1
  · refine Or.inl ⟨rfl, h1, fun q a b => ?_⟩
    by_cases e : q = k
    · subst e; exact he
    · exact h2 q a (by omega)
  · exact Or.inr h1
theorem RepSt.done {l : List ByteArray} {j k : Nat} {T : List (List Int)} (h : RepSt l j k T) (hk : l.length ≤ k ∨ T ≠ []) : FstP T (repTo l (j + 1)) := by
  rcases h with ⟨rfl, h1, h2⟩ | h1
  · rcases hk with hk | hk
    · rw [repTo_succ, h1, nxt_no (fun q a b => h2 q a (by omega))]
      rfl
    · exact absurd rfl hk
  · exact h1.2
set_option maxHeartbeats 1000000 in
set_option maxRecDepth 100000 in
theorem spec_RepeatsIn {A : Option Addr} {N c : Nat} {l : List ByteArray} {w : World} (hN : l.length = N) (h : Strs w A l) (hz : N ≤ 1000000) (hs : ∀ s ∈ l, s.size ≤ 16777216) (hg : goodRows l = true) :
    Calls Try.prog 88 #[.slice A N c] w fun e w' => ∃ vs A' c' T, e = .returned (.tuple #[.slice A' T.length c', .bool true]) ∧ LT intE 1 3 103 vs w' w.heap.size A' T.length c' T ∧ T.length ≤ 100 ∧ FstP T (firstRep l) ∧ Below w.heap.size w w' := by
  go_in
  go_wp2_with fail
  refine (spec_l6Rows hN h (by omega) hs).mono ?_; rw [hg]; rintro e w1 ⟨rfl, hb1⟩
  subst hN
  have hw1 := hb1.size
  clear hs hg
  go_wp2
  go_loopw [4, 12] (fun v i wr => ∃ (vs : List Hd) (A' : Option Addr) (c' j : Nat) (T : List (List Int)), j ≤ l.length ∧ i = .int .i64 j ∧ v = .slice A' T.length c' ∧ T.length ≤ 100 ∧ Hid (FstP T (repTo l j)) ∧ Hid (LT intE 1 3 103 vs wr w1.heap.size A' T.length c' T) ∧ Below w1.heap.size w1 wr) (fun _ i _ => l.length - (intOf i).toNat)
  case atStart => exact ⟨[], none, 0, 0, [], Nat.zero_le _, rfl, rfl, by decide, Lib.hid rfl, Lib.hid (LT.nil _ _), Below.refl _ _⟩
  case round =>
    obtain ⟨vs, A', c', j, T, hj, rfl, rfl, hT, HF, HL, hb2⟩ := hrel
    rename World => w2
    by_cases hlt : j < l.length
    · go_wp2
      go_loopw [4, 6] (fun v q wr => ∃ (vs : List Hd) (A' : Option Addr) (c' k : Nat) (T : List (List Int)), j < k ∧ k ≤ l.length ∧ q = .int .i64 k ∧ v = .slice A' T.length c' ∧ T.length ≤ 100 ∧ Hid (RepSt l j k T) ∧ Hid (LT intE 1 3 103 vs wr w1.heap.size A' T.length c' T) ∧ Below w1.heap.size w1 wr) (fun _ q _ => l.length - (intOf q).toNat)
      case atStart => exact ⟨vs, A', c', j + 1, T, Nat.lt_succ_self _, hlt, by go_num, rfl, hT, Lib.hid (RepSt.start HF.out), HL, hb2⟩
      case round =>
        clear HF HL hb2 hT
        obtain ⟨vs, A', c', k, T, hjk, hk, rfl, rfl, hT, HR, HL, hb2⟩ := hrel
        rename World => w3
        by_cases hkl : k < l.length
        · by_cases h100 : T.length < 100
          · obtain ⟨b1, o1, x, rfl, hbb, hx, hcx0⟩ := h.at_str hlt
            obtain ⟨b2, o2, y, e, _, hy, hcy0⟩ := h.at_str hkl
            injection e with e
            injection e with e1 e2
            subst e1 e2
            have hB3 := below_go hb1 hb2
            have hcx := (hB3.cell (p := ⟨b1, o1 + j, none⟩) hbb).trans hcx0
            have hcy := (hB3.cell (p := ⟨b1, o1 + k, none⟩) hbb).trans hcy0
            have hsz := hb2.size
            have HX := Lib.hid hx
            have HY := Lib.hid hy
            have hI2 : (T.length : Int) < 100 := by omega
            clear hx hy hcx0 hcy0 hB3
            by_cases hxy : x = y
            · have e2 : (x.toList == y.toList) = true := by rw [hxy]; simp
              have HS := Lib.hid (HR.out.same hjk hkl (by rw [HX.out, HY.out, hxy]))
              clear hxy
              go_wp2
              go_quiet (fail)
              have hL := HL.out.len
              go_wp2_with (first | (at_builtin; go_must ((refine wpList_append_recs Try.elInts slcE_one rfl (.tmp 37) (.tmp 41) rfl rfl (((HL.out.top.drewN _).alloc _).alloc _) rfl (own_lit1_at slcE_len ((w3.drewN _).alloc (.cells #[.int .i64 j, .int .i64 k] 3)) 103 ((some ⟨w3.heap.size, 0, none⟩, 2, 2) : Hd) (b := w3.heap.size + 1) (by simp) (Nat.le_refl _)).recs rfl ?_ (by decide) ?_ ?_; (focus (first | omega | (simp only [World.size_alloc]; done) | (simp only [World.size_alloc]; omega) | (simp; done) | (simp; omega))); (focus (first | omega | (simp only [World.size_alloc]; done) | (simp only [World.size_alloc]; omega) | (simp; done) | (simp; omega))); intro A3 c3 w4 ho3 hg3 hl3))))
              have hL3 := (((HL.out.up (below_drewN (Below.refl _ _) nq)).alloc (.cells #[.int .i64 j, .int .i64 k] 3)).alloc (.cells #[.slice (some ⟨w3.heap.size, 0, none⟩) 2 2] 103)).add (by decide) ((own_lit2 (w3.drewN nq) 3 (j : Int) (k : Int) hsz).alloc _) ho3 hg3
              have hb4 : Below w1.heap.size w1 w4 := (((below_drewN hb2 nq).alloc hsz _).alloc (by simp; omega) _).trans (grown_base hg3 (by simp; omega) (fun k hk => (HL.out.top.blk hk).1))
              have hl4 : (T ++ [[(j : Int), (k : Int)]]).length = T.length + 1 := by simp
              go_roundw
              case rel => exact ⟨_, A3, c3, k + 1, T ++ [[(j : Int), (k : Int)]], by omega, by omega, by go_num, by rw [hl4], by omega, HS, Lib.hid (by rw [hl4]; exact hL3), hb4⟩
              case measure => simp [intOf]; omega
            · have e2 : (x.toList == y.toList) = false := by
                rw [beq_eq_false_iff_ne]; exact fun q => hxy (toList_inj q)
              have HS := Lib.hid (HR.out.other (by rw [HX.out, HY.out]; intro e; injection e with e; exact hxy e.symm))
              clear hxy
              go_wp2
              go_quiet (fail)
              go_wp2
              go_roundw
              case rel => exact ⟨vs, A', c', k + 1, T, by omega, by omega, by go_num, rfl, hT, HS, Lib.hid (HL.out.up (below_drewN (Below.refl _ _) nq)), below_drewN hb2 nq⟩
              case measure => simp [intOf]; omega
          · have HD := Lib.hid (RepSt.done HR.out (.inr (by rintro rfl; simp at h100)))
            have hI2 : ¬ (T.length : Int) < 100 := by omega
            go_wp2
            go_roundw
            case rel => exact ⟨vs, A', c', j + 1, T, by omega, by go_num, rfl, hT, HD, HL, hb2⟩
            case measure => simp [intOf]; omega
        · have HD := Lib.hid (RepSt.done HR.out (.inl (by omega)))
          go_wp2
          go_roundw
          case rel => exact ⟨vs, A', c', j + 1, T, by omega, by go_num, rfl, hT, HD, HL, hb2⟩
          case measure => simp [intOf]; omega
    · obtain rfl : j = l.length := by omega
      go_wp2
      go_ret2
      exact ⟨vs, _, _, T, rfl, HL.out.base_le hw1, hT, HF.out, below_go hb1 hb2⟩
end Go.Proofs.Ytmdmnjjlpefigaa
