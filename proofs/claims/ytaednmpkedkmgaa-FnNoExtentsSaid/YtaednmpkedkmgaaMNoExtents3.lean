/- Texts 3 of 4 that the claim leans on: plain laws and the walks' contracts, in order. -/
import Derived.Test.YtaednmpkedkmgaaMNoExtents2
import Derived.Deep.DeepCutAuto
import Derived.Maps.StringElems
/- The walks through closures: the group that some rows generate, both sides. -/
namespace Go.Proofs.Ytaednmpkedkmgaa
set_option linter.unusedVariables false
set_option linter.unusedSimpArgs false
open Go.ChangeShapes Go.WideShapes Go.ChangeAt Go.RowKit Go.Deep
open Go.Maps (Keyed string_keyed)
open Go.WideMaps (keyOf_string_mk)
theorem pre_at {α : Type} {l m : List α} {k : Nat} {x : α} (h : l <+: m) (hx : l[k]? = some x) : m[k]? = some x := by
  obtain ⟨t, rfl⟩ := h
  rw [List.getElem?_append_left (List.getElem?_eq_some_iff.1 hx).1]; exact hx
theorem pre_len {α : Type} {l m : List α} (h : l <+: m) : l.length ≤ m.length := h.length_le
theorem own_lit1_at' {α : Type} {e : α → List Value} {s : Nat} (he : ∀ x, (e x).length = s) (w : World) (E : TypeId) (x : α) {b base : Nat} (h : b = w.heap.size) (hb : base ≤ w.heap.size) : Owned e s E (w.alloc (.cells ⟨e x⟩ E)) base (some ⟨b, 0, none⟩) 1 1 [x] := by
  subst h
  exact ⟨he, rfl, by simpa using World.ownsRow_lit (e := E) (base := base) (size := s) w ⟨e x⟩ 1 hb (by unfold maxLen; omega) (by simp [he])⟩
theorem wpList_set_ins {P : Program} {ops : Array Oper} {rest : List Oper} {o : Oper} {a : Act} {Q : Exit → Act → World → Prop} {W : World} (hgd : o.guard = none) (M X V : Operand) (t : TypeId) (hop : o.op = Op.insert t M X V)
    {k e : TypeId} (K : Keyed P k) (ht : P.underlying t = some (.map k e)) (he : P.underlying e = some .bool) {b n : Nat} {S : List Value} (hm : a.eval M = .map (some b)) (h : SetOf P W k e b n S) (hn : n ≤ 16777216) {key : Value} (hx : a.eval X = key) (hv : a.eval V = .bool true)
    {kl : Lit} (hkey : keyOf P k key = some kl) (hK : ∀ w', SetOf P w' k e b (n + 1) (key :: S) → W.grownBy w' (some b) → wpList P ops Q rest (a.put o.dst undef) w') : wpList P ops Q (o :: rest) a W := by
  obtain ⟨D, h1, h2⟩ := h
  obtain ⟨w', hrun, hown, hg⟩ := h1.update K ht (by unfold maxLen; omega) hkey (plainElem_bool he true)
  refine wpList_plain hgd fun K' hK' => ?_
  unfold Oper.wp
  simp [execOp, hop, hm, hx, hv, hrun, Result.andThen]
  refine hK' _ _ (hK w' ⟨_, hown, fun key' kl' hk' => ?_⟩ hg)
  by_cases ek : kl' = kl
  · subst ek
    have e1 : key' = key := K.inj hk' hkey
    subst e1
    rw [Maps.atKey_put_same h1.isMap (K.key hkey)]
    exact ⟨fun _ => rfl, fun hne => absurd (List.mem_cons_self ..) hne⟩
  · have e1 : key' ≠ key := fun e2 => ek (by rw [e2, hkey] at hk'; injection hk' with hk'; exact hk'.symm)
    rw [Maps.atKey_put_other ek]
    obtain ⟨a1, a2⟩ := h2 key' kl' hk'
    refine ⟨fun hi => a1 ?_, fun hi => a2 (fun hc => hi (List.mem_cons_of_mem _ hc))⟩
    rcases List.mem_cons.1 hi with hi | hi
    · exact absurd hi e1
    · exact hi
/-- The keys of a set of texts. -/
def keysS (L : List ByteArray) : List Value := (L.map strV).reverse
theorem keysS_mem {s : ByteArray} {L : List ByteArray} : strV s ∈ keysS L ↔ s ∈ L := by rw [keysS, List.mem_reverse, strV_mem]
theorem keysS_snoc (L : List ByteArray) (s : ByteArray) : keysS (L ++ [s]) = strV s :: keysS L := by rw [keysS, keysS, List.map_append, List.reverse_append]; rfl
set_option maxHeartbeats 1000000 in
set_option maxRecDepth 100000 in
theorem impl_generated {A : Option Addr} {N c n most : Nat} {gs : List ByteArray} {w : World} (hN : gs.length = N) (h : Strs w A gs) (hz : N ≤ 16777216) (h3 : 3 ≤ n) (h8 : n ≤ 8) (hg : ∀ g ∈ gs, RowN n g) (hm : 1 ≤ most) (hm2 : most ≤ 1000000) :
    Calls Try.prog 83 #[.int .i64 n, .slice A N c, .int .i64 most] w fun e w' => ∃ A' m' c', e = .returned (.tuple #[.slice A' m' c', .bool (decide ((clF n gs).length ≤ most))]) ∧ ((clF n gs).length ≤ most → m' = (clF n gs).length ∧ ∃ L, Owned strE 1 9 w' w.heap.size A' m' c' L ∧ L.Perm (clF n gs) ∧ Srt L) ∧ (¬ (clF n gs).length ≤ most → A' = none ∧ m' = 0 ∧ c' = 0) ∧ Below w.heap.size w w' := by
  subst hN
  have hmm := @run_makeMap Try.prog
  have KS := string_keyed (P := Try.prog) (k := 9) Try.underlying9
  have HG := Lib.hid hg
  have hr := rowN_rounds h3 h8
  have h40 : fact n ≤ 40320 := fact_le8 h8
  have HOK := Lib.hid (fun k => clAt_ok hr hg k)
  have HPF := Lib.hid (fun k x (hx : (clAt gs (roundsS n) k)[k]? = some x) j (hj : j ≤ gs.length) => clPart_F h3 h8 hg hx hj)
  have HEND := Lib.hid (fun k (hk : (clAt gs (roundsS n) k).length = k) => clF_end h3 h8 hg hk)
  have HLE := Lib.hid (fun k => (clAt_ok hr hg k).le)
  have hkr := keyOf_string_mk (P := Try.prog) (k := 9) Try.underlying9 (s := roundsS n) (by rw [hr.2]; unfold maxLen; omega)
  have HKR := Lib.hid hkr
  clear hg hkr
  have HM0 := Lib.hid (SetOf.made Try.prog w 9 4)
  go_in
  go_wp2_with (first | (go_at_call 55; refine (impl_rounds h8).mono ?_; rintro e w' ⟨rfl, rfl⟩) | (refine wpList_set_ins rfl (.tmp 14) (.tmp 16) (.const (.bool true)) 63 rfl KS Try.underlying63 Try.underlying4 rfl HM0.out ?_ (key := strV (roundsS n)) rfl rfl HKR.out ?_; (focus (first | omega | (simp only [World.size_alloc]; done) | (simp only [World.size_alloc]; omega) | (simp; done) | (simp; omega))); intro w1 hm1 hg1; have hb1 : Below w.heap.size w w1 := (((Below.refl _ _).alloc (Nat.le_refl _) (.map #[] 0)).grown hg1 (by simp) (fun k hk => by injection hk with hk; omega)); have hw1 : w.heap.size + 1 ≤ w1.heap.size := (by have := hg1.size; simp at this; omega)))
  clear hmm HM0
  have HM1 := Lib.hid (show SetOf Try.prog (w1.alloc (.cells #[.string (roundsS n)] 9)) 9 4 w.heap.size 1 (keysS (clAt gs (roundsS n) 0)) from (hm1.alloc _))
  clear hm1 hg1
  go_loopw [9, 10] (fun v i wr => ∃ (k : Nat) (A' : Option Addr) (c' : Nat), k ≤ (clAt gs (roundsS n) k).length ∧ (clAt gs (roundsS n) k).length ≤ most ∧ i = .int .i64 k ∧ v = .slice A' (clAt gs (roundsS n) k).length c' ∧ Hid (SetOf Try.prog wr 9 4 w.heap.size (clAt gs (roundsS n) k).length (keysS (clAt gs (roundsS n) k))) ∧ Hid (Owned strE 1 9 wr (w.heap.size + 1) A' (clAt gs (roundsS n) k).length c' (clAt gs (roundsS n) k)) ∧ Below w.heap.size w wr) (fun _ i _ => fact n - (intOf i).toNat)
  case atStart => exact ⟨0, some ⟨w1.heap.size, 0, none⟩, 1, Nat.zero_le _, hm, rfl, rfl, HM1, Lib.hid (own_lit1_at' strE_len w1 9 (roundsS n) rfl hw1), by (repeat' (first | (with_reducible exact Below.refl _ _) | (with_reducible assumption) | (with_reducible refine below_drewN ?_ _) | (with_reducible refine Below.drew ?_) | (with_reducible refine below_alloc ?_ _) | (with_reducible refine Below.alloc ?_ ?_ _) | (with_reducible refine Below.setCell ?_ ?_ _) | (with_reducible refine below_go ?_ (by with_reducible assumption)) | (with_reducible refine below_then (by with_reducible assumption) ?_ ?_) | go_size))⟩
  case round =>
    obtain ⟨k, A1, c1, hk, hkm, rfl, rfl, HM, HO, hb⟩ := hrel
    rename World => w2
    have hle := HLE.out k
    have hle1 := HLE.out (k + 1)
    by_cases hlt : k < (clAt gs (roundsS n) k).length
    · obtain ⟨x, hx⟩ := some_of_lt hlt
      have HX := Lib.hid hx
      have hxN := (HOK.out k).2 x (List.mem_of_getElem? hx)
      have HP := Lib.hid (fun j (hj : j ≤ gs.length) => HPF.out k x hx j hj)
      have HNX := Lib.hid (clAt_more (gs := gs) (r := roundsS n) hx)
      have HPO := Lib.hid (fun j => (HOK.out k).part hxN HG.out j)
      clear hx
      go_wp2
      go_loopw [9, 29] (fun v i wr => ∃ (j : Nat) (A' : Option Addr) (c' : Nat), j ≤ gs.length ∧ (clPart gs x j (clAt gs (roundsS n) k)).length ≤ most ∧ i = .int .i64 j ∧ v = .slice A' (clPart gs x j (clAt gs (roundsS n) k)).length c' ∧ Hid (SetOf Try.prog wr 9 4 w.heap.size (clPart gs x j (clAt gs (roundsS n) k)).length (keysS (clPart gs x j (clAt gs (roundsS n) k)))) ∧ Hid (Owned strE 1 9 wr (w.heap.size + 1) A' (clPart gs x j (clAt gs (roundsS n) k)).length c' (clPart gs x j (clAt gs (roundsS n) k))) ∧ Below w.heap.size w wr) (fun _ i _ => gs.length - (intOf i).toNat)
      case atStart => exact ⟨0, A1, c1, Nat.zero_le _, hkm, rfl, rfl, HM, HO, hb⟩
      case round =>
        clear HM HO hb
        obtain ⟨j, A1, c1, hj, hjm, rfl, rfl, HM, HO, hb⟩ := hrel
        rename World => w3
        have hlen := (HPO.out j).le
        have hpl := pre_len (clPart_pre gs x j (clAt gs (roundsS n) k))
        by_cases hjl : j < gs.length
        · obtain ⟨b1, o1, g, rfl, hbb, hgj, hcg0⟩ := h.at_str hjl
          have hcg := (hb.cell (p := ⟨b1, o1 + j, none⟩) hbb).trans hcg0
          obtain ⟨b2, rfl, hb2lo, _, gc, _⟩ := HO.out.at_ (by omega)
          have hcx := gc k x 0 _ (pre_at (clPart_pre gs x j (clAt gs (roundsS n) k)) HX.out) rfl
          simp only [Nat.mul_one, Nat.add_zero] at hcx
          have hgN := HG.out g (List.mem_of_getElem? hgj)
          have hft := rowN_fits hxN hgN
          have hxs : x.size ≤ 16777216 := by rw [hxN.2]; omega
          have hgz : g.size ≤ 16777216 := by rw [hgN.2]; omega
          have hrN := hxN.times hgN
          have HS := Lib.hid (clPart_succ (x := x) (clAt gs (roundsS n) k) hgj)
          obtain ⟨r, hr'⟩ : ∃ r, r = timesS x g := ⟨_, rfl⟩
          have HRD := Lib.hid hr'
          have hkey := keyOf_string_mk (P := Try.prog) (k := 9) Try.underlying9 (s := r) (by rw [hr', hrN.2]; unfold maxLen; omega)
          have HKEY := Lib.hid hkey
          clear gc hgj hcg0 hkey hr'
          go_wp2_with fail
          refine (impl_times hxs hgz hft).mono ?_; rw [← HRD.out]; rintro e w4 ⟨rfl, hb4⟩
          clear hcx hcg hft
          have hB4 := below_go hb hb4
          have HM4 := Lib.hid (HM.out.up hb4)
          have HO4 := Lib.hid (HO.out.up hb4)
          have lk := HM4.out.look (t := 63) KS Try.underlying63 Try.underlying4 (by kernel_rfl) HKEY.out
          have mem : strV r ∈ keysS (clPart gs x j (clAt gs (roundsS n) k)) ↔ r ∈ clPart gs x j (clAt gs (roundsS n) k) := keysS_mem
          by_cases hin : r ∈ clPart gs x j (clAt gs (roundsS n) k)
          · have lk1 := lk.1 (mem.2 hin)
            have e1 := Lib.hid (show clPart gs x (j + 1) (clAt gs (roundsS n) k) = clPart gs x j (clAt gs (roundsS n) k) by rw [HS.out, clAdd_in (by rw [← HRD.out]; exact hin)])
            clear lk mem hin
            go_wp2
            go_roundw
            case rel => exact ⟨j + 1, _, _, by omega, by rw [e1.out]; exact hjm, by go_num, by rw [e1.out], Lib.hid (by rw [e1.out]; exact HM4.out), Lib.hid (by rw [e1.out]; exact HO4.out), hB4⟩
            case measure => simp [intOf]; omega
          · have lk1 := lk.2 (fun q => hin (mem.1 q))
            have e1 := Lib.hid (show clPart gs x (j + 1) (clAt gs (roundsS n) k) = clPart gs x j (clAt gs (roundsS n) k) ++ [r] by rw [HS.out, clAdd_new (by rw [← HRD.out]; exact hin), ← HRD.out])
            have hl1 := pre_len (HP.out (j + 1) (by omega))
            rw [e1.out, List.length_append, List.length_singleton] at hl1
            clear lk mem hin
            by_cases hmost : (clPart gs x j (clAt gs (roundsS n) k)).length = most
            · have hq : ((clPart gs x j (clAt gs (roundsS n) k)).length : Int) = (most : Int) := by omega
              have hno := Lib.hid (show ¬ (clF n gs).length ≤ most by omega)
              have hdec := Lib.hid (decide_eq_false hno.out)
              clear hmost
              go_wp2
              go_ret2
              rw [hdec.out]
              exact ⟨none, 0, 0, rfl, fun q => absurd q hno.out, fun _ => ⟨rfl, rfl, rfl⟩, hB4⟩
            · have hq : ¬ ((clPart gs x j (clAt gs (roundsS n) k)).length : Int) = (most : Int) := by omega
              have hno : b2 ≠ w.heap.size := by omega
              have hs4 := hb4.size
              have el : (clPart gs x j (clAt gs (roundsS n) k) ++ [r]).length = (clPart gs x j (clAt gs (roundsS n) k)).length + 1 := by simp
              have EL := Lib.hid el
              have hlm : (clPart gs x j (clAt gs (roundsS n) k)).length + 1 ≤ most := by omega
              clear hmost el
              go_wp2_with (first | (at_mapUpdate; go_must ((refine wpList_set_add rfl (.tmp 46) (.tmp 47) (.const (.bool true)) 63 rfl KS Try.underlying63 Try.underlying4 rfl HM4.out ?_ (key := strV r) rfl rfl HKEY.out ?_; (focus (first | omega | (simp only [World.size_alloc]; done) | (simp only [World.size_alloc]; omega) | (simp; done) | (simp; omega))); intro w5 hm5 hg5; have HO5 := Lib.hid (HO4.out.past hg5 (Nat.lt_succ_self _)); have hs5 := hg5.size))) | (at_builtin; go_must ((refine wpList_append_recs Try.elStr strE_one rfl (.tmp 48) (.tmp 50) rfl rfl (HO5.out.alloc _) rfl (own_lit1_at' strE_len w5 9 r rfl (Nat.le_refl _)).recs rfl ?_ (by decide) ?_ ?_; (focus (first | omega | (simp only [World.size_alloc]; done) | (simp only [World.size_alloc]; omega) | (simp; done) | (simp; omega))); (focus (first | omega | (simp only [World.size_alloc]; done) | (simp only [World.size_alloc]; omega) | (simp; done) | (simp; omega))); intro A3 c3 w6 ho6 hg6 hl6))))
              have hm6 := (hm5.alloc (.cells #[.string r] 9)).kept hg6 (fun e => by injection e with e; exact hno e.symm)
              have hb6 : Below w.heap.size w w6 := ((hB4.grown hg5 hB4.size (fun k hk => by injection hk with hk; omega)).alloc (by omega) _).trans (grown_base hg6 (by simp; omega) (fun k hk => by injection hk with hk; dsimp only at hk; omega))
              go_roundw
              case rel => exact ⟨j + 1, A3, c3, by omega, by rw [e1.out, EL.out]; omega, by go_num, by rw [e1.out, EL.out], Lib.hid (by rw [e1.out, EL.out, keysS_snoc]; exact hm6), Lib.hid (by rw [e1.out, EL.out]; exact ho6), hb6⟩
              case measure => simp [intOf]; omega
        · obtain rfl : j = gs.length := by omega
          have e1 := Lib.hid HNX.out.symm
          go_wp2
          go_roundw
          case rel => exact ⟨k + 1, A1, c1, by rw [HNX.out]; omega, by rw [HNX.out]; exact hjm, by go_num, by rw [HNX.out], Lib.hid (by rw [HNX.out]; exact HM.out), Lib.hid (by rw [HNX.out]; exact HO.out), hb⟩
          case measure => simp [intOf]; omega
    · have hke : (clAt gs (roundsS n) k).length = k := by omega
      have e1 := Lib.hid (HEND.out k hke)
      have hkp : 0 < (clAt gs (roundsS n) k).length := clAt_pos k
      obtain ⟨b2, rfl, hb2lo, hb2hi, _, _⟩ := HO.out.at_ hkp
      clear hke
      go_wp2_with fail
      refine (sort_strs HO.out (by omega)).mono ?_; rintro e w3 ⟨rfl, L, hoL, hpL, hsL, hg3⟩
      have hb3 : Below w.heap.size w w3 := hb.grown hg3 hb.size (fun k hk => by injection hk with hk; omega)
      go_wp2
      go_ret2
      rw [e1.out, decide_eq_true hkm]
      exact ⟨_, _, _, rfl, fun _ => ⟨rfl, L, hoL.base_le (Nat.le_succ _), hpL, hsL⟩, fun q => absurd hkm q, hb3⟩
end Go.Proofs.Ytaednmpkedkmgaa
/- The walks through the generators of changes for extents. -/
namespace Go.Proofs.Ytaednmpkedkmgaa
set_option linter.unusedVariables false
set_option linter.unusedSimpArgs false
open Go.ChangeShapes Go.WideShapes Go.ChangeAt Go.RowKit Go.Deep
theorem cur_fresh (w : World) (A : Option Addr) (n c : Nat) : Cur (w.alloc (.cells #[.slice A n c, .int .i64 0, .int .u64 0] 48)) w.heap.size A n c 0 :=
  ⟨0, 0, Blk.at_ w 48 [.slice A n c, .int .i64 0, .int .u64 0] rfl, Nat.le_refl _, by omega, by omega⟩
theorem Src.over {w w' : World} {A : Option Addr} {n : Nat} (h : Src w A n) (hb : Below w.heap.size w w') : Src w' A n := by
  obtain ⟨l, h1, h2, h3, h4⟩ := h
  exact ⟨l, h1, h2, h3, h4.up hb⟩
theorem cur_stage {A : Option Addr} {n c a p : Nat} {w0 w : World} (hS : Src w0 A n) (hb : Below w0.heap.size w0 w) (hp : w0.heap.size ≤ p) (hc : Cur w p A n c a) (ha : a ≤ 16777216) :
    Calls Try.prog 98 #[.pointer (some ⟨p, 0, none⟩)] w fun e w' => ∃ x : Nat, e = .returned (.int .i64 (x : Int)) ∧ 3 ≤ x ∧ x ≤ 8 ∧ Cur w' p A n c (a + 1) ∧ w.grownBy w' (some p) := by
  have hl := lit_ints w 3 [4, 4, 5, 5, 6, 6, 3, 7, 8]
  have hlt := hc.lt
  go_in
  go_wp2_with fail
  refine (cur_among hS (hb.alloc hb.size _) hp (hc.up ((Below.refl _ _).alloc (Nat.le_refl _) _)) ha rfl hl (by decide) (by decide) (fun b o e => by injection e with e; injection e with e; omega)).mono ?_; rintro e w1 ⟨x, hx, rfl, hc1, hg1⟩
  go_wp2
  go_ret
  simp only [List.mem_cons, List.not_mem_nil, or_false] at hx
  refine ⟨x.toNat, ?_, by omega, by omega, hc1, grownBy_trans (World.grownBy_alloc _ _ _) hg1⟩
  rw [show ((x.toNat : Nat) : Int) = x by omega]
  rfl
theorem chs_small {n : Nat} {L : List ByteArray} (hn : n ≤ 8) (h : L.Perm (chsRaw n)) : L.length ≤ 34 ∧ ∀ s ∈ L, s.size ≤ 8 := by
  constructor
  · rw [h.length_eq, chsRaw]
    refine Nat.le_trans (List.length_filter_le _ _) ?_
    rw [List.length_map]; exact fromK_le hn 1
  · intro s hs
    have h1 := (h.mem_iff).1 hs
    rw [chsRaw, List.mem_filter] at h1
    rcases q : sizeOk n s
    · have := h1.2; rw [goodChange_size q] at this; cases this
    · have := sizeOk_t q; omega
set_option maxHeartbeats 2000000 in
set_option maxRecDepth 100000 in
theorem cur_with {A : Option Addr} {n c a p N : Nat} {w0 w : World} (hS : Src w0 A n) (hb : Below w0.heap.size w0 w) (hp : w0.heap.size ≤ p) (hc : Cur w p A n c a) (ha : a ≤ 1000000) (hN : N ≤ 8) :
    Calls Try.prog 51 #[.pointer (some ⟨p, 0, none⟩), .int .i64 N] w fun e w' => ∃ A' m c' L, e = .returned (.slice A' m c') ∧ m ≤ 34 ∧ (∀ s ∈ L, s.size ≤ 8) ∧ Owned strE 1 9 w' w.heap.size A' m c' L ∧ Cur w' p A n c (a + 100) ∧ w.grownBy w' (some p) := by
  have hpw := hc.lt
  go_in
  go_wp2_with fail
  refine (spec_l2All hN).mono ?_; rintro e w1 ⟨A1, c1, L, rfl, ho1, hperm, hb1⟩
  have hsm := chs_small hN hperm
  have HSM := Lib.hid hsm.2
  have hlen := hsm.1
  have HL := Lib.hid ho1
  have hsz1 := hb1.size
  have hc1 := hc.up hb1
  have G1 : Hid (∀ u : World, w1.grownBy u (some p) → Below w0.heap.size w0 u) := Lib.hid (fun u hg => grown_below hb hp (grownBy_trans (grown_any hb1 _) hg))
  have G2 : Hid (∀ u : World, w1.grownBy u (some p) → w.grownBy u (some p)) := Lib.hid (fun u hg => grownBy_trans (grown_any hb1 _) hg)
  have HS := Lib.hid hS
  clear hb hc ho1 hperm hsm hb1 hS
  go_wp2
  go_loopw [5, 11] (fun v i wr => ∃ (k m : Nat) (A' : Option Addr) (c' : Nat) (L' : List ByteArray), k ≤ L.length ∧ i = .int .i64 k ∧ v = .slice A' m c' ∧ m ≤ k ∧ Hid (∀ s ∈ L', s.size ≤ 8) ∧ Hid (Owned strE 1 9 wr w1.heap.size A' m c' L') ∧ Hid (Cur wr p A n c (a + k)) ∧ Hid (w1.grownBy wr (some p))) (fun _ i _ => L.length - (intOf i).toNat)
  case atStart => exact ⟨0, 0, none, 0, [], Nat.zero_le _, rfl, rfl, Nat.le_refl _, Lib.hid (fun s hs => by cases hs), Lib.hid (Owned.nil strE_len _ _ _), Lib.hid (hc1.mono (by omega)), Lib.hid (grown_any (Below.refl _ _) _)⟩
  case round =>
    obtain ⟨k, m, A2, c2, L2, hk, rfl, rfl, hmk, HZ, HO, HC, HG⟩ := hrel
    rename World => wr
    by_cases hlt : k < L.length
    · have hst := (HL.out.past HG.out hpw).recs
      obtain ⟨b3, o3, y, rfl, hbb, hy, hcy⟩ := hst.at_str hlt
      have hyz := HSM.out y (List.mem_of_getElem? hy)
      clear hy hst
      go_wp2_with fail
      refine (cur_one HS.out (G1.out _ HG.out) hp HC.out (by omega) (by decide) (by decide)).mono ?_; rintro e w4 ⟨b, rfl, hc4, hg4⟩
      have HO4 := Lib.hid (HO.out.past hg4 (by omega))
      have HC4 := Lib.hid hc4
      have HG4 := Lib.hid (grownBy_trans HG.out hg4)
      have hs4 := HG4.out.size
      clear hc4 hg4 hcy
      rcases b
      · go_wp2_with (first | (at_builtin; go_must ((refine wpList_append_recs Try.elStr strE_one rfl (.tmp 18) (.tmp 20) rfl rfl (HO4.out.alloc _) rfl (own_lit1_at' strE_len _ 9 y rfl (Nat.le_refl _)).recs rfl ?_ (by decide) ?_ ?_; (focus (first | omega | (simp only [World.size_alloc]; done) | (simp only [World.size_alloc]; omega) | (simp; done) | (simp; omega))); (simp; omega); intro A3 c3 w6 ho6 hg6 hl6; have HO6 := Lib.hid ho6; have HC6 := Lib.hid ((HC4.out.up ((Below.refl _ _).alloc (Nat.le_refl _) _)).grown hg6 (fun e => by have := (HO4.out.blk e.symm).1; omega)); have HG6 := Lib.hid (grow_own (grownBy_trans HG4.out (World.grownBy_alloc _ _ _)) hg6 (fun k hk => (HO4.out.blk hk).1)); clear ho6 hg6 hl6))))
        go_roundw
        case rel => exact ⟨k + 1, m + 1, A3, c3, L2 ++ [y], by omega, by go_num, by go_num, by omega, Lib.hid (fun s hs => by
            rcases List.mem_append.1 hs with hs | hs
            · exact HZ.out s hs
            · rw [List.mem_singleton.1 hs]; exact hyz), HO6, Lib.hid (HC6.out.mono (by omega)), HG6⟩
        case measure => simp [intOf]; omega
      · go_wp2
        go_roundw
        case rel => exact ⟨k + 1, m, A2, c2, L2, by omega, by go_num, rfl, by omega, HZ, HO4, Lib.hid (HC4.out.mono (by omega)), HG4⟩
        case measure => simp [intOf]; omega
    · obtain rfl : k = L.length := by omega
      have hsr := HG.out.size
      by_cases hm0 : 0 < m
      · have hI : (0 : Int) < (m : Int) := by omega
        have hL2 := HO.out.len
        go_wp2_with fail
        refine (cur_one HS.out (G1.out _ HG.out) hp HC.out (by omega) (by decide) (by decide)).mono ?_; rintro e w4 ⟨b, rfl, hc4, hg4⟩
        have HO4 := Lib.hid (HO.out.past hg4 (by omega))
        have HC4 := Lib.hid hc4
        have HG4 := Lib.hid (grownBy_trans HG.out hg4)
        clear hc4 hg4
        rcases b
        · go_wp2
          go_ret
          exact ⟨_, _, _, L2, rfl, by omega, HZ.out, HO4.out.base_le hsz1, HC4.out.mono (by omega), G2.out _ HG4.out⟩
        · obtain ⟨f, rfl, f0, f1, fc, ff⟩ := HO4.out.at_ (by omega)
          obtain ⟨y, hy⟩ := some_of_lt (l := L2) (k := 0) (by omega)
          have cf := fc 0 y 0 _ hy rfl
          have zf := ff 0
          simp only [Nat.mul_one, Nat.add_zero, Nat.zero_mul] at cf
          have pt := HO4.out.put (k := 0) (j := 0) (x := ⟨#[120]⟩) (u := .string ⟨#[120]⟩) hy (by decide) rfl
          simp only [Nat.mul_one, Nat.add_zero, Nat.zero_mul] at pt
          have HPT := Lib.hid pt
          clear fc ff hy pt
          go_wp2
          go_ret
          exact ⟨_, _, _, L2.set 0 ⟨#[120]⟩, rfl, by omega, fun s hs => by
            rcases List.mem_or_eq_of_mem_set hs with hs | hs
            · exact HZ.out s hs
            · rw [hs]; decide, HPT.out.1.base_le hsz1, (HC4.out.grown HPT.out.2 (fun e => by injection e with e; omega)).mono (by omega), G2.out _ (grow_own HG4.out HPT.out.2 (fun k e => by injection e with e; omega))⟩
      · have hI : ¬ (0 : Int) < (m : Int) := by omega
        obtain rfl : m = 0 := by omega
        go_wp2
        go_ret
        exact ⟨_, _, _, rfl, by omega, L2, HZ.out, HO.out.base_le hsz1, HC.out.mono (by omega), G2.out _ HG.out⟩
set_option maxHeartbeats 1000000 in
set_option maxRecDepth 100000 in
theorem draw_FindExtent {A : Option Addr} {n c : Nat} {w : World} (hS : Src w A n) :
    Calls Try.prog 17 #[.slice A n c] w fun e w' => ∃ (N : Nat) (A1 : Option Addr) (n1 c1 : Nat) (l1 : List ByteArray) (s : Int), e = .returned (.tuple #[.int .i64 N, .slice A1 n1 c1, .int .i64 s]) ∧ l1.length = n1 ∧ n1 ≤ 34 ∧ (∀ s ∈ l1, s.size ≤ 16777216) ∧ Strs w' A1 l1 ∧ 0 ≤ s ∧ s ≤ 200001 ∧ N ≤ 5 ∧ Below w.heap.size w w' := by
  have b0 : Below w.heap.size w (w.alloc (.cells #[.slice A n c, .int .i64 0, .int .u64 0] 48)) := by (repeat' (first | (with_reducible exact Below.refl _ _) | (with_reducible assumption) | (with_reducible refine below_drewN ?_ _) | (with_reducible refine Below.drew ?_) | (with_reducible refine below_alloc ?_ _) | (with_reducible refine Below.alloc ?_ ?_ _) | (with_reducible refine Below.setCell ?_ ?_ _) | (with_reducible refine below_go ?_ (by with_reducible assumption)) | (with_reducible refine below_then (by with_reducible assumption) ?_ ?_) | go_size))
  have c0 := cur_fresh w A n c
  go_in
  go_wp2_with fail
  obtain ⟨w1, hw1⟩ : ∃ u, u = w.alloc (.cells #[.slice A n c, .int .i64 0, .int .u64 0] 48) := ⟨_, rfl⟩
  rw [← hw1] at b0 c0 ⊢
  clear hw1
  refine (cur_pick hS b0 (Nat.le_refl _) c0 (by omega) (by omega) (by omega)).mono ?_; rintro e w2 ⟨x, rfl, ⟨x0, x1⟩, hc2, hg2⟩
  have hB2 := grown_below b0 (Nat.le_refl _) hg2
  obtain ⟨X, rfl⟩ := Int.eq_ofNat_of_zero_le x0
  go_wp2_with fail
  refine (cur_pick hS hB2 (Nat.le_refl _) hc2 (by omega) (by omega) (by omega)).mono ?_; rintro e w3 ⟨y, rfl, ⟨y0, y1⟩, hc3, hg3⟩
  have hB3 := grown_below hB2 (Nat.le_refl _) hg3
  obtain ⟨Y, rfl⟩ := Int.eq_ofNat_of_zero_le y0
  have hX : X ≤ 1 := by omega
  have hY : Y ≤ 19 := by omega
  clear x0 x1 y0 y1 hg2 hg3 hB2 hc2
  have ew : IntKind.i64.wrap ((Y : Int) / 19) = (Y : Int) / 19 := wrap_id (by omega)
  have hN : 3 + X + Y / 19 ≤ 5 := by omega
  go_wp2_with fail
  have hadd : (3 : Int) + (X : Int) + (Y : Int) / 19 = ((3 + X + Y / 19 : Nat) : Int) := by omega
  first | rw [hadd] | skip
  refine (cur_with (N := 3 + X + Y / 19) hS hB3 (Nat.le_refl _) hc3 (by omega) (by omega)).mono ?_; rintro e w4 ⟨A4, m, c4, L, rfl, hm, hz, ho, hc4, hg4⟩
  have hB4 := grown_below hB3 (Nat.le_refl _) hg4
  have hl := lit_ints w4 3 [1, 50, 500, 2000, 2000, 200001]
  have hlt := hc4.lt
  have hsz3 := hB3.size
  have ha4 : w4.grownBy (w4.alloc (.cells ⟨([1, 50, 500, 2000, 2000, 200001] : List Int).map fun x => Value.int .i64 x⟩ 3)) (some w.heap.size) := World.grownBy_alloc _ _ _
  go_wp2_with fail
  refine (cur_among hS (hB4.alloc hB4.size _) (Nat.le_refl _) (hc4.up ((Below.refl _ _).alloc (Nat.le_refl _) _)) (by omega) rfl hl (by decide) (by decide) (fun b o e => by injection e with e; injection e with e; omega)).mono ?_; rintro e w5 ⟨s, hs, rfl, hc5, hg5⟩
  have hg6 := grownBy_trans ha4 hg5
  go_wp2
  refine bodyPost_ret (v := .tuple #[.int .i64 ((3 + X + Y / 19 : Nat) : Int), .slice A4 m c4, .int .i64 s]) (by simp [results, Try.results17, go_sem] <;> (try constructor) <;> exact (Ending.returned.inj (by assumption)).symm) rfl ?_
  simp only [List.mem_cons, List.not_mem_nil, or_false] at hs
  exact ⟨3 + X + Y / 19, A4, m, c4, L, s, rfl, ho.len, hm, fun s hs => Nat.le_trans (hz s hs) (by decide), (ho.past hg6 hc3.lt).recs, by omega, by omega, hN, grown_below hB4 (Nat.le_refl _) hg6⟩
set_option maxHeartbeats 1000000 in
set_option maxRecDepth 100000 in
theorem draw_CountExtents {A : Option Addr} {n c : Nat} {w : World} (hS : Src w A n) :
    Calls Try.prog 31 #[.slice A n c] w fun e w' => ∃ (N : Nat) (A1 : Option Addr) (n1 c1 : Nat) (l1 : List ByteArray), e = .returned (.tuple #[.int .i64 N, .slice A1 n1 c1]) ∧ l1.length = n1 ∧ n1 ≤ 34 ∧ (∀ s ∈ l1, s.size ≤ 16777216) ∧ Strs w' A1 l1 ∧ N ≤ 8 ∧ Below w.heap.size w w' := by
  have b0 : Below w.heap.size w (w.alloc (.cells #[.slice A n c, .int .i64 0, .int .u64 0] 48)) := by (repeat' (first | (with_reducible exact Below.refl _ _) | (with_reducible assumption) | (with_reducible refine below_drewN ?_ _) | (with_reducible refine Below.drew ?_) | (with_reducible refine below_alloc ?_ _) | (with_reducible refine Below.alloc ?_ ?_ _) | (with_reducible refine Below.setCell ?_ ?_ _) | (with_reducible refine below_go ?_ (by with_reducible assumption)) | (with_reducible refine below_then (by with_reducible assumption) ?_ ?_) | go_size))
  have c0 := cur_fresh w A n c
  go_in
  go_wp2_with fail
  obtain ⟨w1, hw1⟩ : ∃ u, u = w.alloc (.cells #[.slice A n c, .int .i64 0, .int .u64 0] 48) := ⟨_, rfl⟩
  rw [← hw1] at b0 c0 ⊢
  clear hw1
  refine (cur_pick hS b0 (Nat.le_refl _) c0 (by omega) (by omega) (by omega)).mono ?_; rintro e w2 ⟨x, rfl, ⟨x0, x1⟩, hc2, hg2⟩
  have hB2 := grown_below b0 (Nat.le_refl _) hg2
  obtain ⟨X, rfl⟩ := Int.eq_ofNat_of_zero_le x0
  have hX : X ≤ 9 := by omega
  have ew : IntKind.i64.wrap ((X : Int) / 9) = (X : Int) / 9 := wrap_id (by omega)
  clear x0 x1 hg2
  go_wp2_with fail
  have hadd : (3 : Int) + (X : Int) / 9 = ((3 + X / 9 : Nat) : Int) := by omega
  first | rw [hadd] | skip
  refine (cur_with (N := 3 + X / 9) hS hB2 (Nat.le_refl _) hc2 (by omega) (by omega)).mono ?_; rintro e w4 ⟨A4, m, c4, L, rfl, hm, hz, ho, hc4, hg4⟩
  have hB4 := grown_below hB2 (Nat.le_refl _) hg4
  go_wp2
  refine bodyPost_ret (v := .tuple #[.int .i64 ((3 + X / 9 : Nat) : Int), .slice A4 m c4]) (by simp [results, Try.results31, go_sem] <;> (try constructor) <;> exact (Ending.returned.inj (by assumption)).symm) rfl ?_
  exact ⟨3 + X / 9, A4, m, c4, L, rfl, ho.len, hm, fun s hs => Nat.le_trans (hz s hs) (by decide), ho.recs, by omega, hB4⟩
set_option maxHeartbeats 1000000 in
set_option maxRecDepth 100000 in
theorem draw_OddsIn {A : Option Addr} {n c : Nat} {w : World} (hS : Src w A n) :
    Calls Try.prog 86 #[.slice A n c] w fun e w' => ∃ (N : Nat) (A1 : Option Addr) (n1 c1 : Nat) (l1 : List ByteArray), e = .returned (.tuple #[.int .i64 N, .slice A1 n1 c1]) ∧ l1.length = n1 ∧ n1 ≤ 34 ∧ (∀ s ∈ l1, s.size ≤ 16777216) ∧ Strs w' A1 l1 ∧ N ≤ 8 ∧ Below w.heap.size w w' := by
  have b0 : Below w.heap.size w (w.alloc (.cells #[.slice A n c, .int .i64 0, .int .u64 0] 48)) := by (repeat' (first | (with_reducible exact Below.refl _ _) | (with_reducible assumption) | (with_reducible refine below_drewN ?_ _) | (with_reducible refine Below.drew ?_) | (with_reducible refine below_alloc ?_ _) | (with_reducible refine Below.alloc ?_ ?_ _) | (with_reducible refine Below.setCell ?_ ?_ _) | (with_reducible refine below_go ?_ (by with_reducible assumption)) | (with_reducible refine below_then (by with_reducible assumption) ?_ ?_) | go_size))
  have c0 := cur_fresh w A n c
  go_in
  go_wp2_with fail
  obtain ⟨w1, hw1⟩ : ∃ u, u = w.alloc (.cells #[.slice A n c, .int .i64 0, .int .u64 0] 48) := ⟨_, rfl⟩
  rw [← hw1] at b0 c0 ⊢
  clear hw1
  refine (cur_stage hS b0 (Nat.le_refl _) c0 (by omega)).mono ?_; rintro e w2 ⟨X, rfl, x0, x1, hc2, hg2⟩
  have hB2 := grown_below b0 (Nat.le_refl _) hg2
  go_wp2_with fail
  refine (cur_with hS hB2 (Nat.le_refl _) hc2 (by omega) (by omega)).mono ?_; rintro e w4 ⟨A4, m, c4, L, rfl, hm, hz, ho, hc4, hg4⟩
  have hB4 := grown_below hB2 (Nat.le_refl _) hg4
  go_wp2
  refine bodyPost_ret (v := .tuple #[.int .i64 (X : Int), .slice A4 m c4]) (by simp [results, Try.results86, go_sem] <;> (try constructor) <;> exact (Ending.returned.inj (by assumption)).symm) rfl ?_
  exact ⟨X, A4, m, c4, L, rfl, ho.len, hm, fun s hs => Nat.le_trans (hz s hs) (by decide), ho.recs, by omega, hB4⟩
theorem draw_ReachBy {A : Option Addr} {n c : Nat} {w : World} (hS : Src w A n) :
    Calls Try.prog 33 #[.slice A n c] w fun e w' => ∃ (N : Nat) (A1 : Option Addr) (n1 c1 : Nat) (l1 : List ByteArray), e = .returned (.tuple #[.int .i64 N, .slice A1 n1 c1]) ∧ l1.length = n1 ∧ n1 ≤ 34 ∧ (∀ s ∈ l1, s.size ≤ 16777216) ∧ Strs w' A1 l1 ∧ N ≤ 8 ∧ Below w.heap.size w w' := by
  go_in
  go_wp2_with fail
  refine (draw_OddsIn hS).mono ?_; rintro e w2 ⟨N, A1, n1, c1, l1, rfl, h1, h2, h3, h4, h5, h6⟩
  go_wp2
  refine bodyPost_ret (v := .tuple #[.int .i64 (N : Int), .slice A1 n1 c1]) (by simp [results, Try.results33, go_sem] <;> (try constructor) <;> exact (Ending.returned.inj (by assumption)).symm) rfl ?_
  exact ⟨N, A1, n1, c1, l1, rfl, h1, h2, h3, h4, h5, h6⟩
end Go.Proofs.Ytaednmpkedkmgaa
/- Plain laws of the search for an extent, and of the count of all. -/
namespace Go.Proofs.Ytaednmpkedkmgaa
set_option linter.unusedVariables false
set_option linter.unusedSimpArgs false
open Go.ChangeShapes Go.WideShapes Go.ChangeAt Go.RowKit Go.Deep
/-- How a search ends: with a way, or with no step left; or it goes on with so many steps. -/
abbrev Fate := Option (List ByteArray) ⊕ Nat
def srchL (rec : ByteArray → List ByteArray → List ByteArray → Nat → Fate) (n : Nat) (full : Bool) (r : ByteArray) (V P : List ByteArray) : List ByteArray → Nat → Fate
  | [], left => .inr left
  | _ :: _, 0 => .inl none
  | c :: cs, left + 1 =>
    if full = true ∧ decide (applyR r c = roundsS n) = true then .inl (some (P ++ [c]))
    else if full = true ∨ inL V (applyR r c) = true then srchL rec n full r V P cs left
    else match rec (applyR r c) (V ++ [applyR r c]) (P ++ [c]) left with
      | .inr left' => srchL rec n full r V P cs left'
      | .inl o => .inl o
def srch (n : Nat) (W : List ByteArray) : Nat → ByteArray → List ByteArray → List ByteArray → Nat → Fate
  | 0, r, V, P, left => srchL (fun _ _ _ l => .inr l) n true r V P W left
  | d + 1, r, V, P, left => srchL (srch n W d) n false r V P W left
section
variable {rec : ByteArray → List ByteArray → List ByteArray → Nat → Fate} {n : Nat} {full : Bool} {r c : ByteArray} {V P cs : List ByteArray} {left : Nat}
theorem srchL_over : srchL rec n full r V P (c :: cs) 0 = .inl none := by rw [srchL]
theorem srchL_hit (h : full = true) (h2 : applyR r c = roundsS n) : srchL rec n full r V P (c :: cs) (left + 1) = .inl (some (P ++ [c])) := by
  rw [srchL, if_pos ⟨h, decide_eq_true h2⟩]
theorem srchL_skip (h : ¬ (full = true ∧ applyR r c = roundsS n)) (h2 : full = true ∨ inL V (applyR r c) = true) : srchL rec n full r V P (c :: cs) (left + 1) = srchL rec n full r V P cs left := by
  rw [srchL, if_neg (fun q => h ⟨q.1, of_decide_eq_true q.2⟩), if_pos h2]
theorem srchL_in (h : full = false) (h2 : inL V (applyR r c) = false) : srchL rec n full r V P (c :: cs) (left + 1) = match rec (applyR r c) (V ++ [applyR r c]) (P ++ [c]) left with
      | .inr left' => srchL rec n full r V P cs left'
      | .inl o => .inl o := by
  rw [srchL, if_neg (fun q => by rw [h] at q; cases q.1), if_neg (fun q => by rw [h, h2] at q; rcases q with q | q <;> cases q)]
theorem srchL_in_go {l : Nat} (h : full = false) (h2 : inL V (applyR r c) = false) (h3 : rec (applyR r c) (V ++ [applyR r c]) (P ++ [c]) left = .inr l) : srchL rec n full r V P (c :: cs) (left + 1) = srchL rec n full r V P cs l := by
  rw [srchL_in h h2, h3]
theorem srchL_in_end {o : Option (List ByteArray)} (h : full = false) (h2 : inL V (applyR r c) = false) (h3 : rec (applyR r c) (V ++ [applyR r c]) (P ++ [c]) left = .inl o) : srchL rec n full r V P (c :: cs) (left + 1) = .inl o := by
  rw [srchL_in h h2, h3]
end
theorem srchL_le {rec : ByteArray → List ByteArray → List ByteArray → Nat → Fate} (hr : ∀ r V P left l, rec r V P left = .inr l → l ≤ left) (n : Nat) (full : Bool) (r : ByteArray) (V P : List ByteArray) : ∀ (cs : List ByteArray) (left l : Nat), srchL rec n full r V P cs left = .inr l → l ≤ left
  | [], left, l, h => by rw [srchL] at h; injection h with h; omega
  | c :: cs, 0, l, h => by rw [srchL] at h; cases h
  | c :: cs, left + 1, l, h => by
    rw [srchL] at h
    split at h
    · cases h
    · split at h
      · have := srchL_le hr n full r V P cs left l h; omega
      · rcases q : rec (applyR r c) (V ++ [applyR r c]) (P ++ [c]) left with o | l2
        · rw [q] at h; cases h
        · rw [q] at h
          have h1 := srchL_le hr n full r V P cs l2 l h
          have h2 := hr _ _ _ _ _ q
          omega
theorem srch_le (n : Nat) (W : List ByteArray) : ∀ (d : Nat) (r : ByteArray) (V P : List ByteArray) (left l : Nat), srch n W d r V P left = .inr l → l ≤ left
  | 0, r, V, P, left, l, h => srchL_le (fun r V P left l h => by injection h with h; omega) n true r V P W left l h
  | d + 1, r, V, P, left, l, h => srchL_le (srch_le n W d) n false r V P W left l h
/-- All ways on. -/
def cntL (rec : ByteArray → List ByteArray → Nat) (n : Nat) (full : Bool) (r : ByteArray) (V : List ByteArray) : List ByteArray → Nat
  | [] => 0
  | c :: cs =>
    if full = true then (if decide (applyR r c = roundsS n) = true then 1 else 0) + cntL rec n full r V cs
    else if inL V (applyR r c) = true then cntL rec n full r V cs
    else rec (applyR r c) (V ++ [applyR r c]) + cntL rec n full r V cs
def cntX (n : Nat) (W : List ByteArray) : Nat → ByteArray → List ByteArray → Nat
  | 0, r, V => cntL (fun _ _ => 0) n true r V W
  | d + 1, r, V => cntL (cntX n W d) n false r V W
/-- How many steps that takes. -/
def stpL (rec : ByteArray → List ByteArray → Nat) (full : Bool) (r : ByteArray) (V : List ByteArray) : List ByteArray → Nat
  | [] => 0
  | c :: cs => 1 + (if full = true ∨ inL V (applyR r c) = true then 0 else rec (applyR r c) (V ++ [applyR r c])) + stpL rec full r V cs
def stpX (W : List ByteArray) : Nat → ByteArray → List ByteArray → Nat
  | 0, r, V => stpL (fun _ _ => 0) true r V W
  | d + 1, r, V => stpL (stpX W d) false r V W
def stB (k : Nat) : Nat → Nat
  | 0 => k
  | d + 1 => k * (1 + stB k d)
theorem stpL_le {rec : ByteArray → List ByteArray → Nat} {B : Nat} (hr : ∀ r V, rec r V ≤ B) (full : Bool) (r : ByteArray) (V : List ByteArray) : ∀ cs : List ByteArray, stpL rec full r V cs ≤ cs.length * (1 + B)
  | [] => by simp [stpL]
  | c :: cs => by
    have h1 := stpL_le hr full r V cs
    rw [stpL, List.length_cons, Nat.succ_mul]
    split
    · omega
    · have := hr (applyR r c) (V ++ [applyR r c]); omega
theorem stpX_le (W : List ByteArray) : ∀ (d : Nat) (r : ByteArray) (V : List ByteArray), stpX W d r V ≤ stB W.length d
  | 0, r, V => by have := stpL_le (rec := fun _ _ => 0) (B := 0) (fun _ _ => Nat.le_refl _) true r V W; rw [stpX, stB]; omega
  | d + 1, r, V => stpL_le (stpX_le W d) false r V W
theorem stB_mono {j k : Nat} (h : j ≤ k) : ∀ d, stB j d ≤ stB k d
  | 0 => h
  | d + 1 => Nat.mul_le_mul h (by have := stB_mono h d; omega)
theorem cntL_le {rec : ByteArray → List ByteArray → Nat} {n B : Nat} (hB : 1 ≤ B) (hr : ∀ r V, rec r V ≤ B) (full : Bool) (r : ByteArray) (V : List ByteArray) : ∀ cs : List ByteArray, cntL rec n full r V cs ≤ cs.length * B
  | [] => by simp [cntL]
  | c :: cs => by
    have h1 := cntL_le hB hr (n := n) full r V cs
    rw [cntL, List.length_cons, Nat.succ_mul]
    split
    · split <;> omega
    · split
      · omega
      · have := hr (applyR r c) (V ++ [applyR r c]); omega
def ctB (k : Nat) : Nat → Nat
  | 0 => k
  | d + 1 => k * (1 + ctB k d)
theorem cntX_le (n : Nat) (W : List ByteArray) : ∀ (d : Nat) (r : ByteArray) (V : List ByteArray), cntX n W d r V ≤ stB W.length d
  | 0, r, V => by have := cntL_le (n := n) (rec := fun _ _ => 0) (B := 1) (Nat.le_refl _) (fun _ _ => Nat.zero_le _) true r V W; rw [cntX, stB]; omega
  | d + 1, r, V => cntL_le (by omega) (fun r V => by have := cntX_le n W d r V; omega) false r V W
theorem place_zero {n : Nat} {s : ByteArray} (h3 : 3 ≤ n) (h8 : n ≤ 8) (h : RowN n s) : place s = 0 ↔ s = roundsS n := by
  have h0 := place_rounds n (by omega)
  constructor
  · intro e; exact rowN_inj h (rowN_rounds h3 h8) (by rw [e, h0])
  · intro e; rw [e, h0]
theorem RowN.apply {n : Nat} {r : ByteArray} (h : RowN n r) (c : ByteArray) : RowN n (applyR r c) := ⟨good_apply h.1 c, by rw [applyR_size]; exact h.2⟩
theorem ClOk.snoc {n : Nat} {V : List ByteArray} {x : ByteArray} (h : ClOk n V) (hx : RowN n x) (hn : inL V x = false) : ClOk n (V ++ [x]) := by
  refine ⟨List.nodup_append.2 ⟨h.1, by simp, fun a ha b hb he => ?_⟩, fun s hs => ?_⟩
  · rw [List.mem_singleton.1 hb] at he
    subst he
    rw [inL_iff.2 ha] at hn; cases hn
  · rcases List.mem_append.1 hs with hs | hs
    · exact h.2 s hs
    · rw [List.mem_singleton.1 hs]; exact hx
/-- With all rows seen each row is seen. -/
theorem full_in {n : Nat} {V : List ByteArray} {x : ByteArray} (h : ClOk n V) (hx : RowN n x) (hl : V.length = fact n) : inL V x = true := inL_iff.2 (rows_all h.1 h.2 (by omega) hx)
theorem drop_at {α : Type} {l : List α} {k : Nat} {x : α} (h : l[k]? = some x) : l.drop k = x :: l.drop (k + 1) := by
  obtain ⟨hk, e⟩ := List.getElem?_eq_some_iff.1 h
  rw [List.drop_eq_getElem_cons hk, e]
end Go.Proofs.Ytaednmpkedkmgaa
/- Plain laws of the program's search: it finds one, or counts all. -/
namespace Go.Proofs.Ytaednmpkedkmgaa
set_option linter.unusedVariables false
set_option linter.unusedSimpArgs false
open Go.ChangeShapes Go.WideShapes Go.ChangeAt Go.RowKit Go.Deep
abbrev FateG := Option (List ByteArray) ⊕ (Nat × Nat)
def gL (rec : ByteArray → List ByteArray → List ByteArray → Nat → Nat → FateG) (n : Nat) (al full : Bool) (r : ByteArray) (V P : List ByteArray) : List ByteArray → Nat → Nat → FateG
  | [], left, k => .inr (left, k)
  | _ :: _, 0, _ => .inl none
  | c :: cs, left + 1, k =>
    if full = true ∧ decide (applyR r c = roundsS n) = true then (if al = true then gL rec n al full r V P cs left (k + 1) else .inl (some (P ++ [c])))
    else if full = true ∨ inL V (applyR r c) = true then gL rec n al full r V P cs left k
    else match rec (applyR r c) (V ++ [applyR r c]) (P ++ [c]) left k with
      | .inr lk => gL rec n al full r V P cs lk.1 lk.2
      | .inl o => .inl o
def gX (n : Nat) (W : List ByteArray) (al : Bool) : Nat → ByteArray → List ByteArray → List ByteArray → Nat → Nat → FateG
  | 0, r, V, P, left, k => gL (fun _ _ _ l k => .inr (l, k)) n al true r V P W left k
  | d + 1, r, V, P, left, k => gL (gX n W al d) n al false r V P W left k
def recG (n : Nat) (W : List ByteArray) (al : Bool) (d : Nat) : ByteArray → List ByteArray → List ByteArray → Nat → Nat → FateG := match d with | 0 => fun _ _ _ l k => .inr (l, k) | d + 1 => gX n W al d
theorem gX_recG (n : Nat) (W : List ByteArray) (al : Bool) (d : Nat) (r : ByteArray) (V P : List ByteArray) (left k : Nat) : gX n W al d r V P left k = gL (recG n W al d) n al (decide (d = 0)) r V P W left k := by
  cases d <;> rfl
section
variable {rec : ByteArray → List ByteArray → List ByteArray → Nat → Nat → FateG} {n : Nat} {al full : Bool} {r c : ByteArray} {V P cs : List ByteArray} {left k : Nat}
theorem gL_over : gL rec n al full r V P (c :: cs) 0 k = .inl none := by rw [gL]
theorem gL_hit (h : full = true) (h2 : applyR r c = roundsS n) (ha : al = false) : gL rec n al full r V P (c :: cs) (left + 1) k = .inl (some (P ++ [c])) := by
  rw [gL, if_pos ⟨h, decide_eq_true h2⟩, if_neg (by rw [ha]; simp)]
theorem gL_one (h : full = true) (h2 : applyR r c = roundsS n) (ha : al = true) : gL rec n al full r V P (c :: cs) (left + 1) k = gL rec n al full r V P cs left (k + 1) := by
  rw [gL, if_pos ⟨h, decide_eq_true h2⟩, if_pos ha]
theorem gL_skip (h : ¬ (full = true ∧ applyR r c = roundsS n)) (h2 : full = true ∨ inL V (applyR r c) = true) : gL rec n al full r V P (c :: cs) (left + 1) k = gL rec n al full r V P cs left k := by
  rw [gL, if_neg (fun q => h ⟨q.1, of_decide_eq_true q.2⟩), if_pos h2]
theorem gL_in (h : full = false) (h2 : inL V (applyR r c) = false) : gL rec n al full r V P (c :: cs) (left + 1) k = match rec (applyR r c) (V ++ [applyR r c]) (P ++ [c]) left k with
      | .inr lk => gL rec n al full r V P cs lk.1 lk.2
      | .inl o => .inl o := by
  rw [gL, if_neg (fun q => by rw [h] at q; cases q.1), if_neg (fun q => by rw [h, h2] at q; rcases q with q | q <;> cases q)]
theorem gL_in_go {lk : Nat × Nat} (h : full = false) (h2 : inL V (applyR r c) = false) (h3 : rec (applyR r c) (V ++ [applyR r c]) (P ++ [c]) left k = .inr lk) : gL rec n al full r V P (c :: cs) (left + 1) k = gL rec n al full r V P cs lk.1 lk.2 := by
  rw [gL_in h h2, h3]
theorem gL_in_end {o : Option (List ByteArray)} (h : full = false) (h2 : inL V (applyR r c) = false) (h3 : rec (applyR r c) (V ++ [applyR r c]) (P ++ [c]) left k = .inl o) : gL rec n al full r V P (c :: cs) (left + 1) k = .inl o := by
  rw [gL_in h h2, h3]
end
theorem gL_le {rec : ByteArray → List ByteArray → List ByteArray → Nat → Nat → FateG} (hr : ∀ r V P left k lk, rec r V P left k = .inr lk → lk.1 ≤ left ∧ lk.2 + lk.1 ≤ k + left) (n : Nat) (al full : Bool) (r : ByteArray) (V P : List ByteArray) : ∀ (cs : List ByteArray) (left k : Nat) (lk : Nat × Nat), gL rec n al full r V P cs left k = .inr lk → lk.1 ≤ left ∧ lk.2 + lk.1 ≤ k + left
  | [], left, k, lk, h => by rw [gL] at h; injection h with h; subst h; exact ⟨Nat.le_refl _, Nat.le_refl _⟩
  | c :: cs, 0, k, lk, h => by rw [gL] at h; cases h
  | c :: cs, left + 1, k, lk, h => by
    rw [gL] at h
    split at h
    · split at h
      · have := gL_le hr n al full r V P cs left (k + 1) lk h; omega
      · cases h
    · split at h
      · have := gL_le hr n al full r V P cs left k lk h; omega
      · rcases q : rec (applyR r c) (V ++ [applyR r c]) (P ++ [c]) left k with o | l2
        · rw [q] at h; cases h
        · rw [q] at h
          have h1 := gL_le hr n al full r V P cs l2.1 l2.2 lk h
          have h2 := hr _ _ _ _ _ _ q
          omega
theorem gX_le (n : Nat) (W : List ByteArray) (al : Bool) : ∀ (d : Nat) (r : ByteArray) (V P : List ByteArray) (left k : Nat) (lk : Nat × Nat), gX n W al d r V P left k = .inr lk → lk.1 ≤ left ∧ lk.2 + lk.1 ≤ k + left
  | 0, r, V, P, left, k, lk, h => gL_le (fun r V P left k lk h => by injection h with h; subst h; exact ⟨Nat.le_refl _, Nat.le_refl _⟩) n al true r V P W left k lk h
  | d + 1, r, V, P, left, k, lk, h => gL_le (gX_le n W al d) n al false r V P W left k lk h
/-! one way -/
def withK (k : Nat) : Fate → FateG
  | .inr l => .inr (l, k)
  | .inl o => .inl o
theorem gL_find {rg : ByteArray → List ByteArray → List ByteArray → Nat → Nat → FateG} {rs : ByteArray → List ByteArray → List ByteArray → Nat → Fate} (hr : ∀ r V P left k, rg r V P left k = withK k (rs r V P left)) (n : Nat) (full : Bool) (r : ByteArray) (V P : List ByteArray) (k : Nat) : ∀ (cs : List ByteArray) (left : Nat), gL rg n false full r V P cs left k = withK k (srchL rs n full r V P cs left)
  | [], left => by rw [gL, srchL]; rfl
  | c :: cs, 0 => by rw [gL, srchL]; rfl
  | c :: cs, left + 1 => by
    rw [gL, srchL]
    split
    · rw [if_neg (by simp)]; rfl
    · split
      · exact gL_find hr n full r V P k cs left
      · rw [hr]
        rcases rs (applyR r c) (V ++ [applyR r c]) (P ++ [c]) left with o | l
        · rfl
        · exact gL_find hr n full r V P k cs l
theorem gX_find (n : Nat) (W : List ByteArray) : ∀ (d : Nat) (r : ByteArray) (V P : List ByteArray) (left k : Nat), gX n W false d r V P left k = withK k (srch n W d r V P left)
  | 0, r, V, P, left, k => gL_find (rs := fun _ _ _ l => .inr l) (fun _ _ _ _ _ => rfl) n true r V P k W left
  | d + 1, r, V, P, left, k => gL_find (gX_find n W d) n false r V P k W left
/-! all ways -/
theorem gL_count {rg : ByteArray → List ByteArray → List ByteArray → Nat → Nat → FateG} {rc rs : ByteArray → List ByteArray → Nat} (hr : ∀ r V P left k, rs r V ≤ left → rg r V P left k = .inr (left - rs r V, k + rc r V)) (n : Nat) (full : Bool) (r : ByteArray) (V P : List ByteArray) : ∀ (cs : List ByteArray) (left k : Nat), stpL rs full r V cs ≤ left → gL rg n true full r V P cs left k = .inr (left - stpL rs full r V cs, k + cntL rc n full r V cs)
  | [], left, k, h => by rw [gL, stpL, cntL]; rfl
  | c :: cs, 0, k, h => by rw [stpL] at h; omega
  | c :: cs, left + 1, k, h => by
    rw [stpL] at h ⊢
    by_cases hf : full = true
    · subst hf
      rw [if_pos (.inl rfl)] at h ⊢
      by_cases hx : applyR r c = roundsS n
      · rw [gL_one rfl hx rfl, gL_count hr n true r V P cs left (k + 1) (by omega), cntL, if_pos rfl, if_pos (decide_eq_true hx)]
        congr 2 <;> omega
      · rw [gL_skip (fun q => hx q.2) (.inl rfl), gL_count hr n true r V P cs left k (by omega), cntL, if_pos rfl, if_neg (by rw [decide_eq_false hx]; simp)]
        congr 2 <;> omega
    · have hf2 : full = false := by cases full <;> simp_all
      subst hf2
      rcases hin : inL V (applyR r c)
      · rw [if_neg (by rw [hin]; simp)] at h
        rw [if_neg (by simp)]
        rw [gL_in_go rfl hin (hr _ _ _ left k (by omega)), gL_count hr n false r V P cs _ _ (by simp only; omega), cntL, if_neg (by simp), if_neg (by rw [hin]; simp)]
        simp only
        congr 2 <;> omega
      · rw [if_pos (.inr hin)] at h
        rw [if_pos (.inr rfl)]
        rw [gL_skip (fun q => by cases q.1) (.inr hin), gL_count hr n false r V P cs left k (by omega), cntL, if_neg (by simp), if_pos hin]
        congr 2 <;> omega
theorem gX_count (n : Nat) (W : List ByteArray) : ∀ (d : Nat) (r : ByteArray) (V P : List ByteArray) (left k : Nat), stpX W d r V ≤ left → gX n W true d r V P left k = .inr (left - stpX W d r V, k + cntX n W d r V)
  | 0, r, V, P, left, k, h => gL_count (rc := fun _ _ => 0) (rs := fun _ _ => 0) (fun _ _ _ _ _ _ => rfl) n true r V P W left k h
  | d + 1, r, V, P, left, k, h => gL_count (fun r V P left k h => gX_count n W d r V P left k h) n false r V P W left k h
end Go.Proofs.Ytaednmpkedkmgaa
/- Plain laws of extents: how few changes a stage of three has; what the outer functions give. -/
namespace Go.Proofs.Ytaednmpkedkmgaa
set_option linter.unusedVariables false
set_option linter.unusedSimpArgs false
open Go.ChangeShapes Go.WideShapes Go.ChangeAt Go.RowKit Go.Deep
theorem inc_less {l : List ByteArray} (h : incB l = true) : ∀ (d i : Nat) (x y : ByteArray), l[i]? = some x → l[i + d + 1]? = some y → less x y = true
  | 0, i, x, y, hx, hy => by
    rw [incB, List.all_eq_true] at h
    have := h (i + 1) (List.mem_range.2 (List.getElem?_eq_some_iff.1 hy).1)
    rwa [okInc_pos (by omega) (by simpa using hx) hy] at this
  | d + 1, i, x, y, hx, hy => by
    have hl := (List.getElem?_eq_some_iff.1 hy).1
    obtain ⟨z, hz⟩ := some_of_lt (l := l) (k := i + d + 1) (by omega)
    have h1 := inc_less h d i x z hx hz
    have h2 := inc_less h 0 (i + d + 1) z y hz hy
    exact less_trans h1 h2
theorem inc_nodup {l : List ByteArray} (h : incB l = true) : l.Nodup := by
  rw [List.nodup_iff_pairwise_ne, List.pairwise_iff_getElem]
  intro i j hi hj hij e
  obtain ⟨d, rfl⟩ : ∃ d, j = i + d + 1 := ⟨j - i - 1, by omega⟩
  have := inc_less h d i _ _ (List.getElem?_eq_getElem hi) (List.getElem?_eq_getElem hj)
  rw [e, less_irr] at this
  cases this
theorem change3 {c : ByteArray} (h : goodChange 3 c = true) : c ∈ [(⟨#[49]⟩ : ByteArray), ⟨#[50]⟩, ⟨#[51]⟩] := by
  have hs : sizeOk 3 c = true := by
    rcases q : sizeOk 3 c
    · rw [goodChange_size q] at h; cases h
    · rfl
  have hz := sizeOk_t hs
  have hc1 : c.size = 1 := by omega
  have hd : isDash c = false := by
    rcases q : isDash c
    · rfl
    · rw [goodChange_dash (by decide) hs q] at h; cases h
  rw [goodChange_chain (by decide) hs hd] at h
  have e1 : digs c = [dg c 0] := by rw [digs, hc1]; rfl
  have hv := chain_in 3 (digs c) 0 (by omega) (by omega) h
  rw [e1] at h hv
  have h2 := chain_len 3 [dg c 0] 0 (by omega) h
  simp only [chain, stepOk, Bool.and_eq_true] at h
  have h3 := inB_t h.1.1
  have hn : nums c = [PlainAid.bt c 0] := by rw [nums, hc1]; rfl
  have hb : PlainAid.bt c 0 = 49 ∨ PlainAid.bt c 0 = 50 ∨ PlainAid.bt c 0 = 51 := by simp only [dg] at h3; omega
  rcases hb with hb | hb | hb
  · have : c = ⟨#[49]⟩ := nums_inj (by rw [hn, hb]; decide)
    rw [this]; simp
  · have : c = ⟨#[50]⟩ := nums_inj (by rw [hn, hb]; decide)
    rw [this]; simp
  · have : c = ⟨#[51]⟩ := nums_inj (by rw [hn, hb]; decide)
    rw [this]; simp
theorem with3 {l : List ByteArray} (h : goodWith 3 l = true) : l.length ≤ 3 := by
  have h1 := (goodWith_stage_t h).2.2
  rw [goodWith_parts, Bool.and_eq_true, Bool.and_eq_true] at h
  have h2 := (inc_nodup h.1.2).length_le_of_subset (l₂ := [(⟨#[49]⟩ : ByteArray), ⟨#[50]⟩, ⟨#[51]⟩]) (fun c hc => change3 (allCh_mem h1 c hc))
  exact h2
def okCount (n : Int) (l : List ByteArray) : Bool := decide (n = 3) && goodWith n l
def countR (n : Int) (l : List ByteArray) : Int := if okCount n l = true then (cntX 3 l 5 (roundsS 3) [roundsS 3] : Int) else 0
theorem countR_f {n : Int} {l : List ByteArray} (h : okCount n l = false) : countR n l = 0 := by rw [countR, if_neg (by rw [h]; simp)]
theorem countR_t {n : Int} {l : List ByteArray} (h : okCount n l = true) : countR n l = (cntX 3 l 5 (roundsS 3) [roundsS 3] : Int) := by rw [countR, if_pos h]
theorem count_le {l : List ByteArray} (h : l.length ≤ 3) : cntX 3 l 5 (roundsS 3) [roundsS 3] ≤ 1092 ∧ stpX l 5 (roundsS 3) [roundsS 3] ≤ 1092 := by
  have h1 := cntX_le 3 l 5 (roundsS 3) [roundsS 3]
  have h2 := stpX_le l 5 (roundsS 3) [roundsS 3]
  have h3 := stB_mono h 5
  have h4 : stB 3 5 = 1092 := by decide
  omega
/-! one extent -/
def okFind (n : Int) (l : List ByteArray) (s : Int) : Bool := (inB n 3 4 && goodWith n l) && inB s 1 200000
def fateR (n : Nat) (l : List ByteArray) (s : Nat) : Fate := srch n l (fact n - 1) (roundsS n) [roundsS n] [] s
def fdL (n : Int) (l : List ByteArray) (s : Int) : List ByteArray := if okFind n l s = true then (match fateR n.toNat l s.toNat with | .inl (some q) => q | _ => []) else []
def fdC (n : Int) (l : List ByteArray) (s : Int) : Int := if okFind n l s = true then (match fateR n.toNat l s.toNat with | .inl (some _) => 1 | .inl none => 3 | .inr _ => 2) else 0
theorem fd_f {n : Int} {l : List ByteArray} {s : Int} (h : okFind n l s = false) : fdL n l s = [] ∧ fdC n l s = 0 := by
  rw [fdL, fdC, if_neg (by rw [h]; simp), if_neg (by rw [h]; simp)]; exact ⟨rfl, rfl⟩
theorem fd_hit {n s : Nat} {l q : List ByteArray} (h : okFind n l s = true) (h2 : fateR n l s = .inl (some q)) : fdL n l s = q ∧ fdC n l s = 1 := by
  rw [fdL, fdC, if_pos h, if_pos h, show ((n : Int).toNat) = n from rfl, show ((s : Int).toNat) = s from rfl, h2]; exact ⟨rfl, rfl⟩
theorem fd_over {n s : Nat} {l : List ByteArray} (h : okFind n l s = true) (h2 : fateR n l s = .inl none) : fdL n l s = [] ∧ fdC n l s = 3 := by
  rw [fdL, fdC, if_pos h, if_pos h, show ((n : Int).toNat) = n from rfl, show ((s : Int).toNat) = s from rfl, h2]; exact ⟨rfl, rfl⟩
theorem fd_go {n s k : Nat} {l : List ByteArray} (h : okFind n l s = true) (h2 : fateR n l s = .inr k) : fdL n l s = [] ∧ fdC n l s = 2 := by
  rw [fdL, fdC, if_pos h, if_pos h, show ((n : Int).toNat) = n from rfl, show ((s : Int).toNat) = s from rfl, h2]; exact ⟨rfl, rfl⟩
/-- The way found: changes from the list, at most as many as there are rows. -/
theorem srchL_way {rec : ByteArray → List ByteArray → List ByteArray → Nat → Fate} {W : List ByteArray} {n D : Nat} (hr : ∀ r V P left q, rec r V P left = .inl (some q) → (∀ c ∈ P, c ∈ W) → (∀ c ∈ q, c ∈ W) ∧ q.length ≤ P.length + D) (full : Bool) (r : ByteArray) (V P : List ByteArray) (hP : ∀ c ∈ P, c ∈ W) :
    ∀ (cs : List ByteArray) (left : Nat) (q : List ByteArray), (∀ c ∈ cs, c ∈ W) → srchL rec n full r V P cs left = .inl (some q) → (∀ c ∈ q, c ∈ W) ∧ q.length ≤ P.length + (D + 1)
  | [], left, q, hc, h => by rw [srchL] at h; cases h
  | c :: cs, 0, q, hc, h => by rw [srchL] at h; cases h
  | c :: cs, left + 1, q, hc, h => by
    have hPc : ∀ c' ∈ P ++ [c], c' ∈ W := fun c' h' => by
      rcases List.mem_append.1 h' with h' | h'
      · exact hP c' h'
      · rw [List.mem_singleton.1 h']; exact hc c (List.mem_cons_self ..)
    rw [srchL] at h
    split at h
    · injection h with h; injection h with h
      subst h
      exact ⟨hPc, by simp⟩
    · split at h
      · exact srchL_way hr full r V P hP cs left q (fun c' h' => hc c' (List.mem_cons_of_mem _ h')) h
      · rcases e : rec (applyR r c) (V ++ [applyR r c]) (P ++ [c]) left with o | l2
        · rw [e] at h
          injection h with h
          subst h
          have := hr _ _ _ _ _ e hPc
          refine ⟨this.1, ?_⟩
          have h2 := this.2
          rw [List.length_append, List.length_singleton] at h2
          omega
        · rw [e] at h
          exact srchL_way hr full r V P hP cs l2 q (fun c' h' => hc c' (List.mem_cons_of_mem _ h')) h
theorem srch_way (n : Nat) (W : List ByteArray) : ∀ (d : Nat) (r : ByteArray) (V P : List ByteArray) (left : Nat) (q : List ByteArray), srch n W d r V P left = .inl (some q) → (∀ c ∈ P, c ∈ W) → (∀ c ∈ q, c ∈ W) ∧ q.length ≤ P.length + (d + 1)
  | 0, r, V, P, left, q, h, hP => srchL_way (D := 0) (rec := fun _ _ _ l => .inr l) (fun r V P left q h _ => by cases h) true r V P hP W left q (fun c h => h) h
  | d + 1, r, V, P, left, q, h, hP => srchL_way (D := d + 1) (fun r V P left q h hP => srch_way n W d r V P left q h hP) false r V P hP W left q (fun c h => h) h
theorem fd_way {n s : Nat} {l q : List ByteArray} (h : fateR n l s = .inl (some q)) (h8 : n ≤ 4) : (∀ c ∈ q, c ∈ l) ∧ q.length ≤ 24 := by
  have h1 := srch_way n l _ _ _ _ _ _ h (fun c hc => by cases hc)
  have h2 : ∀ n, n < 5 → fact n ≤ 24 := of_decide_eq_true (by kernel_rfl)
  have h3 := h2 n (by omega)
  have h4 := fact_pos n
  simp only [List.length_nil] at h1
  exact ⟨h1.1, by omega⟩
end Go.Proofs.Ytaednmpkedkmgaa
/- Signs: a change turns the sign of a row as often as it swaps; the sign of a product. -/
namespace Go.Proofs.Ytaednmpkedkmgaa
set_option linter.unusedVariables false
set_option linter.unusedSimpArgs false
open Go.ChangeShapes Go.WideShapes Go.ChangeAt Go.RowKit Go.Deep
def invs : List Int → Nat
  | [] => 0
  | x :: r => cnt x r + invs r
def gt (y : Int) (l : List Int) : Nat := l.countP fun z => decide (y < z)
theorem gt_cons (y z : Int) (l : List Int) : gt y (z :: l) = gt y l + (if y < z then 1 else 0) := by
  rw [gt, List.countP_cons, gt]
  by_cases h : y < z <;> simp [h]
theorem cnt_snoc (x y : Int) (l : List Int) : cnt x (l ++ [y]) = cnt x l + (if y < x then 1 else 0) := by
  rw [cnt, List.countP_append, cnt]
  by_cases h : y < x <;> simp [h]
theorem invs_snoc (y : Int) : ∀ l : List Int, invs (l ++ [y]) = invs l + gt y l
  | [] => by simp [invs, gt, cnt]
  | x :: r => by
    rw [List.cons_append, invs, invs_snoc y r, cnt_snoc, invs, gt_cons]
    omega
theorem drop_someZ {α : Type} {l : List α} {k : Nat} {x : α} (h : l[k]? = some x) : l.drop k = x :: l.drop (k + 1) := by
  rw [List.drop_eq_getElem_cons (List.getElem?_eq_some_iff.1 h).1, (List.getElem?_eq_some_iff.1 h).2]
def evB (n : Nat) : Bool := decide (n % 2 = 0)
theorem evB_succ (n : Nat) : evB (n + 1) = !evB n := by
  simp only [evB]
  by_cases h : n % 2 = 0
  · rw [decide_eq_true h, decide_eq_false (by omega)]; rfl
  · rw [decide_eq_false h, decide_eq_true (by omega)]; rfl
theorem tg_gt (s : ByteArray) (i : Nat) (c : Nat) : ∀ k, k ≤ s.size → tg s i k (evB c) = evB (c + gt (PlainAid.bt s i) ((nums s).take k))
  | 0, _ => by simp [tg, gt]
  | k + 1, h => by
    have ih := tg_gt s i c k (by omega)
    have e : (nums s).take (k + 1) = (nums s).take k ++ [PlainAid.bt s k] := take_succ_some (nums_at (by omega))
    have e2 : gt (PlainAid.bt s i) ((nums s).take k ++ [PlainAid.bt s k]) = gt (PlainAid.bt s i) ((nums s).take k) + (if PlainAid.bt s i < PlainAid.bt s k then 1 else 0) := by
      rw [gt, List.countP_append, gt]
      by_cases h : PlainAid.bt s i < PlainAid.bt s k <;> simp [h]
    rw [e, e2]
    by_cases hlt : PlainAid.bt s i < PlainAid.bt s k
    · rw [tg_yes hlt, ih, if_pos hlt, ← Nat.add_assoc, evB_succ]
    · rw [tg_no hlt, ih, if_neg hlt, Nat.add_zero]
theorem evo_invs (s : ByteArray) : ∀ k, k ≤ s.size → evo s k = evB (invs ((nums s).take k))
  | 0, _ => by simp [evo, invs, evB]
  | k + 1, h => by
    have e : (nums s).take (k + 1) = (nums s).take k ++ [PlainAid.bt s k] := take_succ_some (nums_at (by omega))
    rw [evo, evo_invs s k (by omega), tg_gt s k _ k (by omega), e, invs_snoc]
theorem even_invs (s : ByteArray) : evenRow s = evB (invs (nums s)) := by
  rw [evenRow, evo_invs s _ (Nat.le_refl _), List.take_of_length_le (by rw [nums_len]; exact Nat.le_refl _)]
theorem cnt_swap (z x y : Int) (q : List Int) : cnt z (x :: y :: q) = cnt z (y :: x :: q) := by
  rw [cnt_cons, cnt_cons, cnt_cons, cnt_cons]; omega
theorem invs_swap {x y : Int} (h : x ≠ y) (q : List Int) : ∀ p : List Int, evB (invs (p ++ x :: y :: q)) = !evB (invs (p ++ y :: x :: q))
  | [] => by
    simp only [List.nil_append, invs, cnt_cons]
    rcases Int.lt_or_lt_of_ne h with h1 | h1
    · rw [if_neg (by omega), if_pos h1]
      rw [show cnt x q + 0 + (cnt y q + invs q) = cnt x q + cnt y q + invs q by omega, show cnt y q + 1 + (cnt x q + invs q) = (cnt x q + cnt y q + invs q) + 1 by omega, evB_succ, Bool.not_not]
    · rw [if_pos h1, if_neg (by omega)]
      rw [show cnt x q + 1 + (cnt y q + invs q) = (cnt x q + cnt y q + invs q) + 1 by omega, show cnt y q + 0 + (cnt x q + invs q) = cnt x q + cnt y q + invs q by omega, evB_succ]
  | z :: p => by
    have ih := invs_swap h q p
    have hc : cnt z (p ++ x :: y :: q) = cnt z (p ++ y :: x :: q) := by
      rw [cnt, cnt, List.countP_append, List.countP_append]
      congr 1
      exact cnt_swap z x y q
    have key : ∀ a b c : Nat, evB a = !evB b → evB (c + a) = !evB (c + b) := fun a b c e => by
      induction c with
      | zero => simpa using e
      | succ c ih => rw [Nat.add_right_comm, Nat.add_right_comm c 1 b, evB_succ, evB_succ, ih]
    rw [List.cons_append, List.cons_append, invs, invs, hc]
    exact key _ _ _ ih
theorem invs_set {l : List Int} {p : Nat} {x y : Int} (hx : l[p]? = some x) (hy : l[p + 1]? = some y) (h : x ≠ y) : evB (invs ((l.set p y).set (p + 1) x)) = !evB (invs l) := by
  have hp := (List.getElem?_eq_some_iff.1 hy).1
  have e1 : l = l.take p ++ x :: y :: l.drop (p + 2) := by
    conv => lhs; rw [← List.take_append_drop p l]
    congr 1
    rw [drop_someZ hx, drop_someZ hy]
  have e2 : (l.set p y).set (p + 1) x = l.take p ++ y :: x :: l.drop (p + 2) := by
    have ht : (l.take p).length = p := by rw [List.length_take]; omega
    conv => lhs; rw [e1]
    rw [List.set_append_right _ _ (by omega), ht, Nat.sub_self, List.set_cons_zero, List.set_append_right _ _ (by omega), ht, Nat.add_sub_cancel_left, List.set_cons_succ, List.set_cons_zero]
  rw [e2, invs_swap (fun e => h e.symm)]
  conv => rhs; rw [e1]
/-- How often the first k swaps turn. -/
theorem rowV_take {n : Nat} {sw : List Int} (hin : ∀ x ∈ sw, ((1 : Nat) : Int) ≤ x ∧ x < n) (hfar : sw.Pairwise fun x y => x + 2 ≤ y) {a : ByteArray} (ha : isRowL (nums a)) (hn : a.size = n) :
    ∀ k, k ≤ sw.length → evB (invs ((rowV n (sw.take k)).map fun z => PlainAid.bt a (z - 49).toNat)) = (evB (invs (nums a)) == evB k)
  | 0, _ => by
    have e : ((rowV n []).map fun z => PlainAid.bt a (z - 49).toNat) = nums a := by
      apply List.ext_getElem (by rw [List.length_map, rowV_len, nums_len, hn])
      intro i h1 h2
      simp only [rowV, List.getElem_map, List.getElem_range, nums]
      congr 1
      simp [cval]
      omega
    rw [List.take_zero, e]
    rcases evB (invs (nums a)) <;> rfl
  | k + 1, h => by
    have ih := rowV_take hin hfar ha hn k (by omega)
    have hy : sw[k]? = some sw[k] := List.getElem?_eq_getElem (by omega)
    have hyin := hin _ (List.mem_of_getElem? hy)
    obtain ⟨q, hq⟩ : ∃ q : Nat, sw[k] = (q : Int) + 1 := ⟨(sw[k] - 1).toNat, by omega⟩
    have hqn : q + 1 < n := by omega
    have hfr : ∀ x ∈ sw.take k, x + 2 ≤ ((q + 1 : Nat) : Int) := fun x hx => by have := take_far hfar hy x hx; omega
    have hpl := rowV_plain hqn hfr
    have ht : sw.take (k + 1) = sw.take k ++ [((q + 1 : Nat) : Int)] := by rw [take_succ_some hy, hq]; rfl
    rw [ht, rowV_step (p := q + 1) (by omega) hqn hfr, Nat.add_sub_cancel, List.map_set, List.map_set]
    have b1 : PlainAid.bt a ((49 + ((q + 1 : Nat) : Int)) - 49).toNat = PlainAid.bt a (q + 1) := by congr 1; omega
    have b2 : PlainAid.bt a ((48 + ((q + 1 : Nat) : Int)) - 49).toNat = PlainAid.bt a q := by congr 1; omega
    have b3 : PlainAid.bt a ((49 + (q : Int)) - 49).toNat = PlainAid.bt a q := by congr 1; omega
    have b4 : PlainAid.bt a ((49 + ((q : Int) + 1)) - 49).toNat = PlainAid.bt a (q + 1) := by congr 1; omega
    rw [b1, b2]
    have m1 : ((rowV n (sw.take k)).map fun z => PlainAid.bt a (z - 49).toNat)[q]? = some (PlainAid.bt a q) := by
      rw [List.getElem?_map, hpl.1]
      show some (PlainAid.bt a ((49 + (q : Int)) - 49).toNat) = _
      rw [b3]
    have m2 : ((rowV n (sw.take k)).map fun z => PlainAid.bt a (z - 49).toNat)[q + 1]? = some (PlainAid.bt a (q + 1)) := by
      rw [List.getElem?_map, hpl.2]
      show some (PlainAid.bt a ((49 + ((q : Int) + 1)) - 49).toNat) = _
      rw [b4]
    have hne : PlainAid.bt a q ≠ PlainAid.bt a (q + 1) := by
      have hp := ha.1
      rw [List.nodup_iff_pairwise_ne, List.pairwise_iff_getElem] at hp
      have := hp q (q + 1) (by rw [nums_len]; omega) (by rw [nums_len]; omega) (by omega)
      have h1 := nums_at (s := a) (k := q) (by omega); have h2 := nums_at (s := a) (k := q + 1) (by omega)
      rw [List.getElem?_eq_getElem (by rw [nums_len]; omega)] at h1 h2
      injection h1 with h1; injection h2 with h2
      rw [← h1, ← h2]; exact this
    rw [invs_set m1 m2 hne, ih, evB_succ]
    rcases evB (invs (nums a)) <;> rcases evB k <;> rfl
theorem sign_apply {a : ByteArray} (h : goodRow a = true) (c : ByteArray) : evenRow (applyR a c) = (evenRow a == evenSwaps a.size c) := by
  have hn := goodRow_n h
  have hr := goodRow_list h
  have h2 := rowL_times hr (by rw [chRow, nums_strOf (rowL_bytes (rowL_ch a.size c) (by rw [rowV_len]; omega))]; exact rowL_ch a.size c) (chRow_size a.size c).symm
  have e1 : nums (applyR a c) = (rowV a.size (swaps a.size c)).map fun z => PlainAid.bt a (z - 49).toNat := by
    rw [applyR, timesS, nums_strOf (rowL_bytes h2 (by rw [timesL_len, chRow_size]; omega)), timesL, chRow, nums_strOf (rowL_bytes (rowL_ch a.size c) (by rw [rowV_len]; omega))]
  have e2 := rowV_take (sws_in (stays c) a.size 1) (sws_far (stays c) a.size 1) hr rfl (swaps a.size c).length (Nat.le_refl _)
  rw [show sws (stays c) a.size 1 = swaps a.size c from rfl, List.take_of_length_le (Nat.le_refl _)] at e2
  rw [even_invs, e1, e2, even_invs]
  rfl
/-! products -/
theorem nums_times {a b : ByteArray} (h : goodRow a = true) (g : goodRow b = true) (e : a.size = b.size) : nums (timesS a b) = timesL a b := by
  have hn := goodRow_n h
  rw [timesS, nums_strOf (rowL_bytes (rowL_times (goodRow_list h) (goodRow_list g) e) (by rw [timesL_len]; omega))]
theorem times_assoc {a b c : ByteArray} (ha : goodRow a = true) (hb : goodRow b = true) (hc : goodRow c = true) (e1 : a.size = b.size) (e2 : b.size = c.size) : timesS a (timesS b c) = timesS (timesS a b) c := by
  suffices h : timesL a (timesS b c) = timesL (timesS a b) c by
    show strOfNums (timesL a (timesS b c)) = strOfNums (timesL (timesS a b) c)
    rw [h]
  show (nums (timesS b c)).map _ = (nums c).map _
  rw [nums_times hb hc e2, timesL, List.map_map]
  apply List.map_congr_left
  intro z hz
  have hz2 := (goodRow_list hc).2 z hz
  rw [nums_len] at hz2
  have hk : (z - 49).toNat < b.size := by omega
  have h1 := timesL_at (a := a) hk
  rw [← nums_times ha hb e1, nums_at (by rw [timesS, strOfNums_size, timesL_len]; exact hk)] at h1
  injection h1 with h1
  rw [h1]; rfl
theorem times_rounds {a : ByteArray} (h : goodRow a = true) : timesS a (roundsS a.size) = a := by
  have hn := goodRow_n h
  apply nums_inj
  rw [nums_times h (good_rounds _ (by omega) (by omega)) (rounds_size _ (by omega)).symm, timesL, rowV_nil _ (by omega)]
  apply List.ext_getElem (by rw [List.length_map, rowV_len, nums_len])
  intro i h1 h2
  simp only [rowV, List.getElem_map, List.getElem_range, nums]
  congr 1
  simp [cval]
  omega
theorem times_apply {a b : ByteArray} (ha : goodRow a = true) (hb : goodRow b = true) (e : a.size = b.size) (c : ByteArray) : timesS a (applyR b c) = applyR (timesS a b) c := by
  have hs : (timesS a b).size = b.size := by rw [timesS, strOfNums_size, timesL_len]
  rw [applyR, applyR, hs, times_assoc ha hb (good_ch (goodRow_n hb) c) e (chRow_size _ _).symm]
theorem sign_times_rAt {a : ByteArray} (ha : goodRow a = true) (l : List ByteArray) : ∀ k, evenRow (timesS a (rAt (roundsS a.size) l k)) = (evenRow a == evenRow (rAt (roundsS a.size) l k))
  | 0 => by
    rw [rAt, times_rounds ha]
    have : ∀ n, n < 9 → evenRow (roundsS n) = true := of_decide_eq_true (by kernel_rfl)
    rw [this _ (by have := goodRow_n ha; omega)]
    rcases evenRow a <;> rfl
  | k + 1 => by
    have hn := goodRow_n ha
    have hg := good_rAt (good_rounds a.size (by omega) (by omega)) l k
    have hs : (rAt (roundsS a.size) l k).size = a.size := by rw [rAt_size, rounds_size _ (by omega)]
    have ht : (timesS a (rAt (roundsS a.size) l k)).size = a.size := by rw [timesS, strOfNums_size, timesL_len, hs]
    rw [rAt, times_apply ha hg hs.symm, sign_apply (good_times ha hg hs.symm), sign_apply hg, sign_times_rAt ha l k, ht, hs]
    rcases evenRow a <;> rcases evenRow (rAt (roundsS a.size) l k) <;> rcases evenSwaps a.size _ <;> rfl
theorem sign_times_head {a : ByteArray} (ha : goodRow a = true) {l : List ByteArray} (x : ByteArray) (h : 0 < l.length) : evenRow (timesS a (headX a.size l x)) = (evenRow a == evenRow (headX a.size l x)) := by
  have := sign_times_rAt ha (l.set (l.length - 1) x) l.length
  rwa [headX_set h] at this
end Go.Proofs.Ytaednmpkedkmgaa
/- The walk through a row's place, the reference's side; the row of marks by places. -/
namespace Go.Proofs.Ytaednmpkedkmgaa
set_option linter.unusedVariables false
set_option linter.unusedSimpArgs false
open Go.ChangeShapes Go.WideShapes Go.ChangeAt Go.RowKit Go.Deep
theorem nums_drop {s : ByteArray} {k : Nat} (h : k < s.size) : (nums s).drop k = PlainAid.bt s k :: (nums s).drop (k + 1) := drop_someZ (nums_at h)
set_option maxRecDepth 100000 in
theorem spec_l1Place {s : ByteArray} {w : World} (hz : s.size ≤ 8) :
    Calls Try.prog 96 #[.string s] w fun e w' => e = .returned (.int .i64 (place s)) ∧ Below w.heap.size w w' := by
  have gb := PlainAid.get_bt s
  have hpl := place_lt s
  have h40 := fact_le s.size (by omega)
  have hP : place s ≤ 40320 := by omega
  have H0 := Lib.hid (show lh 0 ((nums s).drop 0) = place s from (place_lh s).symm)
  have HL := Lib.hid (fun k (r : List Int) => lh_le r k)
  have HC := Lib.hid (fun x (r : List Int) => cnt_le x r)
  clear hpl h40
  go_in
  go_wp2
  go_loopw [3, 4] (fun v i wr => ∃ i' k : Nat, i' ≤ s.size ∧ i = .int .i64 i' ∧ v = .int .i64 k ∧ k ≤ place s ∧ Hid (lh k ((nums s).drop i') = place s) ∧ Below w.heap.size w wr) (fun _ i _ => s.size - (intOf i).toNat)
  case atStart => exact ⟨0, 0, Nat.zero_le _, rfl, rfl, Nat.zero_le _, H0, Below.refl _ _⟩
  case round =>
    obtain ⟨i, k, hi, rfl, rfl, hk, HK, hbl⟩ := hrel
    by_cases hlt : i < s.size
    · have HD := Lib.hid (nums_drop hlt)
      go_wp2
      go_loopw [5, 6] (fun v x wr => ∃ j q : Nat, i + 1 ≤ j ∧ j ≤ s.size ∧ x = .int .i64 j ∧ v = .int .i64 q ∧ q ≤ j ∧ Hid (q + cnt (PlainAid.bt s i) ((nums s).drop j) = cnt (PlainAid.bt s i) ((nums s).drop (i + 1))) ∧ Below w.heap.size w wr) (fun _ x _ => s.size - (intOf x).toNat)
      case atStart => exact ⟨i + 1, 0, Nat.le_refl _, hlt, by go_num, rfl, Nat.zero_le _, Lib.hid (Nat.zero_add _), hbl⟩
      case round =>
        obtain ⟨j, q, hij, hj, rfl, rfl, hq, HQ, hb2⟩ := hrel
        by_cases hjl : j < s.size
        · have HJ := Lib.hid (nums_drop hjl)
          by_cases hc : PlainAid.bt s j < PlainAid.bt s i
          · have E := Lib.hid (show q + 1 + cnt (PlainAid.bt s i) ((nums s).drop (j + 1)) = cnt (PlainAid.bt s i) ((nums s).drop (i + 1)) by rw [← HQ.out, HJ.out, cnt_cons, if_pos hc]; omega)
            go_wp2
            go_quiet (fail)
            go_wp2
            go_roundw
            case rel => exact ⟨j + 1, q + 1, by omega, by omega, by go_num, by go_num, by omega, E, by (repeat' (first | (with_reducible exact Below.refl _ _) | (with_reducible assumption) | (with_reducible refine below_drewN ?_ _) | (with_reducible refine Below.drew ?_) | (with_reducible refine below_alloc ?_ _) | (with_reducible refine Below.alloc ?_ ?_ _) | (with_reducible refine Below.setCell ?_ ?_ _) | (with_reducible refine below_go ?_ (by with_reducible assumption)) | (with_reducible refine below_then (by with_reducible assumption) ?_ ?_) | go_size))⟩
            case measure => simp [intOf]; omega
          · have E := Lib.hid (show q + cnt (PlainAid.bt s i) ((nums s).drop (j + 1)) = cnt (PlainAid.bt s i) ((nums s).drop (i + 1)) by rw [← HQ.out, HJ.out, cnt_cons, if_neg hc]; omega)
            go_wp2
            go_quiet (fail)
            go_wp2
            go_roundw
            case rel => exact ⟨j + 1, q, by omega, by omega, by go_num, rfl, by omega, E, by (repeat' (first | (with_reducible exact Below.refl _ _) | (with_reducible assumption) | (with_reducible refine below_drewN ?_ _) | (with_reducible refine Below.drew ?_) | (with_reducible refine below_alloc ?_ _) | (with_reducible refine Below.alloc ?_ ?_ _) | (with_reducible refine Below.setCell ?_ ?_ _) | (with_reducible refine below_go ?_ (by with_reducible assumption)) | (with_reducible refine below_then (by with_reducible assumption) ?_ ?_) | go_size))⟩
            case measure => simp [intOf]; omega
        · obtain rfl : j = s.size := by omega
          have E := Lib.hid (show q = cnt (PlainAid.bt s i) ((nums s).drop (i + 1)) by
            rw [← HQ.out, List.drop_eq_nil_of_le (by rw [nums_len]; exact Nat.le_refl _)]; rfl)
          have E2 := Lib.hid (show lh (k * (s.size - i) + q) ((nums s).drop (i + 1)) = place s by
            rw [← HK.out, HD.out, lh, E.out, List.length_drop, nums_len, show s.size - (i + 1) + 1 = s.size - i by omega])
          have h1 : k * (s.size - i) + q ≤ place s := by
            have := HL.out (k * (s.size - i) + q) ((nums s).drop (i + 1))
            rw [E2.out] at this; exact this
          obtain ⟨p, hp⟩ : ∃ p, p = k * (s.size - i) := ⟨_, rfl⟩
          have e0 : (s.size : Int) - (i : Int) = ((s.size - i : Nat) : Int) := by omega
          have e3 : (k : Int) * ((s.size : Int) - (i : Int)) = (p : Int) := by rw [e0, hp]; push_cast; rfl
          rw [← hp] at E2 h1
          have e4 : IntKind.i64.wrap ((s.size : Int) - (i : Int)) = (s.size : Int) - (i : Int) := wrap_id (by omega)
          have e5 : IntKind.i64.wrap ((k : Int) * ((s.size : Int) - (i : Int))) = (p : Int) := by rw [e3]; exact wrap_id (by omega)
          have e6 : IntKind.i64.wrap ((p : Int) + (q : Int)) = ((p + q : Nat) : Int) := by rw [wrap_id (by omega)]; push_cast; rfl
          clear hp e0 e3
          go_wp2
          go_roundw
          case rel => exact ⟨i + 1, p + q, by omega, by go_num, by go_num, h1, E2, hb2⟩
          case measure => simp [intOf]; omega
    · obtain rfl : i = s.size := by omega
      have E := Lib.hid (show k = place s by
        rw [← HK.out, List.drop_eq_nil_of_le (by rw [nums_len]; exact Nat.le_refl _)]; rfl)
      go_wp2
      go_ret
      rw [E.out]
      exact ⟨rfl, hbl⟩
/-- Which rows of a stage a list has, by their places. -/
def MarkR (n : Nat) (L : List ByteArray) (m : List Bool) : Prop := m.length = fact n ∧ ∀ s, RowN n s → m[place s]? = some (inL L s)
theorem MarkR.none (n : Nat) : MarkR n [] (List.replicate (fact n) false) :=
  ⟨by simp, fun s hs => by rw [List.getElem?_replicate, if_pos (rowN_place hs)]; rfl⟩
theorem MarkR.add {n : Nat} {L : List ByteArray} {m : List Bool} {x : ByteArray} (h : MarkR n L m) (hx : RowN n x) : MarkR n (L ++ [x]) (m.set (place x) true) := by
  refine ⟨by rw [List.length_set]; exact h.1, fun s hs => ?_⟩
  rw [List.getElem?_set]
  by_cases e : place x = place s
  · rw [if_pos e, if_pos (by rw [h.1]; exact rowN_place hx)]
    rw [rowN_inj hx hs e, inL_iff.2 (by simp)]
  · rw [if_neg e, h.2 s hs]
    have hne : ¬ x = s := fun q => e (by rw [q])
    congr 1
    rw [inL, inL, List.any_append]
    simp [hne]
theorem MarkR.at_ {n : Nat} {L : List ByteArray} {m : List Bool} {x : ByteArray} (h : MarkR n L m) (hx : RowN n x) : m[place x]? = some (inL L x) := h.2 x hx
theorem spec_l6Seen {n : Nat} {w : World} (h8 : n ≤ 8) :
    Calls Try.prog 95 #[.int .i64 n] w fun e w' => ∃ g, e = .returned (.slice (some ⟨g, 0, none⟩) (fact n) (fact n)) ∧ Owned boolE 1 4 w' w.heap.size (some ⟨g, 0, none⟩) (fact n) (fact n) (List.replicate (fact n) false) ∧ Below w.heap.size w w' := by
  have h40 := fact_le n (by omega)
  have hmk := run_make_rec (P := Try.prog) (e := boolE) Try.elBool false rfl (fact n) (by omega) (by decide)
  have O0 := Owned.made (e := boolE) boolE_len w 4 false (fact n) (by omega) (Nat.le_refl w.heap.size)
  go_in
  go_wp2_with (first | (go_at_call 77; refine (spec_l1Fact h8).mono ?_; rintro e w' ⟨rfl, rfl⟩))
  go_ret
  exact ⟨_, rfl, by simpa using O0, by (repeat' (first | (with_reducible exact Below.refl _ _) | (with_reducible assumption) | (with_reducible refine below_drewN ?_ _) | (with_reducible refine Below.drew ?_) | (with_reducible refine below_alloc ?_ _) | (with_reducible refine Below.alloc ?_ ?_ _) | (with_reducible refine Below.setCell ?_ ?_ _) | (with_reducible refine below_go ?_ (by with_reducible assumption)) | (with_reducible refine below_then (by with_reducible assumption) ?_ ?_) | go_size))⟩
end Go.Proofs.Ytaednmpkedkmgaa
/- The walk through closures, the reference's side. -/
namespace Go.Proofs.Ytaednmpkedkmgaa
set_option linter.unusedVariables false
set_option linter.unusedSimpArgs false
open Go.ChangeShapes Go.WideShapes Go.ChangeAt Go.RowKit Go.Deep
set_option maxHeartbeats 1000000 in
set_option maxRecDepth 100000 in
theorem spec_l6Close {A : Option Addr} {N c n : Nat} {gs : List ByteArray} {w : World} (hN : gs.length = N) (h : Strs w A gs) (h0 : 0 < N) (hz : N ≤ 16777216) (h3 : 3 ≤ n) (h8 : n ≤ 8) (hg : ∀ g ∈ gs, RowN n g) :
    Calls Try.prog 88 #[.slice A N c] w fun e w' => ∃ A' m' c', e = .returned (.tuple #[.slice A' m' c', .bool (decide ((clF n gs).length ≤ 800))]) ∧ ((clF n gs).length ≤ 800 → m' = (clF n gs).length ∧ ∃ L, Owned strE 1 9 w' w.heap.size A' m' c' L ∧ L.Perm (clF n gs) ∧ Srt L) ∧ (¬ (clF n gs).length ≤ 800 → A' = none ∧ m' = 0 ∧ c' = 0) ∧ Below w.heap.size w w' := by
  subst hN
  have HG := Lib.hid hg
  have hr := rowN_rounds h3 h8
  have h40 : fact n ≤ 40320 := fact_le8 h8
  have HOK := Lib.hid (fun k => clAt_ok hr hg k)
  have HEND := Lib.hid (fun k (hk : (clAt gs (roundsS n) k).length = k) => clF_end h3 h8 hg hk)
  have HPRE := Lib.hid (fun k => pre_len (clF_pre h3 h8 hg k))
  have HLE := Lib.hid (fun k => (clAt_ok hr hg k).le)
  obtain ⟨b1, o1, g0, rfl, hbb, hg0, hcg0⟩ := h.at_str (k := 0) h0
  have hg0s := (hg g0 (List.mem_of_getElem? hg0)).2
  have hpl := rowN_place hr
  have hrs := hr.2
  obtain ⟨r0, hr0⟩ : ∃ r, r = roundsS n := ⟨_, rfl⟩
  obtain ⟨p0, hp0⟩ : ∃ p, p = place r0 := ⟨_, rfl⟩
  rw [← hr0] at hr HOK hpl hrs
  rw [← hp0] at hpl
  have HR0 := Lib.hid hr0
  have HP0 := Lib.hid hp0
  have HEND : Hid (∀ k, (clAt gs r0 k).length = k → clF n gs = clAt gs r0 k) := Lib.hid (by rw [hr0]; exact HEND.out)
  have HPRE : Hid (∀ k, (clAt gs r0 k).length ≤ (clF n gs).length) := Lib.hid (by rw [hr0]; exact HPRE.out)
  have HLE : Hid (∀ k, (clAt gs r0 k).length ≤ fact n) := Lib.hid (by rw [hr0]; exact HLE.out)
  have HF := Lib.hid (clAt_first (gs := gs) (r := r0))
  clear hg hg0 hr0 hp0
  simp only [Nat.add_zero] at hcg0
  go_in
  go_wp2_with fail
  refine (spec_l1Rounds h8).mono ?_; rw [← HR0.out]; rintro e w' ⟨rfl, rfl⟩
  go_wp2_with fail
  refine (spec_l6Seen h8).mono ?_; rintro e w1 ⟨gm, rfl, hom, hb1⟩
  have hmk0 := Lib.hid (MarkR.none n)
  obtain ⟨hgl, hgh⟩ := hom.at_own
  have HOM := Lib.hid hom
  clear hom hcg0
  go_wp2_with fail
  refine (spec_l1Place (by rw [hrs]; exact h8)).mono ?_; rw [← HP0.out]; rintro e w2 ⟨rfl, hb2⟩
  have HOM2 := Lib.hid (HOM.out.up hb2)
  have hold := hmk0.out.2 r0 hr
  rw [← HP0.out] at hold
  obtain ⟨HM3, hg3⟩ := HOM2.out.put (k := p0) (j := 0) (x := true) (u := .bool true) hold (by decide) rfl
  obtain ⟨g', e, _, _, gc, gf⟩ := HOM2.out.at_ (fact_pos n)
  injection e with e
  injection e with e
  subst e
  have c1 := gc p0 _ 0 _ hold rfl
  have f1 := gf p0
  simp only [Nat.mul_one, Nat.add_zero] at HM3 hg3 c1
  have hb3 : Below w.heap.size w (w2.setCell ⟨gm, p0, none⟩ (.bool true)) := (below_go hb1 hb2).grown hg3 (below_go hb1 hb2).size (fun k hk => by injection hk with hk; omega)
  have HM3 := Lib.hid HM3
  have HK3 := Lib.hid (show MarkR n (clAt gs r0 0) ((List.replicate (fact n) false).set p0 true) from by rw [HP0.out]; exact hmk0.out.add hr)
  have HB3 := Lib.hid hb3
  have hs2 := hb2.size
  clear hold gc gf hg3 hb3 HOM HOM2
  clear hg0s
  go_wp2_with fail
  have HO3 := Lib.hid (own_lit1_at' strE_len (w2.setCell ⟨gm, p0, none⟩ (.bool true)) 9 r0 (b := w2.heap.size) (base := w1.heap.size) (by simp) (by simpa using hs2))
  have HRS := Lib.hid hrs
  clear hrs
  go_loopw [6, 7] (fun v i wr => ∃ (k : Nat) (A' : Option Addr) (c' : Nat) (m : List Bool), k ≤ (clAt gs r0 k).length ∧ (clAt gs r0 k).length ≤ 800 ∧ i = .int .i64 k ∧ v = .slice A' (clAt gs r0 k).length c' ∧ Hid (MarkR n (clAt gs r0 k) m) ∧ Hid (Owned boolE 1 4 wr w.heap.size (some ⟨gm, 0, none⟩) (fact n) (fact n) m) ∧ Hid (Owned strE 1 9 wr w1.heap.size A' (clAt gs r0 k).length c' (clAt gs r0 k)) ∧ Below w.heap.size w wr) (fun _ i _ => fact n - (intOf i).toNat)
  case atStart => exact ⟨0, some ⟨w2.heap.size, 0, none⟩, 1, _, Nat.zero_le _, (by show 1 ≤ 800; decide), rfl, rfl, HK3, Lib.hid (HM3.out.alloc _), HO3, by have := HB3.out; (repeat' (first | (with_reducible exact Below.refl _ _) | (with_reducible assumption) | (with_reducible refine below_drewN ?_ _) | (with_reducible refine Below.drew ?_) | (with_reducible refine below_alloc ?_ _) | (with_reducible refine Below.alloc ?_ ?_ _) | (with_reducible refine Below.setCell ?_ ?_ _) | (with_reducible refine below_go ?_ (by with_reducible assumption)) | (with_reducible refine below_then (by with_reducible assumption) ?_ ?_) | go_size))⟩
  case round =>
    clear HK3 HM3 HO3 HB3
    obtain ⟨k, A1, c1, m, hk, hk8, rfl, rfl, HMK, HM, HO, hb⟩ := hrel
    rename World => w4
    have hle := HLE.out k
    have hle1 := HLE.out (k + 1)
    by_cases hlt : k < (clAt gs r0 k).length
    · obtain ⟨x, hx⟩ := some_of_lt hlt
      have HX := Lib.hid hx
      have hxN := (HOK.out k).2 x (List.mem_of_getElem? hx)
      have HNX := Lib.hid (clAt_more (gs := gs) (r := r0) hx)
      have HPO := Lib.hid (fun j => (HOK.out k).part hxN HG.out j)
      clear hx
      go_wp2
      go_loopw [6, 33] (fun v i wr => ∃ (j : Nat) (A' : Option Addr) (c' : Nat) (m : List Bool), j ≤ gs.length ∧ i = .int .i64 j ∧ v = .slice A' (clPart gs x j (clAt gs r0 k)).length c' ∧ Hid (MarkR n (clPart gs x j (clAt gs r0 k)) m) ∧ Hid (Owned boolE 1 4 wr w.heap.size (some ⟨gm, 0, none⟩) (fact n) (fact n) m) ∧ Hid (Owned strE 1 9 wr w1.heap.size A' (clPart gs x j (clAt gs r0 k)).length c' (clPart gs x j (clAt gs r0 k))) ∧ Below w.heap.size w wr) (fun _ i _ => gs.length - (intOf i).toNat)
      case atStart => exact ⟨0, A1, c1, m, Nat.zero_le _, rfl, rfl, HMK, HM, HO, hb⟩
      case round =>
        clear HMK HM HO hb
        obtain ⟨j, A1, c1, m, hj, rfl, rfl, HMK, HM, HO, hb⟩ := hrel
        rename World => w5
        have hlen := (HPO.out j).le
        have hpl := pre_len (clPart_pre gs x j (clAt gs r0 k))
        by_cases hjl : j < gs.length
        · obtain ⟨b3, o3, g, e, _, hgj, hcg0⟩ := h.at_str hjl
          injection e with e
          injection e with e1 e2
          subst e1 e2
          have hcg := (hb.cell (p := ⟨b1, o1 + j, none⟩) hbb).trans hcg0
          obtain ⟨b2, rfl, hb2lo, hb2hi, gc, _⟩ := HO.out.at_ (by omega)
          have hcx := gc k x 0 _ (pre_at (clPart_pre gs x j (clAt gs r0 k)) HX.out) rfl
          simp only [Nat.mul_one, Nat.add_zero] at hcx
          have hgN := HG.out g (List.mem_of_getElem? hgj)
          have hft := rowN_fits hxN hgN
          have hxs : x.size ≤ 16777216 := by rw [hxN.2]; omega
          have hgz : g.size ≤ 16777216 := by rw [hgN.2]; omega
          have hrN := hxN.times hgN
          have HS := Lib.hid (clPart_succ (x := x) (clAt gs r0 k) hgj)
          obtain ⟨r, hr'⟩ : ∃ r, r = timesS x g := ⟨_, rfl⟩
          have HRD := Lib.hid hr'
          rw [← hr'] at hrN
          have hrz : r.size ≤ 8 := by rw [hrN.2]; exact h8
          obtain ⟨p, hp⟩ : ∃ p, p = place r := ⟨_, rfl⟩
          have HP := Lib.hid hp
          have hpF : p < fact n := by rw [hp]; exact rowN_place hrN
          have HRN := Lib.hid hrN
          have hcm := HMK.out.at_ hrN
          rw [← hp] at hcm
          have HCM := Lib.hid hcm
          clear gc hgj hcg0 hr' hp hcm hrN
          go_wp2_with fail
          refine (spec_l1Times hxs hgz hft).mono ?_; rw [← HRD.out]; rintro e w' ⟨rfl, rfl⟩
          clear hcx hcg hft
          go_wp2_with fail
          refine (spec_l1Place hrz).mono ?_; rw [← HP.out]; rintro e w6 ⟨rfl, hb6⟩
          have hB6 := below_go hb hb6
          have HM6 := Lib.hid (HM.out.up hb6)
          have HO6 := Lib.hid (HO.out.up hb6)
          obtain ⟨g', e, _, _, gc, gf⟩ := HM6.out.at_ (fact_pos n)
          injection e with e
          injection e with e
          subst e
          have cm := gc p _ 0 _ HCM.out rfl
          simp only [Nat.mul_one, Nat.add_zero] at cm
          have hs6 := hb6.size
          clear gc gf
          rcases hin : inL (clPart gs x j (clAt gs r0 k)) r
          · rw [hin] at cm
            have e1 := Lib.hid (show clPart gs x (j + 1) (clAt gs r0 k) = (clPart gs x j (clAt gs r0 k)) ++ [r] by rw [HS.out, clAdd_new (by rw [← HRD.out]; intro q; rw [inL_iff.2 q] at hin; cases hin), ← HRD.out])
            have el : ((clPart gs x j (clAt gs r0 k)) ++ [r]).length = (clPart gs x j (clAt gs r0 k)).length + 1 := by simp
            have EL := Lib.hid el
            clear hin el
            go_wp2_with fail
            refine (spec_l1Place hrz).mono ?_; rw [← HP.out]; rintro e w7 ⟨rfl, hb7⟩
            clear cm
            have hB7 := below_go hB6 hb7
            have HM7 := Lib.hid (HM6.out.up hb7)
            have HO7 := Lib.hid (HO6.out.up hb7)
            have hs7 := hb7.size
            obtain ⟨HM8, hg8⟩ := HM7.out.put (k := p) (j := 0) (x := true) (u := .bool true) HCM.out (by decide) rfl
            obtain ⟨g', e, _, _, gc, gf⟩ := HM7.out.at_ (fact_pos n)
            injection e with e
            injection e with e
            subst e
            have c2 := gc p _ 0 _ HCM.out rfl
            have f2 := gf p
            simp only [Nat.mul_one, Nat.add_zero] at HM8 hg8 c2
            have hB8 : Below w.heap.size w (w7.setCell ⟨gm, p, none⟩ (.bool true)) := hB7.grown hg8 hB7.size (fun k hk => by injection hk with hk; omega)
            have HB8 := Lib.hid hB8
            have HO8 := Lib.hid (HO7.out.past hg8 hgh)
            have HM8 := Lib.hid HM8
            have hno : b2 ≠ gm := by omega
            clear gc gf hg8 hB8
            go_wp2_with (first | (at_builtin; go_must ((refine wpList_append_recs Try.elStr strE_one rfl (.tmp 53) (.tmp 55) rfl rfl (HO8.out.alloc _) rfl (own_lit1_at' strE_len (w7.setCell ⟨gm, p, none⟩ (.bool true)) 9 r (by simp) (Nat.le_refl _)).recs rfl ?_ (by decide) ?_ ?_; (focus (first | omega | (simp only [World.size_alloc]; done) | (simp only [World.size_alloc]; omega) | (simp; done) | (simp; omega))); (focus (first | omega | (simp only [World.size_alloc]; done) | (simp only [World.size_alloc]; omega) | (simp; done) | (simp; omega))); intro A3 c3 w9 ho9 hg9 hl9))))
            have hm9 := (HM8.out.alloc (.cells #[.string r] 9)).kept hg9 (fun k hk e => by injection hk with hk; injection e with e; dsimp only at hk e; omega)
            have hb9 : Below w.heap.size w w9 := ((HB8.out.alloc (by have := HB8.out.size; exact this) _)).trans (grown_base hg9 (by have := HB8.out.size; simp at this ⊢; omega) (fun k hk => by injection hk with hk; dsimp only at hk; have := hb1.size; omega))
            have hmk9 := HMK.out.add HRN.out
            rw [← HP.out] at hmk9
            go_roundw
            case rel => exact ⟨j + 1, A3, c3, m.set p true, by omega, by go_num, by rw [e1.out, EL.out], Lib.hid (by rw [e1.out]; exact hmk9), Lib.hid hm9, Lib.hid (by rw [e1.out, EL.out]; exact ho9), hb9⟩
            case measure => simp [intOf]; omega
          · rw [hin] at cm
            have e1 := Lib.hid (show clPart gs x (j + 1) (clAt gs r0 k) = (clPart gs x j (clAt gs r0 k)) by rw [HS.out, clAdd_in (by rw [← HRD.out]; exact inL_iff.1 hin)])
            clear hin
            go_wp2
            go_roundw
            case rel => exact ⟨j + 1, _, _, m, by omega, by go_num, by rw [e1.out], Lib.hid (by rw [e1.out]; exact HMK.out), HM6, Lib.hid (by rw [e1.out]; exact HO6.out), hB6⟩
            case measure => simp [intOf]; omega
        · obtain rfl : j = gs.length := by omega
          by_cases h8 : (clPart gs x gs.length (clAt gs r0 k)).length ≤ 800
          · have hq : ¬ (800 : Int) < ((clPart gs x gs.length (clAt gs r0 k)).length : Int) := by omega
            go_wp2
            go_roundw
            case rel => exact ⟨k + 1, A1, c1, m, by rw [HNX.out]; omega, by rw [HNX.out]; exact h8, by go_num, by rw [HNX.out], Lib.hid (by rw [HNX.out]; exact HMK.out), HM, Lib.hid (by rw [HNX.out]; exact HO.out), hb⟩
            case measure => simp [intOf]; omega
          · have hq : (800 : Int) < ((clPart gs x gs.length (clAt gs r0 k)).length : Int) := by omega
            have hno := Lib.hid (show ¬ (clF n gs).length ≤ 800 by
              have := HPRE.out (k + 1)
              rw [HNX.out] at this; omega)
            have hdec := Lib.hid (decide_eq_false hno.out)
            go_wp2
            go_ret2
            rw [hdec.out]
            exact ⟨none, 0, 0, rfl, fun q => absurd q hno.out, fun _ => ⟨rfl, rfl, rfl⟩, hb⟩
    · have hke : (clAt gs r0 k).length = k := by omega
      have e1 := Lib.hid (HEND.out k hke)
      clear hke
      have hz8 : (clAt gs r0 k).length ≤ 16777216 := by omega
      go_wp2_with fail
      refine (spec_l6Sort _ _ _ _ _ rfl HO.out.recs (by omega) (fun s hs => by rw [((HOK.out k).2 s hs).2]; omega)).mono ?_; rintro e w5 ⟨A5, c5, L, rfl, hoL, hpL, hsL, hb5⟩
      go_wp2
      go_ret2
      rw [e1.out, decide_eq_true hk8]
      exact ⟨_, _, _, rfl, fun _ => ⟨rfl, L, hoL.base_le hb.size, hpL, hsL⟩, fun q => absurd hk8 q, below_go hb hb5⟩
end Go.Proofs.Ytaednmpkedkmgaa
/- The walks through good methods and good calls, both sides. -/
namespace Go.Proofs.Ytaednmpkedkmgaa
set_option linter.unusedVariables false
set_option linter.unusedSimpArgs false
open Go.ChangeShapes Go.WideShapes Go.ChangeAt Go.RowKit Go.Deep
theorem lowB_eq (s : ByteArray) (k : Nat) : lowB s k = (!decide (PlainAid.bt s k < 97) && !decide (122 < PlainAid.bt s k)) := by
  rw [lowB, inB, Bool.eq_iff_iff]
  simp
theorem goodM_tail {nm : ByteArray} {st : Int} {l : List ByteArray} (ha : allCh st l = true) : goodM nm st l = (nameOk nm && (inB st 3 8 && inB l.length 1 40)) := by
  rw [goodM, ha, Bool.and_true]
theorem goodM_bad {nm : ByteArray} {st : Int} {l : List ByteArray} (ha : allCh st l = false) : goodM nm st l = false := by
  rw [goodM, ha, Bool.and_false, Bool.and_false, Bool.and_false]
end Go.Proofs.Ytaednmpkedkmgaa
/- The walks through called leads and their heads, both sides. -/
namespace Go.Proofs.Ytaednmpkedkmgaa
set_option linter.unusedVariables false
set_option linter.unusedSimpArgs false
open Go.ChangeShapes Go.WideShapes Go.ChangeAt Go.RowKit Go.Deep
theorem lit_app_drew {w w' : World} {o : Obj} {n c : Nat} (hg : (w.alloc o).drew.grownBy w' (Value.slice (some ⟨w.heap.size, 0, none⟩) n c).ownBlock) : Below w.heap.size w w' :=
  (((Below.refl _ _).alloc (Nat.le_refl _) _).drew).trans (grown_base hg (by simp) (fun k hk => by injection hk with hk; dsimp only at hk; omega))
theorem lit_app_drew2 {w w' : World} {o o' : Obj} {n c : Nat} (hg : ((w.alloc o).alloc o').drew.grownBy w' (Value.slice (some ⟨w.heap.size, 0, none⟩) n c).ownBlock) : Below w.heap.size w w' :=
  ((((Below.refl _ _).alloc (Nat.le_refl _) _).alloc (by simp) _).drew).trans (grown_base hg (by simp; omega) (fun k hk => by injection hk with hk; dsimp only at hk; omega))
theorem lit_app_drew3 {w w' : World} {o o' : Obj} {n c : Nat} (hg : ((w.alloc o).alloc o').drew.grownBy w' (Value.slice (some ⟨w.heap.size + 1, 0, none⟩) n c).ownBlock) : Below w.heap.size w w' :=
  ((((Below.refl _ _).alloc (Nat.le_refl _) _).alloc (by simp) _).drew).trans (grown_base hg (by simp; omega) (fun k hk => by injection hk with hk; dsimp only at hk; omega))
theorem Owned.ne_blk {α : Type} {e : α → List Value} {s : Nat} {E : TypeId} {w : World} {base : Nat} {A : Option Addr} {n c : Nat} {l : List α} {p : Nat} {t : TypeId} {cs : List Value} (h : Owned e s E w base A n c l) (k : Blk w p t cs) (hE : E ≠ t) : ∀ q, (Value.slice A n c).ownBlock = some q → q ≠ p := by
  intro q hq e2
  rcases h.2.2.2 with ⟨hv, _⟩ | ⟨g, cap, cur, hv, _, hh, _⟩
  · rw [hv] at hq; cases hq
  · rw [hv] at hq
    injection hq with hq
    dsimp only at hq
    subst hq; subst e2
    unfold Blk at k
    rw [hh] at k
    injection k with k
    injection k with _ e3 _
    exact hE e3
theorem lead_fin {w0 w3 : World} {p base : Nat} {A2 : Option Addr} {n c2 : Nat} {l : List ByteArray} {nm : ByteArray} {st : Int} (KZ : Blk w3 p 95 [.string { data := #[] }, .int .i64 0, .slice none 0 0]) (ho : Owned strE 1 9 w3 base A2 n c2 l) (C3 : Below w0.heap.size w0 w3) (hp : w0.heap.size ≤ p) :
    Blk (((w3.setCell ⟨p, 0, none⟩ (.string nm)).setCell ⟨p, 1, none⟩ (.int .i64 st)).setCell ⟨p, 2, none⟩ (.slice A2 n c2)) p 95 [.string nm, .int .i64 st, .slice A2 n c2] ∧
      Owned strE 1 9 (((w3.setCell ⟨p, 0, none⟩ (.string nm)).setCell ⟨p, 1, none⟩ (.int .i64 st)).setCell ⟨p, 2, none⟩ (.slice A2 n c2)) base A2 n c2 l ∧
      Below w0.heap.size w0 (((w3.setCell ⟨p, 0, none⟩ (.string nm)).setCell ⟨p, 1, none⟩ (.int .i64 st)).setCell ⟨p, 2, none⟩ (.slice A2 n c2)) := by
  have hne := ho.ne_blk KZ (by decide)
  have g : w3.grownBy (((w3.setCell ⟨p, 0, none⟩ (.string nm)).setCell ⟨p, 1, none⟩ (.int .i64 st)).setCell ⟨p, 2, none⟩ (.slice A2 n c2)) (some p) :=
    grownBy_trans (grownBy_trans (only_set w3 (p := ⟨p, 0, none⟩) _) (only_set _ (p := ⟨p, 1, none⟩) _)) (only_set _ (p := ⟨p, 2, none⟩) _)
  exact ⟨((KZ.set_ 0 _).set_ 1 _).set_ 2 _, ho.kept g (fun k hk e => hne k hk (by injection e with e; exact e.symm)), ((C3.setCell (p := ⟨p, 0, none⟩) hp _).setCell (p := ⟨p, 1, none⟩) hp _).setCell (p := ⟨p, 2, none⟩) hp _⟩
end Go.Proofs.Ytaednmpkedkmgaa
/- The walks through the odd changes of a list, both sides. -/
namespace Go.Proofs.Ytaednmpkedkmgaa
set_option linter.unusedVariables false
set_option linter.unusedSimpArgs false
open Go.ChangeShapes Go.WideShapes Go.ChangeAt Go.RowKit Go.Deep
theorem wrap_pred {k : Nat} (h0 : 0 < k) (h1 : k ≤ 16777216) : IntKind.i64.wrap ((k : Int) - 1) = ((k - 1 : Nat) : Int) := by
  rw [PlainAid.i64_is]; unfold wrap64; omega
set_option maxRecDepth 100000 in
theorem impl_increasing {A : Option Addr} {N c : Nat} {l : List ByteArray} {w : World} (hN : l.length = N) (h : Strs w A l) (hz : N ≤ 16777216) :
    Calls Try.prog 41 #[.slice A N c] w fun e w' => e = .returned (.bool (incB l)) ∧ Below w.heap.size w w' := by
  subst hN
  have HG : Hid (incB l = (List.range l.length).all (okInc l)) := Lib.hid rfl
  go_in
  go_wp2
  go_loopw [3] (fun i wr => ∃ k : Nat, 0 < k ∧ k ≤ l.length + 1 ∧ i = .int .i64 k ∧ Hid (∀ j, j < k → okInc l j = true) ∧ Below w.heap.size w wr) (fun i _ => l.length + 1 - (intOf i).toNat)
  case atStart => exact ⟨1, by omega, by omega, rfl, Lib.hid (fun j hj => (by have : j = 0 := (by omega); subst this; exact okInc_0 l)), Below.refl _ _⟩
  case round =>
    obtain ⟨k, hk0, hk, rfl, HK, hb⟩ := hrel
    by_cases hlt : k < l.length
    · have hr := h.below hb (Nat.le_refl _)
      obtain ⟨b1, o1, y, rfl, hbb, hy, hcy⟩ := hr.at_str hlt
      obtain ⟨b2, o2, x, e, _, hx, hcx⟩ := hr.at_str (k := k - 1) (by omega)
      injection e with e
      injection e with e1 e2
      subst e1 e2
      have E := Lib.hid (okInc_pos hk0 hx hy)
      have hwk := wrap_pred hk0 (by omega)
      have hlt1 : k - 1 < l.length := by omega
      clear h hr hx hy
      rcases hl : less x y
      · obtain ⟨h1, h2⟩ := less_no hl
        clear hl
        have e0 := Lib.hid (show okInc l k = false by rw [E.out]; exact h1)
        rcases h2 with h2 | ⟨h2, h3⟩
        all_goals
          go_wp2
          go_quiet (fail)
          go_wp2
          go_ret
          refine ⟨ret_bool ?_, by (repeat' (first | (with_reducible exact Below.refl _ _) | (with_reducible assumption) | (with_reducible refine below_drewN ?_ _) | (with_reducible refine Below.drew ?_) | (with_reducible refine below_alloc ?_ _) | (with_reducible refine Below.alloc ?_ ?_ _) | (with_reducible refine Below.setCell ?_ ?_ _) | (with_reducible refine below_go ?_ (by with_reducible assumption)) | (with_reducible refine below_then (by with_reducible assumption) ?_ ?_) | go_size))⟩
          rw [HG.out, all_no hlt e0.out]
      · obtain ⟨h1, h2, h3⟩ := less_yes hl
        have e0 := Lib.hid (show okInc l k = true by rw [E.out]; exact hl)
        clear hl
        go_wp2
        go_quiet (fail)
        go_wp2
        go_roundw
        case rel => exact ⟨k + 1, by omega, by omega, by go_num, Lib.hid (upto_succ HK.out e0.out), by (repeat' (first | (with_reducible exact Below.refl _ _) | (with_reducible assumption) | (with_reducible refine below_drewN ?_ _) | (with_reducible refine Below.drew ?_) | (with_reducible refine below_alloc ?_ _) | (with_reducible refine Below.alloc ?_ ?_ _) | (with_reducible refine Below.setCell ?_ ?_ _) | (with_reducible refine below_go ?_ (by with_reducible assumption)) | (with_reducible refine below_then (by with_reducible assumption) ?_ ?_) | go_size))⟩
        case measure => simp [intOf]; omega
    · go_wp2
      go_ret
      refine ⟨ret_bool ?_, hb⟩
      rw [HG.out, all_yes (fun j hj => HK.out j (by omega))]
set_option maxRecDepth 100000 in
theorem spec_l19With {A : Option Addr} {N c : Nat} {l : List ByteArray} {n : Int} {w : World} (hN : l.length = N) (h : Strs w A l) (hz : N ≤ 16777216) (hs : ∀ s ∈ l, s.size ≤ 16777216) (hn : I64 n) :
    Calls Try.prog 58 #[.int .i64 n, .slice A N c] w fun e w' => e = .returned (.bool (goodWith n l)) ∧ w = w' := by
  subst hN
  have HG : Hid (goodWith n l = ((List.range l.length).all (okWith n l) && inB l.length 1 30)) := Lib.hid rfl
  have HW : Hid (∀ k, okWith n l k = (okCh n l k && okInc l k)) := Lib.hid (fun _ => rfl)
  have HS := Lib.hid hs
  clear hs
  go_in
  go_wp2
  go_loopw [9] (fun i wr => ∃ k : Nat, k ≤ l.length ∧ i = .int .i64 k ∧ Hid (∀ j, j < k → okWith n l j = true) ∧ w = wr) (fun i _ => l.length - (intOf i).toNat)
  case atStart => exact ⟨0, Nat.zero_le _, rfl, Lib.hid (fun j hj => absurd hj (by omega)), rfl⟩
  case round =>
    obtain ⟨k, hk, rfl, HK, rfl⟩ := hrel
    by_cases hlt : k < l.length
    · obtain ⟨b1, o1, y, rfl, hbb, hy, hcy⟩ := h.at_str hlt
      have hys := HS.out y (List.mem_of_getElem? hy)
      have EC := Lib.hid (okCh_at (n := n) hy)
      rcases hg : goodChange n y
      · have e0 := Lib.hid (show okWith n l k = false by rw [HW.out, EC.out, hg]; rfl)
        clear hy
        go_wp2_with (first | (go_at_call 80; refine (spec_l2Change hys hn).mono ?_; rintro e w' ⟨rfl, rfl⟩))
        go_ret
        refine ⟨ret_bool ?_, rfl⟩
        rw [HG.out, all_bad hlt e0.out]
      by_cases hk0 : 0 < k
      · obtain ⟨b2, o2, x, e, _, hx, hcx⟩ := h.at_str (k := k - 1) (by omega)
        injection e with e
        injection e with e1 e2
        subst e1 e2
        have E := Lib.hid (okInc_pos hk0 hx hy)
        have hlt1 : k - 1 < l.length := by omega
        clear hx hy
        rcases hl : less x y
        · obtain ⟨h1, h2⟩ := less_no hl
          clear h2
          have e0 := Lib.hid (show okWith n l k = false by rw [HW.out, EC.out, hg, E.out, hl]; rfl)
          clear hl
          go_wp2_with (first | (go_at_call 80; refine (spec_l2Change hys hn).mono ?_; rintro e w' ⟨rfl, rfl⟩))
          go_ret
          refine ⟨ret_bool ?_, rfl⟩
          rw [HG.out, all_bad hlt e0.out]
        · obtain ⟨h1, h2, h3⟩ := less_yes hl
          have e0 := Lib.hid (show okWith n l k = true by rw [HW.out, EC.out, hg, E.out, hl]; rfl)
          clear hl
          go_wp2_with (first | (go_at_call 80; refine (spec_l2Change hys hn).mono ?_; rintro e w' ⟨rfl, rfl⟩))
          go_roundw
          case rel => exact ⟨k + 1, by omega, by go_num, Lib.hid (upto_succ HK.out e0.out), trivial⟩
          case measure => simp [intOf]; omega
      · have e0 := Lib.hid (show okWith n l k = true by rw [HW.out, EC.out, hg, okInc_z hk0]; rfl)
        have hk1 : decide ((0 : Int) < (k : Int)) = false := decide_eq_false (by omega)
        clear hy
        go_wp2_with (first | (go_at_call 80; refine (spec_l2Change hys hn).mono ?_; rintro e w' ⟨rfl, rfl⟩))
        go_roundw
        case rel => exact ⟨k + 1, by omega, by go_num, Lib.hid (upto_succ HK.out e0.out), trivial⟩
        case measure => simp [intOf]; omega
    · obtain rfl : k = l.length := by omega
      go_wp2_with (first | (go_at_call 57; refine (spec_l1In _ _ _ _).mono ?_; rintro e w' ⟨rfl, rfl⟩))
      go_ret
      refine ⟨ret_bool ?_, rfl⟩
      rw [HG.out, all_good (fun j hj => HK.out j hj)]
set_option maxRecDepth 100000 in
theorem impl_goodWith {A : Option Addr} {N c : Nat} {l : List ByteArray} {n : Int} {w : World} (hN : l.length = N) (h : Strs w A l) (hz : N ≤ 16777216) (hs : ∀ s ∈ l, s.size ≤ 16777216) :
    Calls Try.prog 54 #[.int .i64 n, .slice A N c] w fun e w' => e = .returned (.bool (goodWith n l)) ∧ Below w.heap.size w w' := by
  subst hN
  rcases h1 : inB n 3 8
  · have e0 := Lib.hid (goodWith_stage (l := l) h1)
    go_in
    go_wp2_with (first | (go_at_call 63; refine (impl_isStage _ _).mono ?_; rintro e w' ⟨rfl, rfl⟩))
    go_ret
    exact ⟨ret_bool e0.out.symm, Below.refl _ _⟩
  have HP := Lib.hid (goodWith_parts n l)
  rcases h2 : inB l.length 1 30
  · have e0 := Lib.hid (show goodWith n l = false by rw [HP.out, h2]; rfl)
    go_in
    go_wp2_with (first | (go_at_call 63; refine (impl_isStage _ _).mono ?_; rintro e w' ⟨rfl, rfl⟩) | (go_at_call 53; refine (impl_within _ _ _ _).mono ?_; rintro e w' ⟨rfl, rfl⟩))
    go_ret
    exact ⟨ret_bool e0.out.symm, Below.refl _ _⟩
  rcases h3 : incB l
  · have e0 := Lib.hid (show goodWith n l = false by rw [HP.out, h2, h3]; rfl)
    go_in
    go_wp2_with (first | (go_at_call 63; refine (impl_isStage _ _).mono ?_; rintro e w' ⟨rfl, rfl⟩) | (go_at_call 53; refine (impl_within _ _ _ _).mono ?_; rintro e w' ⟨rfl, rfl⟩) | (go_at_call 41; refine (impl_increasing rfl h hz).mono ?_; rintro e w1 ⟨rfl, hb1⟩))
    go_ret
    exact ⟨ret_bool e0.out.symm, hb1⟩
  have HG := Lib.hid (show goodWith n l = (List.range l.length).all (okCh n l) by rw [HP.out, h2, h3]; rfl)
  have HS := Lib.hid hs
  clear hs
  go_in
  go_wp2_with (first | (go_at_call 63; refine (impl_isStage _ _).mono ?_; rintro e w' ⟨rfl, rfl⟩) | (go_at_call 53; refine (impl_within _ _ _ _).mono ?_; rintro e w' ⟨rfl, rfl⟩) | (go_at_call 41; refine (impl_increasing rfl h hz).mono ?_; rintro e w1 ⟨rfl, hb1⟩))
  go_loopw [23] (fun i wr => ∃ k : Nat, k ≤ l.length ∧ i = .int .i64 k ∧ Hid (∀ j, j < k → okCh n l j = true) ∧ Below w.heap.size w wr) (fun i _ => l.length - (intOf i).toNat)
  case atStart => exact ⟨0, Nat.zero_le _, rfl, Lib.hid (fun j hj => absurd hj (by omega)), hb1⟩
  case round =>
    obtain ⟨k, hk, rfl, HK, hb⟩ := hrel
    by_cases hlt : k < l.length
    · obtain ⟨b1, o1, y, rfl, hbb, hy, hcy⟩ := (h.below hb (Nat.le_refl _)).at_str hlt
      have hys := HS.out y (List.mem_of_getElem? hy)
      have EC := Lib.hid (okCh_at (n := n) hy)
      clear hy
      rcases hg : goodChange n y
      · have e0 := Lib.hid (show okCh n l k = false by rw [EC.out, hg])
        go_wp2_with (first | (go_at_call 64; refine (impl_GoodChange hys).mono ?_; rintro e w2 ⟨rfl, hb2⟩))
        go_ret
        refine ⟨ret_bool ?_, below_go hb hb2⟩
        rw [HG.out, all_no hlt e0.out]
      · have e0 := Lib.hid (show okCh n l k = true by rw [EC.out, hg])
        go_wp2_with (first | (go_at_call 64; refine (impl_GoodChange hys).mono ?_; rintro e w2 ⟨rfl, hb2⟩))
        go_roundw
        case rel => exact ⟨k + 1, by omega, by go_num, Lib.hid (upto_succ HK.out e0.out), below_go hb hb2⟩
        case measure => simp [intOf]; omega
    · obtain rfl : k = l.length := by omega
      go_wp2
      go_ret
      refine ⟨ret_bool ?_, hb⟩
      rw [HG.out, all_yes (fun j hj => HK.out j hj)]
set_option maxRecDepth 100000 in
theorem impl_OddsIn {A : Option Addr} {N c : Nat} {l : List ByteArray} {n : Int} {w : World} (hN : l.length = N) (h : Strs w A l) (hz : N ≤ 16777216) (hs : ∀ s ∈ l, s.size ≤ 16777216) :
    Calls Try.prog 29 #[.int .i64 n, .slice A N c] w fun e w' => e = .returned (.tuple #[.int .i64 (oddsR n l), .bool (goodWith n l)]) ∧ Below w.heap.size w w' := by
  rcases h1 : goodWith n l
  · have e0 := Lib.hid (oddsR_f h1)
    go_in
    go_wp2_with (first | (go_at_call 54; refine (impl_goodWith hN h hz hs).mono ?_; rintro e w1 ⟨rfl, hb1⟩))
    go_ret2
    exact ⟨by rw [e0.out]; rfl, hb1⟩
  obtain ⟨hst, hlen, hall⟩ := goodWith_stage_t h1
  have hn3 := inB_t hst
  obtain ⟨m, rfl⟩ := Int.eq_ofNat_of_zero_le (show 0 ≤ n by omega)
  have e0 := Lib.hid (oddsR_t h1)
  have hm : m ≤ 8 := by omega
  have HA := Lib.hid (allCh_mem hall)
  have HS := Lib.hid hs
  subst hN
  go_in
  go_wp2_with (first | (go_at_call 54; refine (impl_goodWith rfl h hz hs).mono ?_; rintro e w1 ⟨rfl, hb1⟩; clear hall hs hlen))
  go_loopw [6, 15] (fun v i wr => ∃ k : Nat, k ≤ l.length ∧ i = .int .i64 k ∧ v = .int .i64 (odds m l k) ∧ Below w.heap.size w wr) (fun _ i _ => l.length - (intOf i).toNat)
  case atStart => exact ⟨0, Nat.zero_le _, rfl, rfl, hb1⟩
  case round =>
    obtain ⟨k, hk, rfl, rfl, hb⟩ := hrel
    have hol := odds_le m l k
    by_cases hlt : k < l.length
    · obtain ⟨b1, o1, y, rfl, hbb, hy, hcy⟩ := (h.below hb (Nat.le_refl _)).at_str hlt
      have hys := HS.out y (List.mem_of_getElem? hy)
      have hgv := good_valid (HA.out y (List.mem_of_getElem? hy))
      rcases hev : evenSwaps m y
      · have E := Lib.hid (odds_odd (m := m) hy (by rw [isOdd, hev]; rfl))
        clear hy
        go_wp2_with (first | (go_at_call 84; refine (impl_evenChange hys hm hgv).mono ?_; rintro e w2 ⟨rfl, hb2⟩))
        go_roundw
        case rel => exact ⟨k + 1, by omega, by go_num, by rw [E.out]; go_num, below_go hb hb2⟩
        case measure => simp [intOf]; omega
      · have E := Lib.hid (odds_even (m := m) hy (by rw [isOdd, hev]; rfl))
        clear hy
        go_wp2_with (first | (go_at_call 84; refine (impl_evenChange hys hm hgv).mono ?_; rintro e w2 ⟨rfl, hb2⟩))
        go_roundw
        case rel => exact ⟨k + 1, by omega, by go_num, by rw [E.out], below_go hb hb2⟩
        case measure => simp [intOf]; omega
    · obtain rfl : k = l.length := by omega
      go_wp2
      go_ret2
      exact ⟨by rw [e0.out]; rfl, hb⟩
set_option maxRecDepth 100000 in
theorem spec_OddsIn {A : Option Addr} {N c : Nat} {l : List ByteArray} {n : Int} {w : World} (hN : l.length = N) (h : Strs w A l) (hz : N ≤ 16777216) (hs : ∀ s ∈ l, s.size ≤ 16777216) (hn : I64 n) :
    Calls Try.prog 35 #[.int .i64 n, .slice A N c] w fun e w' => e = .returned (.tuple #[.int .i64 (oddsR n l), .bool (goodWith n l)]) ∧ Below w.heap.size w w' := by
  rcases h1 : goodWith n l
  · have e0 := Lib.hid (oddsR_f h1)
    go_in
    go_wp2_with (first | (go_at_call 58; refine (spec_l19With hN h hz hs hn).mono ?_; rintro e w1 ⟨rfl, rfl⟩))
    go_ret2
    exact ⟨by rw [e0.out]; rfl, Below.refl _ _⟩
  obtain ⟨hst, hlen, hall⟩ := goodWith_stage_t h1
  have hn3 := inB_t hst
  obtain ⟨m, rfl⟩ := Int.eq_ofNat_of_zero_le (show 0 ≤ n by omega)
  have e0 := Lib.hid (oddsR_t h1)
  have hm : m ≤ 8 := by omega
  have HS := Lib.hid hs
  subst hN
  go_in
  go_wp2_with (first | (go_at_call 58; refine (spec_l19With rfl h hz hs hn).mono ?_; rintro e w1 ⟨rfl, rfl⟩; clear hall hs hlen))
  go_loopw [6, 15] (fun v i wr => ∃ k : Nat, k ≤ l.length ∧ i = .int .i64 k ∧ v = .int .i64 (odds m l k) ∧ Below w.heap.size w wr) (fun _ i _ => l.length - (intOf i).toNat)
  case atStart => exact ⟨0, Nat.zero_le _, rfl, rfl, Below.refl _ _⟩
  case round =>
    obtain ⟨k, hk, rfl, rfl, hb⟩ := hrel
    have hol := odds_le m l k
    by_cases hlt : k < l.length
    · obtain ⟨b1, o1, y, rfl, hbb, hy, hcy⟩ := (h.below hb (Nat.le_refl _)).at_str hlt
      have hys := HS.out y (List.mem_of_getElem? hy)
      have hl8 : (swaps m y).length ≤ 8 := by
        have := sws_len (stays y) m 1
        rw [swaps]; omega
      have hpar : (((swaps m y).length : Int) % 2 == 1) = isOdd m y := by
        rw [isOdd, evenSwaps, Bool.eq_iff_iff]; simp; omega
      rcases hev : isOdd m y
      · have E := Lib.hid (odds_even (m := m) hy hev)
        rw [hev] at hpar
        clear hy
        go_wp2_with (first | (go_at_call 89; refine (spec_l2Swaps hys hm).mono ?_; rintro e w2 ⟨A2, c2, rfl, ho2, hb2⟩))
        go_roundw
        case rel => exact ⟨k + 1, by omega, by go_num, by rw [E.out], below_go hb hb2⟩
        case measure => simp [intOf]; omega
      · have E := Lib.hid (odds_odd (m := m) hy hev)
        rw [hev] at hpar
        clear hy
        go_wp2_with (first | (go_at_call 89; refine (spec_l2Swaps hys hm).mono ?_; rintro e w2 ⟨A2, c2, rfl, ho2, hb2⟩))
        go_roundw
        case rel => exact ⟨k + 1, by omega, by go_num, by rw [E.out]; go_num, below_go hb hb2⟩
        case measure => simp [intOf]; omega
    · obtain rfl : k = l.length := by omega
      go_wp2
      go_ret2
      exact ⟨by rw [e0.out]; rfl, hb⟩
end Go.Proofs.Ytaednmpkedkmgaa
/- The walk through the search for an extent, the reference's side. -/
namespace Go.Proofs.Ytaednmpkedkmgaa
set_option linter.unusedVariables false
set_option linter.unusedSimpArgs false
open Go.ChangeShapes Go.WideShapes Go.ChangeAt Go.RowKit Go.Deep
theorem MarkR.del {n : Nat} {V : List ByteArray} {m : List Bool} {x : ByteArray} (h : MarkR n (V ++ [x]) m) (hx : RowN n x) (hn : inL V x = false) : MarkR n V (m.set (place x) false) := by
  refine ⟨by rw [List.length_set]; exact h.1, fun s hs => ?_⟩
  rw [List.getElem?_set]
  by_cases e : place x = place s
  · rw [if_pos e, if_pos (by rw [h.1]; exact rowN_place hx), ← rowN_inj hx hs e, hn]
  · rw [if_neg e, h.2 s hs]
    have hne : ¬ x = s := fun q => e (by rw [q])
    congr 1
    rw [inL, inL, List.any_append]
    simp [hne]
theorem Owned.pop {α : Type} {e : α → List Value} {s : Nat} {E : TypeId} {w : World} {base : Nat} {A : Option Addr} {n c : Nat} {l : List α} {x : α} (h : Owned e s E w base A (n + 1) c (l ++ [x])) : Owned e s E w base A n c l := by
  obtain ⟨he, hl, hz, hv⟩ := h
  have hln : l.length = n := by simpa using hl
  refine ⟨he, hln, by rw [flatMap_len he, hln], ?_⟩
  rcases hv with ⟨h0, h1⟩ | ⟨g, cap, cur, hv, hb, hh, h1, h2, h3, h4⟩
  · cases h0
  · injection hv with e1 e2 e3
    subst e1 e3
    refine .inr ⟨g, c, cur, rfl, hb, hh, by omega, h2, h3, ?_⟩
    rw [List.flatMap_append] at h4
    have h5 := congrArg (List.take (n * s)) h4
    rw [List.take_take, Nat.min_eq_left (Nat.mul_le_mul (Nat.le_succ n) (Nat.le_refl s)), List.take_left' (by rw [flatMap_len he, hln])] at h5
    exact h5
def spC (n N : Nat) (A : Option Addr) (c gs F : Nat) (AP : Option Addr) (k cP : Nat) (left many : Int) : List Value :=
  [.int .i64 n, .slice A N c, .slice (some ⟨gs, 0, none⟩) F F, .slice AP k cP, .int .i64 left, .int .i64 F, .int .i64 many]
/-- The state of a search, as it lies. -/
structure SpS (w : World) (b p n N : Nat) (A : Option Addr) (c gs : Nat) (V P : List ByteArray) (left many : Int) (m : List Bool) (AP : Option Addr) (cP : Nat) : Prop where
  blk : Blk w p 69 (spC n N A c gs (fact n) AP P.length cP left many)
  marks : Owned boolE 1 4 w b (some ⟨gs, 0, none⟩) (fact n) (fact n) m
  mark : MarkR n V m
  path : Owned strE 1 9 w b AP P.length cP P
  lo : b ≤ p
section
variable {w w' : World} {b p n N : Nat} {A : Option Addr} {c gs : Nat} {V P : List ByteArray} {left many : Int} {m : List Bool} {AP : Option Addr} {cP : Nat}
theorem SpS.up (h : SpS w b p n N A c gs V P left many m AP cP) (hb : Below w.heap.size w w') : SpS w' b p n N A c gs V P left many m AP cP :=
  ⟨h.blk.up hb, h.marks.up hb, h.mark, h.path.up hb, h.lo⟩
theorem SpS.drewN (h : SpS w b p n N A c gs V P left many m AP cP) (k : Nat) : SpS (w.drewN k) b p n N A c gs V P left many m AP cP := h.up (below_drewN (Below.refl _ _) k)
theorem SpS.ne (h : SpS w b p n N A c gs V P left many m AP cP) : p ≠ gs := fun e => h.marks.ne_blk h.blk (by decide) gs rfl e.symm
theorem SpS.nep (h : SpS w b p n N A c gs V P left many m AP cP) : ∀ k, (Value.slice AP P.length cP).ownBlock = some k → k ≠ p := h.path.ne_blk h.blk (by decide)
theorem SpS.neg (h : SpS w b p n N A c gs V P left many m AP cP) : ∀ k, (Value.slice AP P.length cP).ownBlock = some k → k ≠ gs := fun k hk e => h.path.ne h.marks (by decide) k hk (by rw [e]; rfl)
theorem SpS.only (h : SpS w b p n N A c gs V P left many m AP cP) (i : Nat) (u : Value) : Owned boolE 1 4 (w.setCell ⟨p, i, none⟩ u) b (some ⟨gs, 0, none⟩) (fact n) (fact n) m ∧ Owned strE 1 9 (w.setCell ⟨p, i, none⟩ u) b AP P.length cP P :=
  ⟨h.marks.kept (only_set w (p := ⟨p, i, none⟩) u) (fun k hk e => by injection hk with hk; injection e with e; exact h.ne (e.trans hk.symm)),
   h.path.kept (only_set w (p := ⟨p, i, none⟩) u) (fun k hk e => by injection e with e; exact h.nep k hk e.symm)⟩
theorem SpS.setLeft (h : SpS w b p n N A c gs V P left many m AP cP) (x : Int) : SpS (w.setCell ⟨p, 4, none⟩ (.int .i64 x)) b p n N A c gs V P x many m AP cP :=
  ⟨h.blk.set_ 4 _, (h.only 4 _).1, h.mark, (h.only 4 _).2, h.lo⟩
theorem SpS.setMany (h : SpS w b p n N A c gs V P left many m AP cP) (x : Int) : SpS (w.setCell ⟨p, 6, none⟩ (.int .i64 x)) b p n N A c gs V P left x m AP cP :=
  ⟨h.blk.set_ 6 _, (h.only 6 _).1, h.mark, (h.only 6 _).2, h.lo⟩
theorem SpS.push {A' : Option Addr} {c' : Nat} {x : ByteArray} (h : SpS w b p n N A c gs V P left many m AP cP) (hg : w.grownBy w' (Value.slice AP P.length cP).ownBlock) (ho : Owned strE 1 9 w' b A' (P.length + 1) c' (P ++ [x])) :
    SpS (w'.setCell ⟨p, 3, none⟩ (.slice A' (P.length + 1) c')) b p n N A c gs V (P ++ [x]) left many m A' c' := by
  have hk := h.blk.grown hg (fun e => h.nep p e.symm rfl)
  have hm := h.marks.kept hg (fun k hk e => by injection hk with hk; exact h.neg gs (by rw [e]; exact congrArg some hk.symm) rfl)
  have hl : (P ++ [x]).length = P.length + 1 := by simp
  have hne : p ≠ gs := h.ne
  refine ⟨by rw [hl]; exact hk.set_ 3 _, hm.kept (only_set w' (p := ⟨p, 3, none⟩) _) (fun k hk e => by injection hk with hk; injection e with e; exact hne (e.trans hk.symm)), h.mark, ?_, h.lo⟩
  rw [hl]
  exact ho.kept (only_set w' (p := ⟨p, 3, none⟩) _) (fun k hk' e => by injection e with e; exact ho.ne_blk hk (by decide) k hk' e.symm)
theorem SpS.pop {x : ByteArray} (h : SpS w b p n N A c gs V (P ++ [x]) left many m AP cP) : SpS (w.setCell ⟨p, 3, none⟩ (.slice AP P.length cP)) b p n N A c gs V P left many m AP cP := by
  have hl : (P ++ [x]).length = P.length + 1 := by simp
  have hp := h.path
  rw [hl] at hp
  have ho := (h.only 3 (.slice AP P.length cP)).2
  rw [hl] at ho
  exact ⟨h.blk.set_ 3 _, (h.only 3 _).1, h.mark, ho.pop, h.lo⟩
theorem SpS.marked {x : ByteArray} {v : Bool} {V' : List ByteArray} (h : SpS w b p n N A c gs V P left many m AP cP) (hx : RowN n x) (hm : MarkR n V' (m.set (place x) v)) : SpS (w.setCell ⟨gs, place x, none⟩ (.bool v)) b p n N A c gs V' P left many (m.set (place x) v) AP cP := by
  have hold := h.mark.2 x hx
  obtain ⟨h1, hg⟩ := h.marks.put (k := place x) (j := 0) (x := v) (u := .bool v) hold (by decide) rfl
  simp only [Nat.mul_one, Nat.add_zero] at h1 hg
  exact ⟨h.blk.grown hg (fun e => by injection e with e; exact h.ne e), h1, hm, h.path.kept hg (fun k hk e => by injection e with e; exact h.neg k hk e.symm), h.lo⟩
end
/-- What a search leaves. -/
def EndS (o : Fate) (V P V' P' : List ByteArray) (left' many' : Int) : Prop := (∀ l, o = .inr l → V' = V ∧ P' = P ∧ left' = (l : Int) ∧ many' = 0) ∧ (∀ q, o = .inl (some q) → P' = q ∧ many' = 1) ∧ (o = .inl none → many' = 0)
theorem EndS.go (V P : List ByteArray) (l : Nat) : EndS (.inr l) V P V P l 0 := ⟨fun l' e => by injection e with e; subst e; exact ⟨rfl, rfl, rfl, rfl⟩, (fun q e => by cases e), (fun e => by cases e)⟩
theorem EndS.hit (V P V' P' : List ByteArray) (left' : Int) : EndS (.inl (some P')) V P V' P' left' 1 := ⟨(fun l' e => by cases e), fun q e => by injection e with e; injection e with e; exact ⟨e, rfl⟩, (fun e => by injection e with e; cases e)⟩
theorem EndS.over (V P V' P' : List ByteArray) (left' : Int) : EndS (.inl none) V P V' P' left' 0 := ⟨(fun l' e => by cases e), (fun q e => by injection e with e; cases e), fun _ => rfl⟩
theorem EndS.of_end {o : Fate} {V P V2 P2 V' P' : List ByteArray} {left' many' : Int} (h : EndS o V2 P2 V' P' left' many') (ho : o.isLeft = true) : EndS o V P V' P' left' many' := by
  refine ⟨fun l e => ?_, h.2⟩
  subst e; cases ho
def recOf (n : Nat) (W : List ByteArray) (d : Nat) : ByteArray → List ByteArray → List ByteArray → Nat → Fate := match d with | 0 => fun _ _ _ l => .inr l | d + 1 => srch n W d
theorem srch_recOf (n : Nat) (W : List ByteArray) (d : Nat) (r : ByteArray) (V P : List ByteArray) (left : Nat) : srch n W d r V P left = srchL (recOf n W d) n (decide (d = 0)) r V P W left := by
  cases d <;> rfl
set_option maxHeartbeats 2000000 in
set_option maxRecDepth 100000 in
theorem spec_search {N n : Nat} {A : Option Addr} {c : Nat} {W : List ByteArray} {w0 : World} (hN : W.length = N) (h : Strs w0 A W) (hz : N ≤ 1000) (h3 : 3 ≤ n) (h8 : n ≤ 8) (hW : ∀ s ∈ W, s.size ≤ 16777216) :
    ∀ (d : Nat) {r : ByteArray} {V P : List ByteArray} {left : Nat} {m : List Bool} {AP : Option Addr} {cP p gs : Nat} {w : World}, RowN n r → ClOk n V → V.length + d = fact n → P.length + 1 = V.length → left ≤ 1000000 →
      SpS w w0.heap.size p n N A c gs V P left 0 m AP cP → Below w0.heap.size w0 w →
      Calls Try.prog 60 #[.pointer (some ⟨p, 0, none⟩), .string r] w fun e w' => e = .returned (.bool (srch n W d r V P left).isLeft) ∧ (∃ V' P' left' many' m' AP' cP', SpS w' w0.heap.size p n N A c gs V' P' left' many' m' AP' cP' ∧ EndS (srch n W d r V P left) V P V' P' left' many') ∧ Below w0.heap.size w0 w' := by
  have h40 : fact n ≤ 40320 := fact_le8 h8
  have HW := Lib.hid hW
  subst hN
  clear hW
  intro d
  induction d using Nat.strongRecOn with
  | ind d ih =>
  intro r V P left m AP cP p gs w hr hV hVd hPV hl hS hB
  have IH := Lib.hid (fun d' (e : d = d' + 1) => @ih d' (by omega))
  have HE := Lib.hid (srch_recOf n W d r V P left)
  have HV := Lib.hid hV
  have HPV := Lib.hid hPV
  have HF1 : IntKind.i64.wrap ((fact n : Int) - 1) = (fact n : Int) - 1 := wrap_id (by omega)
  have hP40 : P.length ≤ 40320 := by have := HPV.out; omega
  have hrz : r.size ≤ 8 := by rw [hr.2]; exact h8
  have k1 := hS.blk.cell 1
  simp only [spC, List.getElem?_cons_zero, List.getElem?_cons_succ] at k1
  have HS0 := Lib.hid hS
  clear ih hV hS hPV
  go_in
  go_wp2
  clear k1
  go_loopw [15] (fun i wr => ∃ (j q : Nat) (m : List Bool) (AP : Option Addr) (cP : Nat), j ≤ W.length ∧ i = .int .i64 j ∧ q ≤ 1000000 ∧ Hid (SpS wr w0.heap.size p n W.length A c gs V P q 0 m AP cP) ∧ Hid (srch n W d r V P left = srchL (recOf n W d) n (decide (d = 0)) r V P (W.drop j) q) ∧ Below w0.heap.size w0 wr) (fun i _ => W.length - (intOf i).toNat)
  case atStart => exact ⟨0, left, m, AP, cP, Nat.zero_le _, rfl, hl, HS0, Lib.hid (by rw [List.drop_zero]; exact HE.out), hB⟩
  case round =>
    clear HS0 HE hB
    obtain ⟨j, q, m, AP, cP, hj, rfl, hq, HS, HE, hB⟩ := hrel
    rename World => w1
    by_cases hlt : j < W.length
    · obtain ⟨b1, o1, y, rfl, hbb, hy, hcy0⟩ := h.at_str hlt
      have hcy := (hB.cell (p := ⟨b1, o1 + j, none⟩) hbb).trans hcy0
      have hys := HW.out y (List.mem_of_getElem? hy)
      have HD := Lib.hid (drop_at hy)
      have k4 := HS.out.blk.cell 4; have f4 := HS.out.blk.frozen 4
      simp only [spC, List.getElem?_cons_zero, List.getElem?_cons_succ] at k4
      clear hy hcy0
      by_cases hq0 : q = 0
      · subst hq0
        have e1 := Lib.hid (show srch n W d r V P left = .inl none by rw [HE.out, HD.out, srchL_over])
        go_wp2
        go_ret
        rw [e1.out]
        exact ⟨rfl, ⟨V, P, _, _, m, AP, cP, HS.out, EndS.over V P V P _⟩, hB⟩
      · obtain ⟨q', hq'⟩ : ∃ q', q = q' + 1 := ⟨q - 1, by omega⟩
        have HQ := Lib.hid hq'
        have hqI : ¬ (q : Int) = 0 := by omega
        have hqc : (q : Int) - 1 = (q' : Int) := by omega
        have HQC := Lib.hid hqc
        have hqw : IntKind.i64.wrap ((q : Int) - 1) = (q : Int) - 1 := wrap_id (by omega)
        have HS1 := Lib.hid (HS.out.setLeft ((q : Int) - 1))
        have hB1 : Below w0.heap.size w0 (w1.setCell ⟨p, 4, none⟩ (.int .i64 ((q : Int) - 1))) := hB.setCell (p := ⟨p, 4, none⟩) HS.out.lo _
        obtain ⟨x, hx⟩ : ∃ x, x = applyR r y := ⟨_, rfl⟩
        have HX := Lib.hid hx
        have hxN : RowN n x := by rw [hx]; exact hr.apply y
        have hxz : x.size ≤ 8 := by rw [hxN.2]; exact h8
        have HXN := Lib.hid hxN
        obtain ⟨kx, hkx⟩ : ∃ k, k = place x := ⟨_, rfl⟩
        have HKX := Lib.hid hkx
        have hkF : kx < fact n := by rw [hkx]; exact rowN_place hxN
        have HZ := Lib.hid (place_zero h3 h8 hxN)
        have HB1 := Lib.hid hB1
        clear hq' hq0 hqc hx hxN hkx hB1
        go_wp2_with fail
        refine (spec_l2Apply hrz hys).mono ?_; rw [← HX.out]; rintro e w2 ⟨rfl, hb2⟩
        clear k4 f4 hcy
        have HS2 := Lib.hid (HS1.out.up hb2)
        have hB2 := below_then hb2 HB1.out HB1.out.size
        clear HS1 HB1
        go_wp2_with fail
        refine (spec_l1Place hxz).mono ?_; rw [← HKX.out]; rintro e w3 ⟨rfl, hb3⟩
        have HS3 := Lib.hid (HS2.out.up hb3)
        have hB3 := below_then hb3 hB2 hB2.size
        have k3 := HS3.out.blk.cell 3; have k5 := HS3.out.blk.cell 5
        simp only [spC, List.getElem?_cons_zero, List.getElem?_cons_succ] at k3 k5
        by_cases hd : d = 0
        · have hfull : ((P.length : Int) == (fact n : Int) - 1) = true := beq_iff_eq.2 (by have := HPV.out; omega)
          have HFU := Lib.hid (show decide (d = 0) = true from decide_eq_true hd)
          go_wp2
          go_quiet (fail)
          have HS4 := Lib.hid (HS3.out.drewN nq)
          have hB4 := below_drewN hB3 nq
          obtain ⟨w4, hw4⟩ : ∃ u, u = w3.drewN nq := ⟨_, rfl⟩
          rw [← hw4] at HS4 hB4 ⊢
          clear hw4 k3 k5 HS3 hB3 HS2 hB2 hb3 hb2
          by_cases hx0 : x = roundsS n
          · have hkI : kx = 0 := by rw [HKX.out]; exact HZ.out.2 hx0
            have e1 := Lib.hid (show srch n W d r V P left = .inl (some (P ++ [y])) by rw [HE.out, HD.out, HQ.out, srchL_hit HFU.out (by rw [← HX.out]; exact hx0)])
            have k3 := HS4.out.blk.cell 3
            simp only [spC, List.getElem?_cons_zero, List.getElem?_cons_succ] at k3
            have hs4 := hB4.size
            have HLO := Lib.hid HS4.out.lo
            have hPl : (P ++ [y]).length = P.length + 1 := by simp
            have HPL := Lib.hid hPl
            clear hx0 hPl
            go_wp2_with (first | (at_builtin; go_must ((refine wpList_append_recs Try.elStr strE_one rfl (.tmp 56) (.tmp 58) rfl rfl (HS4.out.path.alloc _) rfl (own_lit1_at' strE_len w4 9 y rfl (Nat.le_refl _)).recs rfl ?_ (by decide) ?_ ?_; (focus (first | omega | (simp only [World.size_alloc]; done) | (simp only [World.size_alloc]; omega) | (simp; done) | (simp; omega))); (focus (first | omega | (simp only [World.size_alloc]; done) | (simp only [World.size_alloc]; omega) | (simp; done) | (simp; omega))); intro A5 c5 w5 ho5 hg5 hl5; have KB5 := (HS4.out.blk.alloc (.cells #[.string y] 9)).grown hg5 (fun e => HS4.out.nep p e.symm rfl); have q3 := KB5.cell 3; have q6 := KB5.cell 6; have g3 := KB5.frozen 3; have g6 := KB5.frozen 6; simp only [spC, List.getElem?_cons_zero, List.getElem?_cons_succ] at q3 q6))))
            go_ret
            have HSX := ((HS4.out.up ((Below.refl _ _).alloc (Nat.le_refl _) (.cells #[.string y] 9))).push hg5 ho5).setMany 1
            have hb5 : Below w0.heap.size w0 w5 := (hB4.alloc (by omega) _).trans (grown_base hg5 (by simp; omega) (fun k hk => (HS4.out.path.blk hk).1))
            rw [e1.out]
            exact ⟨rfl, ⟨V, P ++ [y], _, _, m, A5, c5, HSX, EndS.hit V P V _ _⟩, (hb5.setCell (p := ⟨p, 3, none⟩) HLO.out _).setCell (p := ⟨p, 6, none⟩) HLO.out _⟩
          · have hkI : ¬ kx = 0 := by rw [HKX.out]; exact fun q => hx0 (HZ.out.1 q)
            have hkI2 : ¬ (kx : Int) = 0 := by omega
            have e1 := Lib.hid (show srchL (recOf n W d) n (decide (d = 0)) r V P (W.drop j) q = srchL (recOf n W d) n (decide (d = 0)) r V P (W.drop (j + 1)) q' by
              rw [HD.out, HQ.out, srchL_skip (fun q => hx0 (by rw [HX.out]; exact q.2)) (.inl HFU.out)])
            clear hx0
            go_wp2
            go_roundw
            case rel => exact ⟨j + 1, q', m, AP, cP, by omega, by go_num, by have := HQ.out; omega, Lib.hid (by rw [← HQC.out]; exact HS4.out), Lib.hid (by rw [← e1.out]; exact HE.out), hB4⟩
            case measure => simp [intOf]; omega
        · have hfull : ((P.length : Int) == (fact n : Int) - 1) = false := beq_eq_false_iff_ne.2 (by have := HPV.out; omega)
          go_wp2
          go_quiet (fail)
          have HS4 := Lib.hid (HS3.out.drewN nq)
          have hB4 := below_drewN hB3 nq
          obtain ⟨w4, hw4⟩ : ∃ u, u = w3.drewN nq := ⟨_, rfl⟩
          rw [← hw4] at HS4 hB4 ⊢
          clear hw4 k3 k5 HS3 hB3 HS2 hB2 hb3 hb2
          have k2 := HS4.out.blk.cell 2
          simp only [spC, List.getElem?_cons_zero, List.getElem?_cons_succ] at k2
          have hcm := HS4.out.mark.at_ HXN.out
          rw [← HKX.out] at hcm
          obtain ⟨g', e, _, _, gc, gf⟩ := HS4.out.marks.at_ (fact_pos n)
          injection e with e
          injection e with e
          subst e
          have cm := gc kx _ 0 _ hcm rfl
          have fm := gf kx
          simp only [Nat.mul_one, Nat.add_zero] at cm
          clear gc gf hcm
          rcases hin : inL V x
          · rw [hin] at cm
            obtain ⟨d', hd'⟩ : ∃ d', d = d' + 1 := ⟨d - 1, by omega⟩
            have HIN := Lib.hid hin
            have HDF := Lib.hid (decide_eq_false hd)
            have hm4 := HS4.out.marked (v := true) HXN.out (HS4.out.mark.add HXN.out)
            rw [← HKX.out] at hm4
            have HM4 := Lib.hid hm4
            have hpg : ¬ p = gs := HS4.out.ne
            have hgp : ¬ gs = p := fun e => hpg e.symm
            have k3 := HS4.out.blk.cell 3
            simp only [spC, List.getElem?_cons_zero, List.getElem?_cons_succ] at k3
            have hgl := HS4.out.marks.at_own.1
            have HGL := Lib.hid hgl
            have HLO := Lib.hid HS4.out.lo
            have hB5 : Below w0.heap.size w0 (w4.setCell ⟨gs, kx, none⟩ (.bool true)) := hB4.setCell (p := ⟨gs, kx, none⟩) hgl _
            have HB5 := Lib.hid hB5
            have hs5 := hB5.size
            have hRD : recOf n W d = srch n W d' := by subst hd'; rfl
            have HRD := Lib.hid hRD
            have hVN := HV.out.snoc HXN.out hin
            have HVN := Lib.hid hVN
            have hPl : (P ++ [y]).length = P.length + 1 := by simp
            have hVl : (V ++ [x]).length = V.length + 1 := by simp
            have HPL := Lib.hid hPl
            have HVL := Lib.hid hVl
            have HQQ := Lib.hid (show q' ≤ 1000000 by have := HQ.out; omega)
            have HDD := Lib.hid hd'
            clear hin hd hd' hm4 hgl hB5 hRD hVN hPl hVl
            go_wp2_with (first | (at_builtin; go_must ((refine wpList_append_recs Try.elStr strE_one rfl (.tmp 89) (.tmp 91) rfl rfl (HM4.out.path.alloc _) rfl (own_lit1_at' strE_len (w4.setCell ⟨gs, kx, none⟩ (.bool true)) 9 y (b := w4.heap.size) (by simp) (Nat.le_refl _)).recs rfl ?_ (by decide) ?_ ?_; (focus (first | omega | (simp only [World.size_alloc]; done) | (simp only [World.size_alloc]; omega) | (simp; done) | (simp; omega))); (focus (first | omega | (simp only [World.size_alloc]; done) | (simp only [World.size_alloc]; omega) | (simp; done) | (simp; omega))); intro A6 c6 w6 ho6 hg6 hl6; have KB6 := (HM4.out.blk.alloc (.cells #[.string y] 9)).grown hg6 (fun e => HM4.out.nep p e.symm rfl); have q3 := KB6.cell 3; have g3 := KB6.frozen 3; simp only [spC, List.getElem?_cons_zero, List.getElem?_cons_succ] at q3))))
            have hs6 := (HM4.out.up ((Below.refl _ _).alloc (Nat.le_refl _) (.cells #[.string y] 9))).push hg6 ho6
            rw [HQC.out] at hs6
            have hb6 : Below w0.heap.size w0 w6 := (HB5.out.alloc (by have := HB5.out.size; exact this) _).trans (grown_base hg6 (by simp; have := HB5.out.size; simp at this; omega) (fun k hk => (HM4.out.path.blk hk).1))
            have hb6' := hb6.setCell (p := ⟨p, 3, none⟩) HLO.out (.slice A6 (P.length + 1) c6)
            refine (IH.out d' HDD.out (r := x) (V := V ++ [x]) (P := P ++ [y]) (left := q') HXN.out HVN.out (by rw [HVL.out]; have := HDD.out; omega) (by rw [HPL.out, HVL.out]; have := HPV.out; omega) HQQ.out hs6 hb6').mono ?_
            rintro e w7 ⟨rfl, ⟨V', P', l', mn', m', AP', cP', HS7, HE7⟩, hB7⟩
            clear q3 g3 hs6 hb6 hb6' KB6 ho6 hg6 hl6 k3 k2 cm fm hs5
            rcases hf : srch n W d' x (V ++ [x]) (P ++ [y]) q' with o | l
            · have e1 := Lib.hid (show srch n W d r V P left = .inl o by
                rw [HE.out, HD.out, HQ.out, srchL_in_end HDF.out (by rw [← HX.out]; exact HIN.out) (by rw [HRD.out, ← HX.out]; exact hf)])
              rw [hf] at HE7
              have hl : Sum.isLeft (Sum.inl o : Fate) = true := rfl
              rw [hl]
              go_wp2
              go_ret
              rw [e1.out]
              exact ⟨rfl, ⟨V', P', l', mn', m', AP', cP', HS7, HE7.of_end rfl⟩, hB7⟩
            · rw [hf] at HE7
              obtain ⟨rfl, rfl, rfl, rfl⟩ := HE7.1 l rfl
              have hle := srch_le n W d' x (V ++ [x]) (P ++ [y]) q' l hf
              have e1 := Lib.hid (show srch n W d r V P left = srchL (recOf n W d) n (decide (d = 0)) r V P (W.drop (j + 1)) l by
                rw [HE.out, HD.out, HQ.out, srchL_in_go HDF.out (by rw [← HX.out]; exact HIN.out) (by rw [HRD.out, ← HX.out]; exact hf)])
              have hl : Sum.isLeft (Sum.inr l : Fate) = false := rfl
              rw [hl]
              have HS8 := Lib.hid HS7.pop
              have HB8 := Lib.hid (hB7.setCell (p := ⟨p, 3, none⟩) HLO.out (.slice AP' P.length cP'))
              have k3 := HS7.blk.cell 3; have f3 := HS7.blk.frozen 3; have k2 := HS7.blk.cell 2
              simp only [spC, List.getElem?_cons_zero, List.getElem?_cons_succ] at k3 k2
              obtain ⟨g7, rfl, _, _, _, _⟩ := HS7.path.at_ (by rw [HPL.out]; omega)
              have hcap := HS7.path.cap
              rw [HPL.out] at k3 hcap
              have hq2 := HQQ.out
              clear HS7 HE7 hf hl
              obtain ⟨M, hM⟩ : ∃ M, M = P.length + 1 := ⟨_, rfl⟩
              rw [← hM] at k3 hcap
              have hw : IntKind.i64.wrap ((M : Int) - 1) = (P.length : Int) := by rw [wrap_id (by omega)]; omega
              have hPc : P.length ≤ cP' := by omega
              have hPcI : (P.length : Int) ≤ (cP' : Int) := by omega
              clear hM
              go_wp2
              go_region
              have HS9 := Lib.hid (HS8.out.up (Below.drew (Below.refl _ _)))
              have HB9 := Lib.hid (Below.drew HB8.out)
              clear k3 f3 k2 hw
              obtain ⟨w9, hw9⟩ : ∃ u, u = (w7.setCell ⟨p, 3, none⟩ (.slice (some ⟨g7, 0, none⟩) P.length cP')).drew := ⟨_, rfl⟩
              rw [← hw9] at HS9 HB9 ⊢
              clear hw9 HS8 HB8
              have k2 := HS9.out.blk.cell 2
              simp only [spC, List.getElem?_cons_zero, List.getElem?_cons_succ] at k2
              have hold := HS9.out.mark.2 x HXN.out
              rw [← HKX.out] at hold
              obtain ⟨g', e, _, _, gc, gf⟩ := HS9.out.marks.at_ (fact_pos n)
              injection e with e
              injection e with e
              subst e
              have cm := gc kx _ 0 _ hold rfl
              have fm := gf kx
              simp only [Nat.mul_one, Nat.add_zero] at cm
              have hm9 := HS9.out.marked (v := false) HXN.out (HS9.out.mark.del HXN.out HIN.out)
              rw [← HKX.out] at hm9
              have HM9 := Lib.hid hm9
              have HB10 := Lib.hid (HB9.out.setCell (p := ⟨gs, kx, none⟩) HGL.out (.bool false))
              clear gc gf hold hm9
              go_wp2
              go_roundw
              case rel => exact ⟨j + 1, l, _, _, _, by omega, by go_num, by omega, HM9, Lib.hid (by rw [e1.out]), HB10.out⟩
              case measure => simp [intOf]; omega
          · rw [hin] at cm
            have e1 := Lib.hid (show srchL (recOf n W d) n (decide (d = 0)) r V P (W.drop j) q = srchL (recOf n W d) n (decide (d = 0)) r V P (W.drop (j + 1)) q' by
              rw [HD.out, HQ.out, srchL_skip (by rw [decide_eq_false hd]; simp) (.inr (by rw [← HX.out]; exact hin))])
            clear hin
            go_wp2
            go_roundw
            case rel => exact ⟨j + 1, q', m, AP, cP, by omega, by go_num, by have := HQ.out; omega, Lib.hid (by rw [← HQC.out]; exact HS4.out), Lib.hid (by rw [← e1.out]; exact HE.out), hB4⟩
            case measure => simp [intOf]; omega
    · obtain rfl : j = W.length := by omega
      have e1 := Lib.hid (show srch n W d r V P left = .inr q by rw [HE.out, List.drop_eq_nil_of_le (Nat.le_refl _), srchL])
      go_wp2
      go_ret
      rw [e1.out]
      exact ⟨rfl, ⟨V, P, _, _, m, AP, cP, HS.out, EndS.go V P q⟩, hB⟩
end Go.Proofs.Ytaednmpkedkmgaa
/- The walk through the count of extents, the reference's side. -/
namespace Go.Proofs.Ytaednmpkedkmgaa
set_option linter.unusedVariables false
set_option linter.unusedSimpArgs false
open Go.ChangeShapes Go.WideShapes Go.ChangeAt Go.RowKit Go.Deep
def recCt (n : Nat) (W : List ByteArray) (d : Nat) : ByteArray → List ByteArray → Nat := match d with | 0 => fun _ _ => 0 | d + 1 => cntX n W d
theorem cntX_recCt (n : Nat) (W : List ByteArray) (d : Nat) (r : ByteArray) (V : List ByteArray) : cntX n W d r V = cntL (recCt n W d) n (decide (d = 0)) r V W := by
  cases d <;> rfl
section
variable {rec : ByteArray → List ByteArray → Nat} {n : Nat} {full : Bool} {r c : ByteArray} {V cs : List ByteArray}
theorem cntL_hit (h : full = true) (h2 : applyR r c = roundsS n) : cntL rec n full r V (c :: cs) = 1 + cntL rec n full r V cs := by rw [cntL, if_pos h, if_pos (decide_eq_true h2)]
theorem cntL_full (h : full = true) (h2 : ¬ applyR r c = roundsS n) : cntL rec n full r V (c :: cs) = cntL rec n full r V cs := by rw [cntL, if_pos h, if_neg (by rw [decide_eq_false h2]; simp), Nat.zero_add]
theorem cntL_seen (h : full = false) (h2 : inL V (applyR r c) = true) : cntL rec n full r V (c :: cs) = cntL rec n full r V cs := by rw [cntL, if_neg (by rw [h]; simp), if_pos h2]
theorem cntL_in (h : full = false) (h2 : inL V (applyR r c) = false) : cntL rec n full r V (c :: cs) = rec (applyR r c) (V ++ [applyR r c]) + cntL rec n full r V cs := by rw [cntL, if_neg (by rw [h]; simp), if_neg (by rw [h2]; simp)]
end
set_option maxHeartbeats 2000000 in
set_option maxRecDepth 100000 in
theorem spec_l19Count {N n : Nat} {A : Option Addr} {c : Nat} {W : List ByteArray} {w0 : World} (hN : W.length = N) (h : Strs w0 A W) (hz : N ≤ 1000) (h3 : 3 ≤ n) (h8 : n ≤ 8) (hW : ∀ s ∈ W, s.size ≤ 16777216) :
    ∀ (d : Nat) {r : ByteArray} {V P : List ByteArray} {left many : Int} {m : List Bool} {AP : Option Addr} {cP p gs : Nat} {w : World}, RowN n r → ClOk n V → V.length + d = fact n → P.length + 1 = V.length → cntX n W d r V ≤ 1000000 →
      SpS w w0.heap.size p n N A c gs V P left many m AP cP → Below w0.heap.size w0 w →
      Calls Try.prog 85 #[.pointer (some ⟨p, 0, none⟩), .string r] w fun e w' => e = .returned (.int .i64 (cntX n W d r V)) ∧ (∃ m' AP' cP', SpS w' w0.heap.size p n N A c gs V P left many m' AP' cP') ∧ Below w0.heap.size w0 w' := by
  have h40 : fact n ≤ 40320 := fact_le8 h8
  have HW := Lib.hid hW
  subst hN
  clear hW
  intro d
  induction d using Nat.strongRecOn with
  | ind d ih =>
  intro r V P left many m AP cP p gs w hr hV hVd hPV hl hS hB
  have IH := Lib.hid (fun d' (e : d = d' + 1) => @ih d' (by omega))
  have HE := Lib.hid (cntX_recCt n W d r V)
  have HV := Lib.hid hV
  have HPV := Lib.hid hPV
  have HF1 : IntKind.i64.wrap ((fact n : Int) - 1) = (fact n : Int) - 1 := wrap_id (by omega)
  have hP40 : P.length ≤ 40320 := by have := HPV.out; omega
  have hrz : r.size ≤ 8 := by rw [hr.2]; exact h8
  have k1 := hS.blk.cell 1
  simp only [spC, List.getElem?_cons_zero, List.getElem?_cons_succ] at k1
  have HS0 := Lib.hid hS
  clear ih hV hS hPV
  go_in
  go_wp2
  clear k1
  go_loopw [5, 16] (fun v i wr => ∃ (j q : Nat) (m : List Bool) (AP : Option Addr) (cP : Nat), j ≤ W.length ∧ i = .int .i64 j ∧ v = .int .i64 q ∧ Hid (SpS wr w0.heap.size p n W.length A c gs V P left many m AP cP) ∧ Hid (q + cntL (recCt n W d) n (decide (d = 0)) r V (W.drop j) = cntX n W d r V) ∧ Below w0.heap.size w0 wr) (fun _ i _ => W.length - (intOf i).toNat)
  case atStart => exact ⟨0, 0, m, AP, cP, Nat.zero_le _, rfl, rfl, HS0, Lib.hid (by rw [List.drop_zero, Nat.zero_add]; exact HE.out.symm), hB⟩
  case round =>
    clear HS0 HE hB
    obtain ⟨j, q, m, AP, cP, hj, rfl, rfl, HS, HE, hB⟩ := hrel
    rename World => w1
    have hq : q ≤ 1000000 := by have := HE.out; omega
    by_cases hlt : j < W.length
    · obtain ⟨b1, o1, y, rfl, hbb, hy, hcy0⟩ := h.at_str hlt
      have hcy := (hB.cell (p := ⟨b1, o1 + j, none⟩) hbb).trans hcy0
      have hys := HW.out y (List.mem_of_getElem? hy)
      have HD := Lib.hid (drop_at hy)
      clear hy hcy0
      obtain ⟨x, hx⟩ : ∃ x, x = applyR r y := ⟨_, rfl⟩
      have HX := Lib.hid hx
      have hxN : RowN n x := by rw [hx]; exact hr.apply y
      have hxz : x.size ≤ 8 := by rw [hxN.2]; exact h8
      have HXN := Lib.hid hxN
      obtain ⟨kx, hkx⟩ : ∃ k, k = place x := ⟨_, rfl⟩
      have HKX := Lib.hid hkx
      have hkF : kx < fact n := by rw [hkx]; exact rowN_place hxN
      have HZ := Lib.hid (place_zero h3 h8 hxN)
      clear hx hxN hkx
      go_wp2_with fail
      refine (spec_l2Apply hrz hys).mono ?_; rw [← HX.out]; rintro e w2 ⟨rfl, hb2⟩
      clear hcy
      have HS2 := Lib.hid (HS.out.up hb2)
      have hB2 := below_then hb2 hB hB.size
      go_wp2_with fail
      refine (spec_l1Place hxz).mono ?_; rw [← HKX.out]; rintro e w3 ⟨rfl, hb3⟩
      have HS3 := Lib.hid (HS2.out.up hb3)
      have hB3 := below_then hb3 hB2 hB2.size
      have k3 := HS3.out.blk.cell 3; have k5 := HS3.out.blk.cell 5
      simp only [spC, List.getElem?_cons_zero, List.getElem?_cons_succ] at k3 k5
      by_cases hd : d = 0
      · have hfull : ((P.length : Int) == (fact n : Int) - 1) = true := beq_iff_eq.2 (by have := HPV.out; omega)
        have HFU := Lib.hid (show decide (d = 0) = true from decide_eq_true hd)
        go_wp2
        go_quiet (fail)
        have HS4 := Lib.hid (HS3.out.drewN nq)
        have hB4 := below_drewN hB3 nq
        obtain ⟨w4, hw4⟩ : ∃ u, u = w3.drewN nq := ⟨_, rfl⟩
        rw [← hw4] at HS4 hB4 ⊢
        clear hw4 k3 k5 HS3 hB3 HS2 hB2 hb3 hb2
        by_cases hx0 : x = roundsS n
        · have hkI : kx = 0 := by rw [HKX.out]; exact HZ.out.2 hx0
          have e1 := Lib.hid (show (q + 1) + cntL (recCt n W d) n (decide (d = 0)) r V (W.drop (j + 1)) = cntX n W d r V by
            rw [← HE.out, HD.out, cntL_hit HFU.out (by rw [← HX.out]; exact hx0)]; omega)
          clear hx0
          go_wp2
          go_roundw
          case rel => exact ⟨j + 1, q + 1, m, AP, cP, by omega, by go_num, by go_num, HS4, e1, hB4⟩
          case measure => simp [intOf]; omega
        · have hkI : ¬ kx = 0 := by rw [HKX.out]; exact fun q => hx0 (HZ.out.1 q)
          have hkI2 : ¬ (kx : Int) = 0 := by omega
          have e1 := Lib.hid (show q + cntL (recCt n W d) n (decide (d = 0)) r V (W.drop (j + 1)) = cntX n W d r V by
            rw [← HE.out, HD.out, cntL_full HFU.out (by rw [← HX.out]; exact hx0)])
          clear hx0
          go_wp2
          go_roundw
          case rel => exact ⟨j + 1, q, m, AP, cP, by omega, by go_num, rfl, HS4, e1, hB4⟩
          case measure => simp [intOf]; omega
      · have hfull : ((P.length : Int) == (fact n : Int) - 1) = false := beq_eq_false_iff_ne.2 (by have := HPV.out; omega)
        go_wp2
        go_quiet (fail)
        have HS4 := Lib.hid (HS3.out.drewN nq)
        have hB4 := below_drewN hB3 nq
        obtain ⟨w4, hw4⟩ : ∃ u, u = w3.drewN nq := ⟨_, rfl⟩
        rw [← hw4] at HS4 hB4 ⊢
        clear hw4 k3 k5 HS3 hB3 HS2 hB2 hb3 hb2
        have k2 := HS4.out.blk.cell 2
        simp only [spC, List.getElem?_cons_zero, List.getElem?_cons_succ] at k2
        have hcm := HS4.out.mark.at_ HXN.out
        rw [← HKX.out] at hcm
        obtain ⟨g', e, _, _, gc, gf⟩ := HS4.out.marks.at_ (fact_pos n)
        injection e with e
        injection e with e
        subst e
        have cm := gc kx _ 0 _ hcm rfl
        have fm := gf kx
        simp only [Nat.mul_one, Nat.add_zero] at cm
        clear gc gf hcm
        rcases hin : inL V x
        · rw [hin] at cm
          obtain ⟨d', hd'⟩ : ∃ d', d = d' + 1 := ⟨d - 1, by omega⟩
          have HIN := Lib.hid hin
          have HDF := Lib.hid (decide_eq_false hd)
          have hm4 := HS4.out.marked (v := true) HXN.out (HS4.out.mark.add HXN.out)
          rw [← HKX.out] at hm4
          have HM4 := Lib.hid hm4
          have hpg : ¬ p = gs := HS4.out.ne
          have hgp : ¬ gs = p := fun e => hpg e.symm
          have k3 := HS4.out.blk.cell 3
          simp only [spC, List.getElem?_cons_zero, List.getElem?_cons_succ] at k3
          have hgl := HS4.out.marks.at_own.1
          have HGL := Lib.hid hgl
          have HLO := Lib.hid HS4.out.lo
          have hB5 : Below w0.heap.size w0 (w4.setCell ⟨gs, kx, none⟩ (.bool true)) := hB4.setCell (p := ⟨gs, kx, none⟩) hgl _
          have HB5 := Lib.hid hB5
          have hs5 := hB5.size
          have hRD : recCt n W d = cntX n W d' := by subst hd'; rfl
          have HRD := Lib.hid hRD
          have hVN := HV.out.snoc HXN.out hin
          have HVN := Lib.hid hVN
          have hPl : (P ++ [y]).length = P.length + 1 := by simp
          have hVl : (V ++ [x]).length = V.length + 1 := by simp
          have HPL := Lib.hid hPl
          have HVL := Lib.hid hVl
          have HDD := Lib.hid hd'
          have e1 := Lib.hid (show (q + cntX n W d' x (V ++ [x])) + cntL (recCt n W d) n (decide (d = 0)) r V (W.drop (j + 1)) = cntX n W d r V by
            rw [← HE.out, HD.out, cntL_in HDF.out (by rw [← HX.out]; exact hin), hRD, ← HX.out]; omega)
          clear hin hd hd' hm4 hgl hB5 hRD hVN hPl hVl
          go_wp2_with (first | (at_builtin; go_must ((refine wpList_append_recs Try.elStr strE_one rfl (.tmp 63) (.tmp 65) rfl rfl (HM4.out.path.alloc _) rfl (own_lit1_at' strE_len (w4.setCell ⟨gs, kx, none⟩ (.bool true)) 9 y (b := w4.heap.size) (by simp) (Nat.le_refl _)).recs rfl ?_ (by decide) ?_ ?_; (focus (first | omega | (simp only [World.size_alloc]; done) | (simp only [World.size_alloc]; omega) | (simp; done) | (simp; omega))); (focus (first | omega | (simp only [World.size_alloc]; done) | (simp only [World.size_alloc]; omega) | (simp; done) | (simp; omega))); intro A6 c6 w6 ho6 hg6 hl6; have KB6 := (HM4.out.blk.alloc (.cells #[.string y] 9)).grown hg6 (fun e => HM4.out.nep p e.symm rfl); have q3 := KB6.cell 3; have g3 := KB6.frozen 3; simp only [spC, List.getElem?_cons_zero, List.getElem?_cons_succ] at q3))))
          have hs6 := (HM4.out.up ((Below.refl _ _).alloc (Nat.le_refl _) (.cells #[.string y] 9))).push hg6 ho6
          have hb6 : Below w0.heap.size w0 w6 := (HB5.out.alloc (by have := HB5.out.size; exact this) _).trans (grown_base hg6 (by simp; have := HB5.out.size; simp at this; omega) (fun k hk => (HM4.out.path.blk hk).1))
          have hb6' := hb6.setCell (p := ⟨p, 3, none⟩) HLO.out (.slice A6 (P.length + 1) c6)
          refine (IH.out d' HDD.out (r := x) (V := V ++ [x]) (P := P ++ [y]) HXN.out HVN.out (by rw [HVL.out]; have := HDD.out; omega) (by rw [HPL.out, HVL.out]; have := HPV.out; omega) (by have := e1.out; omega) hs6 hb6').mono ?_
          rintro e w7 ⟨rfl, ⟨m', AP', cP', HS7⟩, hB7⟩
          clear q3 g3 hs6 hb6 hb6' KB6 ho6 hg6 hl6 k3 k2 cm fm hs5
          obtain ⟨ct, hct⟩ : ∃ ct, ct = cntX n W d' x (V ++ [x]) := ⟨_, rfl⟩
          rw [← hct] at e1 ⊢
          have hctb : q + ct ≤ 1000000 := by have := e1.out; omega
          have HS8 := Lib.hid HS7.pop
          have HB8 := Lib.hid (hB7.setCell (p := ⟨p, 3, none⟩) HLO.out (.slice AP' P.length cP'))
          have k3 := HS7.blk.cell 3; have f3 := HS7.blk.frozen 3; have k2 := HS7.blk.cell 2
          simp only [spC, List.getElem?_cons_zero, List.getElem?_cons_succ] at k3 k2
          obtain ⟨g7, rfl, _, _, _, _⟩ := HS7.path.at_ (by rw [HPL.out]; omega)
          have hcap := HS7.path.cap
          rw [HPL.out] at k3 hcap
          clear HS7 hct
          obtain ⟨M, hM⟩ : ∃ M, M = P.length + 1 := ⟨_, rfl⟩
          rw [← hM] at k3 hcap
          have hw : IntKind.i64.wrap ((M : Int) - 1) = (P.length : Int) := by rw [wrap_id (by omega)]; omega
          have hPc : P.length ≤ cP' := by omega
          have hPcI : (P.length : Int) ≤ (cP' : Int) := by omega
          clear hM
          go_wp2
          go_region
          have HS9 := Lib.hid (HS8.out.up (Below.drew (Below.refl _ _)))
          have HB9 := Lib.hid (Below.drew HB8.out)
          clear k3 f3 k2 hw
          obtain ⟨w9, hw9⟩ : ∃ u, u = (w7.setCell ⟨p, 3, none⟩ (.slice (some ⟨g7, 0, none⟩) P.length cP')).drew := ⟨_, rfl⟩
          rw [← hw9] at HS9 HB9 ⊢
          clear hw9 HS8 HB8
          have k2 := HS9.out.blk.cell 2
          simp only [spC, List.getElem?_cons_zero, List.getElem?_cons_succ] at k2
          have hold := HS9.out.mark.2 x HXN.out
          rw [← HKX.out] at hold
          obtain ⟨g', e, _, _, gc, gf⟩ := HS9.out.marks.at_ (fact_pos n)
          injection e with e
          injection e with e
          subst e
          have cm := gc kx _ 0 _ hold rfl
          have fm := gf kx
          simp only [Nat.mul_one, Nat.add_zero] at cm
          have hm9 := HS9.out.marked (v := false) HXN.out (HS9.out.mark.del HXN.out HIN.out)
          rw [← HKX.out] at hm9
          have HM9 := Lib.hid hm9
          have HB10 := Lib.hid (HB9.out.setCell (p := ⟨gs, kx, none⟩) HGL.out (.bool false))
          clear gc gf hold hm9
          go_wp2
          go_roundw
          case rel => exact ⟨j + 1, q + ct, _, _, _, by omega, by go_num, by go_num, HM9, e1, HB10.out⟩
          case measure => simp [intOf]; omega
        · rw [hin] at cm
          have e1 := Lib.hid (show q + cntL (recCt n W d) n (decide (d = 0)) r V (W.drop (j + 1)) = cntX n W d r V by
            rw [← HE.out, HD.out, cntL_seen (decide_eq_false hd) (by rw [← HX.out]; exact hin)])
          clear hin
          go_wp2
          go_roundw
          case rel => exact ⟨j + 1, q, m, AP, cP, by omega, by go_num, rfl, HS4, e1, hB4⟩
          case measure => simp [intOf]; omega
    · obtain rfl : j = W.length := by omega
      have e1 := Lib.hid (show q = cntX n W d r V by
        rw [← HE.out, List.drop_eq_nil_of_le (Nat.le_refl _), cntL]; rfl)
      go_wp2
      go_ret
      rw [e1.out]
      exact ⟨rfl, ⟨m, AP, cP, HS.out⟩, hB⟩
end Go.Proofs.Ytaednmpkedkmgaa
/- A map to strings or to ints that the call has made, as a plain function of the key. -/
namespace Go.Proofs.Ytaednmpkedkmgaa
set_option linter.unusedVariables false
set_option linter.unusedSimpArgs false
open Go.ChangeShapes Go.WideShapes Go.ChangeAt Go.RowKit Go.Deep
open Go.Maps (Keyed)

/-- Block b is a map of at most n entries that reads as f. -/
def MapTo {α : Type} (en : α → Value) (li : α → Lit) (z : α) (P : Program) (w : World) (k e : TypeId) (b n : Nat) (f : Value → α) : Prop :=
  ∃ D : DataW Unit, w.ownsMap P k (plainElem P e) b n D ∧ ∀ key kl, keyOf P k key = some kl → D.atKey kl (.lit (li z)) = .lit (li (f key))
section
variable {α : Type} {en : α → Value} {li : α → Lit} {z : α} {P : Program} {w w' : World} {k e : TypeId} {b n : Nat} {f : Value → α}
theorem MapTo.made (en : α → Value) (li : α → Lit) (z : α) (P : Program) (w : World) (k e : TypeId) : MapTo en li z P (w.alloc (.map #[] 0)) k e w.heap.size 0 (fun _ => z) :=
  ⟨.map [], World.ownsMap_made w P k _, fun key kl _ => rfl⟩
theorem MapTo.lt (h : MapTo en li z P w k e b n f) : b < w.heap.size := by
  obtain ⟨D, h1, _⟩ := h
  exact h1.lt
theorem MapTo.kept {row : Option Nat} (h : MapTo en li z P w k e b n f) (hg : w.grownBy w' row) (hne : some b ≠ row) : MapTo en li z P w' k e b n f := by
  obtain ⟨D, h1, h2⟩ := h
  exact ⟨D, h1.kept hg hne, h2⟩
theorem MapTo.up (h : MapTo en li z P w k e b n f) (hb : Below w.heap.size w w') : MapTo en li z P w' k e b n f := h.kept (grown_of_below hb) (by simp)
theorem MapTo.alloc (h : MapTo en li z P w k e b n f) (o : Obj) : MapTo en li z P (w.alloc o) k e b n f := h.up ((Below.refl _ _).alloc (Nat.le_refl _) o)
theorem MapTo.drew (h : MapTo en li z P w k e b n f) : MapTo en li z P w.drew k e b n f := h.up (Below.refl _ _).drew
theorem MapTo.look {t : TypeId} (h : MapTo en li z P w k e b n f) (K : Keyed P k) (ht : P.underlying t = some (.map k e)) (hz : (zeroValue e).run P w = .ok (en z) w) (hzd : plainElem (H := Unit) P e (en z) = some (.lit (li z), [])) (hin : ∀ v x ps, plainElem (H := Unit) P e v = some (.lit (li x), ps) → v = en x)
    {key : Value} {kl : Lit} (hkey : keyOf P k key = some kl) : (Instr.lookup t (.map (some b)) key false).run P w = .ok (en (f key)) w := by
  obtain ⟨D, h1, h2⟩ := h
  obtain ⟨v, ps, hrun, hv⟩ := h1.lookup K ht hz hzd hkey
  rw [h2 key kl hkey] at hv
  rw [hrun, hin _ _ _ hv]
end
theorem MapTo.put {α : Type} {en : α → Value} {li : α → Lit} {z : α} {P : Program} {W : World} {t k e : TypeId} (K : Keyed P k) (ht : P.underlying t = some (.map k e)) {b n : Nat} {f : Value → α} (h : MapTo en li z P W k e b n f) (hn : n ≤ 16777216) {key : Value} {x : α}
    {kl : Lit} (hkey : keyOf P k key = some kl) (hpe : plainElem (H := Unit) P e (en x) = some (.lit (li x), [])) : ∃ w', (Instr.mapUpdate t (.map (some b)) key (en x)).run P W = .ok () w' ∧ (∀ g : Value → α, g key = x → (∀ q, q ≠ key → g q = f q) → MapTo en li z P w' k e b (n + 1) g) ∧ W.grownBy w' (some b) := by
  obtain ⟨D, h1, h2⟩ := h
  obtain ⟨w', hrun, hown, hg⟩ := h1.update K ht (by unfold maxLen; omega) hkey hpe
  refine ⟨w', hrun, fun g g1 g2 => ⟨_, hown, fun key' kl' hk' => ?_⟩, hg⟩
  by_cases ek : kl' = kl
  · subst ek
    have e1 : key' = key := K.inj hk' hkey
    subst e1
    rw [Maps.atKey_put_same h1.isMap (K.key hkey), g1]
  · have e1 : key' ≠ key := fun e2 => ek (by rw [e2, hkey] at hk'; injection hk' with hk'; exact hk'.symm)
    rw [Maps.atKey_put_other ek, g2 _ e1]
    exact h2 key' kl' hk'
theorem wp_map_put {α : Type} {en : α → Value} {li : α → Lit} {z : α} {P : Program} {o : Oper} {a : Act} {K' : Act → World → Prop} {Q : Exit → Act → World → Prop} {W : World} (M X V : Operand) (t : TypeId) (hop : o.op = Op.mapUpdate t M X V)
    {k e : TypeId} (K : Keyed P k) (ht : P.underlying t = some (.map k e)) {b n : Nat} {f : Value → α} (hm : a.eval M = .map (some b)) (h : MapTo en li z P W k e b n f) (hn : n ≤ 16777216) {key : Value} (hx : a.eval X = key) {x : α} (hv : a.eval V = en x)
    {kl : Lit} (hkey : keyOf P k key = some kl) (hpe : plainElem (H := Unit) P e (en x) = some (.lit (li x), [])) (hK : ∀ w', (∀ g : Value → α, g key = x → (∀ q, q ≠ key → g q = f q) → MapTo en li z P w' k e b (n + 1) g) → W.grownBy w' (some b) → K' (a.put o.dst undef) w') : o.wp P a W K' Q := by
  obtain ⟨w', hrun, r1, r2⟩ := h.put K ht hn hkey hpe
  unfold Oper.wp
  simp [execOp, hop, hm, hx, hv, hrun, Result.andThen]
  exact hK w' r1 r2
theorem wpList_map_put {α : Type} {en : α → Value} {li : α → Lit} {z : α} {P : Program} {ops : Array Oper} {rest : List Oper} {o : Oper} {a : Act} {Q : Exit → Act → World → Prop} {W : World} (hgd : o.guard = none) (M X V : Operand) (t : TypeId) (hop : o.op = Op.mapUpdate t M X V)
    {k e : TypeId} (K : Keyed P k) (ht : P.underlying t = some (.map k e)) {b n : Nat} {f : Value → α} (hm : a.eval M = .map (some b)) (h : MapTo en li z P W k e b n f) (hn : n ≤ 16777216) {key : Value} (hx : a.eval X = key) {x : α} (hv : a.eval V = en x)
    {kl : Lit} (hkey : keyOf P k key = some kl) (hpe : plainElem (H := Unit) P e (en x) = some (.lit (li x), [])) (hK : ∀ w', (∀ g : Value → α, g key = x → (∀ q, q ≠ key → g q = f q) → MapTo en li z P w' k e b (n + 1) g) → W.grownBy w' (some b) → wpList P ops Q rest (a.put o.dst undef) w') : wpList P ops Q (o :: rest) a W := by
  refine wpList_plain hgd fun K' hK' => wp_map_put M X V t hop K ht hm h hn hx hv hkey hpe fun w' r1 r2 => hK' _ _ (hK w' r1 r2)
theorem step_map_put {α : Type} {en : α → Value} {li : α → Lit} {z : α} {P : Program} {ops : Array Oper} {o : Oper} {a : Act} {K' : Act → World → Prop} {Q : Exit → Act → World → Prop} {E' : Prop} {W : World} (hgd : o.guard = none) (M X V : Operand) (t : TypeId) (hop : o.op = Op.mapUpdate t M X V)
    {k e : TypeId} (K : Keyed P k) (ht : P.underlying t = some (.map k e)) {b n : Nat} {f : Value → α} (hm : a.eval M = .map (some b)) (h : MapTo en li z P W k e b n f) (hn : n ≤ 16777216) {key : Value} (hx : a.eval X = key) {x : α} (hv : a.eval V = en x)
    {kl : Lit} (hkey : keyOf P k key = some kl) (hpe : plainElem (H := Unit) P e (en x) = some (.lit (li x), [])) (hK : ∀ w', (∀ g : Value → α, g key = x → (∀ q, q ≠ key → g q = f q) → MapTo en li z P w' k e b (n + 1) g) → W.grownBy w' (some b) → K' (a.put o.dst undef) w') :
    if Region.wanted o (yielded ops a.tmps) = true then Oper.wp P o a W K' Q else E' := by
  have hw : Region.wanted o (yielded ops a.tmps) = true := by simp [Region.wanted, hgd]
  rw [if_pos hw]
  exact wp_map_put M X V t hop K ht hm h hn hx hv hkey hpe hK
theorem wp_map_ins {α : Type} {en : α → Value} {li : α → Lit} {z : α} {P : Program} {o : Oper} {a : Act} {K' : Act → World → Prop} {Q : Exit → Act → World → Prop} {W : World} (M X V : Operand) (t : TypeId) (hop : o.op = Op.insert t M X V)
    {k e : TypeId} (K : Keyed P k) (ht : P.underlying t = some (.map k e)) {b n : Nat} {f : Value → α} (hm : a.eval M = .map (some b)) (h : MapTo en li z P W k e b n f) (hn : n ≤ 16777216) {key : Value} (hx : a.eval X = key) {x : α} (hv : a.eval V = en x)
    {kl : Lit} (hkey : keyOf P k key = some kl) (hpe : plainElem (H := Unit) P e (en x) = some (.lit (li x), [])) (hK : ∀ w', (∀ g : Value → α, g key = x → (∀ q, q ≠ key → g q = f q) → MapTo en li z P w' k e b (n + 1) g) → W.grownBy w' (some b) → K' (a.put o.dst undef) w') : o.wp P a W K' Q := by
  obtain ⟨w', hrun, r1, r2⟩ := h.put K ht hn hkey hpe
  unfold Oper.wp
  simp [execOp, hop, hm, hx, hv, hrun, Result.andThen]
  exact hK w' r1 r2
theorem step_map_ins {α : Type} {en : α → Value} {li : α → Lit} {z : α} {P : Program} {ops : Array Oper} {o : Oper} {a : Act} {K' : Act → World → Prop} {Q : Exit → Act → World → Prop} {E' : Prop} {W : World} (hgd : o.guard = none) (M X V : Operand) (t : TypeId) (hop : o.op = Op.insert t M X V)
    {k e : TypeId} (K : Keyed P k) (ht : P.underlying t = some (.map k e)) {b n : Nat} {f : Value → α} (hm : a.eval M = .map (some b)) (h : MapTo en li z P W k e b n f) (hn : n ≤ 16777216) {key : Value} (hx : a.eval X = key) {x : α} (hv : a.eval V = en x)
    {kl : Lit} (hkey : keyOf P k key = some kl) (hpe : plainElem (H := Unit) P e (en x) = some (.lit (li x), [])) (hK : ∀ w', (∀ g : Value → α, g key = x → (∀ q, q ≠ key → g q = f q) → MapTo en li z P w' k e b (n + 1) g) → W.grownBy w' (some b) → K' (a.put o.dst undef) w') :
    if Region.wanted o (yielded ops a.tmps) = true then Oper.wp P o a W K' Q else E' := by
  have hw : Region.wanted o (yielded ops a.tmps) = true := by simp [Region.wanted, hgd]
  rw [if_pos hw]
  exact wp_map_ins M X V t hop K ht hm h hn hx hv hkey hpe hK
/-- The bound on a map's size is the length of what it reads as. -/
theorem ownsMap_tight {H : Type} {P : Program} {w : World} {k : TypeId} {R : Value → Option (DataW H × List MemPlace)} {b n m : Nat} {l : List (Lit × DataW H)} (h : w.ownsMap P k R b n (.map l)) (hm : l.length ≤ m) : w.ownsMap P k R b m (.map l) := by
  obtain ⟨es, clock, hb, F, hs, hD⟩ := h
  refine ⟨es, clock, hb, F, ?_, hD⟩
  injection hD with hD
  have e1 := congrArg List.length hD
  rw [length_sorted] at e1
  simp at e1
  omega
/-- The world behind 'm[key] = v'. -/
def putW (P : Program) (t : TypeId) (b : Nat) (key v : Value) (u : World) : World :=
  match (Instr.mapUpdate t (.map (some b)) key v).run P u with
  | .ok _ w' => w'
  | _ => u
theorem putW_eq {P : Program} {t : TypeId} {b : Nat} {key v : Value} {u w' : World} (h : (Instr.mapUpdate t (.map (some b)) key v).run P u = .ok () w') : putW P t b key v u = w' := by
  rw [putW, h]
/-! strings -/
def sLi (s : ByteArray) : Lit := .string s.data.toList
theorem ba_ext {s t : ByteArray} (h : s.data.toList = t.data.toList) : s = t := by
  cases s; cases t
  simp only [ByteArray.mk.injEq]
  exact Array.ext' h
theorem sLi_pe {P : Program} {e : TypeId} (he : P.underlying e = some .string) {s : ByteArray} (hs : s.size ≤ 16777216) : plainElem (H := Unit) P e (.string s) = some (.lit (sLi s), []) := plainElem_string he (by unfold maxLen; omega)
theorem sLi_in {P : Program} {e : TypeId} (he : P.underlying e = some .string) (v : Value) (x : ByteArray) (ps : List MemPlace) (h : plainElem (H := Unit) P e v = some (.lit (sLi x), ps)) : v = .string x := by
  obtain ⟨s, rfl, hz, _⟩ := plainElem_string_inv he h
  simp only [Prod.mk.injEq, DataW.lit.injEq, sLi, Lit.string.injEq] at hz
  rw [ba_ext hz.1]
/-! ints -/
theorem lit_i64 {x : Int} (h : I64 x) : (Lit.int .i64 x).wf = true := by
  simp only [Lit.wf, Bool.and_eq_true, decide_eq_true_eq]
  exact h
def iLi (i : Int) : Lit := .int .i64 i
theorem iLi_pe {P : Program} {e : TypeId} (he : P.underlying e = some (.int .i64)) {i : Int} (hi : I64 i) : plainElem (H := Unit) P e (.int .i64 i) = some (.lit (iLi i), []) := plainElem_int he (lit_i64 hi)
theorem iLi_in {P : Program} {e : TypeId} (he : P.underlying e = some (.int .i64)) (v : Value) (x : Int) (ps : List MemPlace) (h : plainElem (H := Unit) P e v = some (.lit (iLi x), ps)) : v = .int .i64 x := by
  obtain ⟨s, rfl, hz, _⟩ := plainElem_int_inv he h
  simp only [Prod.mk.injEq, DataW.lit.injEq, iLi, Lit.int.injEq] at hz
  rw [hz.1.2]
end Go.Proofs.Ytaednmpkedkmgaa
/- A map that the call has made, exactly: a plain partial function of the key, and how many entries it has. -/
namespace Go.Proofs.Ytaednmpkedkmgaa
set_option linter.unusedVariables false
set_option linter.unusedSimpArgs false
open Go.ChangeShapes Go.WideShapes Go.ChangeAt Go.RowKit Go.Deep
open Go.Maps (Keyed)

/-- Block b is a map of m entries: f, key by key. -/
def MapX {α : Type} (en : α → Value) (li : α → Lit) (P : Program) (w : World) (k e : TypeId) (b m : Nat) (f : Value → Option α) : Prop :=
  ∃ D : DataW Unit, w.ownsMap P k (plainElem P e) b m D ∧ Maps.size D = m ∧ ∀ key kl, keyOf P k key = some kl → (f key = none → Maps.has D kl = false ∧ ∀ z, D.atKey kl z = z) ∧ ∀ x, f key = some x → Maps.has D kl = true ∧ ∀ z, D.atKey kl z = .lit (li x)
section
variable {α : Type} {en : α → Value} {li : α → Lit} {P : Program} {w w' : World} {k e : TypeId} {b m : Nat} {f : Value → Option α}
theorem MapX.made (en : α → Value) (li : α → Lit) (P : Program) (w : World) (k e : TypeId) : MapX en li P (w.alloc (.map #[] 0)) k e w.heap.size 0 (fun _ => none) :=
  ⟨.map [], World.ownsMap_made w P k _, rfl, fun key kl _ => ⟨fun _ => ⟨rfl, fun _ => rfl⟩, fun x hx => by cases hx⟩⟩
theorem MapX.made_at (en : α → Value) (li : α → Lit) (P : Program) (w : World) (k e : TypeId) {b : Nat} (h : b = w.heap.size) : MapX en li P (w.alloc (.map #[] 0)) k e b 0 (fun _ => none) := by
  subst h
  exact MapX.made en li P w k e
theorem MapX.lt (h : MapX en li P w k e b m f) : b < w.heap.size := by
  obtain ⟨D, h1, _⟩ := h
  exact h1.lt
theorem MapX.kept {row : Option Nat} (h : MapX en li P w k e b m f) (hg : w.grownBy w' row) (hne : some b ≠ row) : MapX en li P w' k e b m f := by
  obtain ⟨D, h1, h2⟩ := h
  exact ⟨D, h1.kept hg hne, h2⟩
theorem MapX.up (h : MapX en li P w k e b m f) (hb : Below w.heap.size w w') : MapX en li P w' k e b m f := h.kept (grown_of_below hb) (by simp)
theorem MapX.alloc (h : MapX en li P w k e b m f) (o : Obj) : MapX en li P (w.alloc o) k e b m f := h.up ((Below.refl _ _).alloc (Nat.le_refl _) o)
theorem MapX.drew (h : MapX en li P w k e b m f) : MapX en li P w.drew k e b m f := h.up (Below.refl _ _).drew
theorem MapX.as {m' : Nat} {f' : Value → Option α} (h : MapX en li P w k e b m f) (hm : m = m') (hf : ∀ q, f q = f' q) : MapX en li P w k e b m' f' := by
  have e1 : f = f' := funext hf
  subst hm e1
  exact h
theorem MapX.look {t : TypeId} {z : α} (h : MapX en li P w k e b m f) (K : Keyed P k) (ht : P.underlying t = some (.map k e)) (hz : (zeroValue e).run P w = .ok (en z) w) (hzd : plainElem (H := Unit) P e (en z) = some (.lit (li z), [])) (hin : ∀ v x ps, plainElem (H := Unit) P e v = some (.lit (li x), ps) → v = en x)
    {key : Value} {kl : Lit} (hkey : keyOf P k key = some kl) : (Instr.lookup t (.map (some b)) key false).run P w = .ok (en ((f key).getD z)) w := by
  obtain ⟨D, h1, _, h2⟩ := h
  obtain ⟨v, ps, hrun, hv⟩ := h1.lookup K ht hz hzd hkey
  obtain ⟨a1, a2⟩ := h2 key kl hkey
  rcases hf : f key with _ | x
  · rw [(a1 hf).2] at hv
    rw [hrun, hin _ _ _ hv]; rfl
  · rw [(a2 x hf).2] at hv
    rw [hrun, hin _ _ _ hv]; rfl
theorem MapX.look_ok {t : TypeId} {z : α} (h : MapX en li P w k e b m f) (K : Keyed P k) (ht : P.underlying t = some (.map k e)) (hz : (zeroValue e).run P w = .ok (en z) w) (hzd : plainElem (H := Unit) P e (en z) = some (.lit (li z), [])) (hin : ∀ v x ps, plainElem (H := Unit) P e v = some (.lit (li x), ps) → v = en x)
    {key : Value} {kl : Lit} (hkey : keyOf P k key = some kl) : (Instr.lookup t (.map (some b)) key true).run P w = .ok (.tuple #[en ((f key).getD z), .bool (f key).isSome]) w := by
  obtain ⟨D, h1, _, h2⟩ := h
  obtain ⟨v, ps, hrun, hv⟩ := h1.look_ok K ht hz hzd hkey
  obtain ⟨a1, a2⟩ := h2 key kl hkey
  rcases hf : f key with _ | x
  · rw [(a1 hf).2] at hv
    rw [hrun, hin _ _ _ hv, (a1 hf).1]; rfl
  · rw [(a2 x hf).2] at hv
    rw [hrun, hin _ _ _ hv, (a2 x hf).1]; rfl
theorem MapX.len {t : TypeId} (h : MapX en li P w k e b m f) (ht : P.underlying t = some (.map k e)) (ty : TypeId) : (Builtin.len_ #[t] ty #[.map (some b)]).run P w = .ok (.int .i64 m) w := by
  obtain ⟨D, h1, h3, _⟩ := h
  rw [h1.len ht ty, h3]
theorem ownsMap_tight2 {H : Type} {R : Value → Option (DataW H × List MemPlace)} {n : Nat} {D : DataW H} (h : w.ownsMap P k R b n D) : w.ownsMap P k R b (Maps.size D) D := by
  have hm := h.isMap
  cases D with
  | map l => exact ownsMap_tight h (Nat.le_of_eq rfl)
  | _ => exact absurd hm (by simp [Maps.IsMap])
theorem MapX.put {t : TypeId} (K : Keyed P k) (ht : P.underlying t = some (.map k e)) (h : MapX en li P w k e b m f) (hn : m ≤ 16777216) {key : Value} {x : α}
    {kl : Lit} (hkey : keyOf P k key = some kl) (hpe : plainElem (H := Unit) P e (en x) = some (.lit (li x), [])) : ∃ w', (Instr.mapUpdate t (.map (some b)) key (en x)).run P w = .ok () w' ∧ (∀ (m' : Nat) (g : Value → Option α), m' = (if (f key).isSome then m else m + 1) → g key = some x → (∀ q, q ≠ key → g q = f q) → MapX en li P w' k e b m' g) ∧ w.grownBy w' (some b) := by
  obtain ⟨D, h1, h3, h2⟩ := h
  obtain ⟨w', hrun, hown, hg⟩ := h1.update K ht (by unfold maxLen; omega) hkey hpe
  refine ⟨w', hrun, fun m' g hm' g1 g2 => ?_, hg⟩
  have e0 : Maps.size (D.put kl (.lit (li x))) = m' := by
    rw [Maps.size_put (h1.tidy K), h3, hm']
    obtain ⟨a1, a2⟩ := h2 key kl hkey
    rcases hf : f key with _ | y
    · rw [(a1 hf).1]; simp
    · rw [(a2 y hf).1]; simp
  refine ⟨_, e0 ▸ ownsMap_tight2 hown, e0, fun key' kl' hk' => ?_⟩
  by_cases ek : kl' = kl
  · subst ek
    have e1 : key' = key := K.inj hk' hkey
    subst e1
    rw [g1]
    refine ⟨fun q => (by cases q), fun y hy => ?_⟩
    injection hy with hy
    subst hy
    exact ⟨Maps.has_put_same h1.isMap (K.key hkey) _, fun z => Maps.atKey_put_same h1.isMap (K.key hkey) _ _⟩
  · have e1 : key' ≠ key := fun e2 => ek (by rw [e2, hkey] at hk'; injection hk' with hk'; exact hk'.symm)
    rw [g2 _ e1, Maps.has_put_other ek]
    obtain ⟨a1, a2⟩ := h2 key' kl' hk'
    exact ⟨fun q => ⟨(a1 q).1, fun z => by rw [Maps.atKey_put_other ek]; exact (a1 q).2 z⟩, fun y q => ⟨(a2 y q).1, fun z => by rw [Maps.atKey_put_other ek]; exact (a2 y q).2 z⟩⟩
theorem MapX.drop {t : TypeId} (K : Keyed P k) (ht : P.underlying t = some (.map k e)) (h : MapX en li P w k e b m f) {key : Value}
    {kl : Lit} (hkey : keyOf P k key = some kl) (ty : TypeId) : ∃ w', (Builtin.delete_ #[t, k] ty #[.map (some b), key]).run P w = .ok (.tuple #[]) w' ∧ (∀ (m' : Nat) (g : Value → Option α), m' + (if (f key).isSome then 1 else 0) = m → g key = none → (∀ q, q ≠ key → g q = f q) → MapX en li P w' k e b m' g) ∧ w.grownBy w' (some b) := by
  obtain ⟨D, h1, h3, h2⟩ := h
  obtain ⟨w', hrun, hown, hg⟩ := h1.drop K ht hkey ty
  refine ⟨w', hrun, fun m' g hm' g1 g2 => ?_, hg.grown⟩
  have e0 : Maps.size (D.del kl) = m' := by
    have e9 := Maps.size_del (k := kl) (h1.tidy K)
    rw [h3, ← hm'] at e9
    obtain ⟨a1, a2⟩ := h2 key kl hkey
    rcases hf : f key with _ | y
    · rw [(a1 hf).1, hf] at e9; simp at e9; omega
    · rw [(a2 y hf).1, hf] at e9; simp at e9; omega
  refine ⟨_, e0 ▸ ownsMap_tight2 hown, e0, fun key' kl' hk' => ?_⟩
  by_cases ek : kl' = kl
  · subst ek
    have e1 : key' = key := K.inj hk' hkey
    subst e1
    rw [g1]
    exact ⟨fun _ => ⟨Maps.has_del_same, fun z => Maps.atKey_del_same _⟩, fun y hy => (by cases hy)⟩
  · have e1 : key' ≠ key := fun e2 => ek (by rw [e2, hkey] at hk'; injection hk' with hk'; exact hk'.symm)
    rw [g2 _ e1, Maps.has_del_other ek]
    obtain ⟨a1, a2⟩ := h2 key' kl' hk'
    exact ⟨fun q => ⟨(a1 q).1, fun z => by rw [Maps.atKey_del_other ek]; exact (a1 q).2 z⟩, fun y q => ⟨(a2 y q).1, fun z => by rw [Maps.atKey_del_other ek]; exact (a2 y q).2 z⟩⟩
end
section
variable {α : Type} {en : α → Value} {li : α → Lit} {P : Program} {ops : Array Oper} {rest : List Oper} {o : Oper} {a : Act} {Q : Exit → Act → World → Prop} {W : World} {k e : TypeId} {b n : Nat} {f : Value → Option α}
theorem wp_mapx_put {K' : Act → World → Prop} (M X V : Operand) (t : TypeId) (hop : o.op = Op.mapUpdate t M X V) (K : Keyed P k) (ht : P.underlying t = some (.map k e)) (hm : a.eval M = .map (some b)) (h : MapX en li P W k e b n f) (hn : n ≤ 16777216) {key : Value} (hx : a.eval X = key) {x : α} (hv : a.eval V = en x)
    {kl : Lit} (hkey : keyOf P k key = some kl) (hpe : plainElem (H := Unit) P e (en x) = some (.lit (li x), [])) (hK : ∀ w', (∀ (m' : Nat) (g : Value → Option α), m' = (if (f key).isSome then n else n + 1) → g key = some x → (∀ q, q ≠ key → g q = f q) → MapX en li P w' k e b m' g) → W.grownBy w' (some b) → K' (a.put o.dst undef) w') : o.wp P a W K' Q := by
  obtain ⟨w', hrun, r1, r2⟩ := h.put K ht hn hkey hpe
  unfold Oper.wp
  simp [execOp, hop, hm, hx, hv, hrun, Result.andThen]
  exact hK w' r1 r2
theorem wpList_mapx_put (hgd : o.guard = none) (M X V : Operand) (t : TypeId) (hop : o.op = Op.mapUpdate t M X V) (K : Keyed P k) (ht : P.underlying t = some (.map k e)) (hm : a.eval M = .map (some b)) (h : MapX en li P W k e b n f) (hn : n ≤ 16777216) {key : Value} (hx : a.eval X = key) {x : α} (hv : a.eval V = en x)
    {kl : Lit} (hkey : keyOf P k key = some kl) (hpe : plainElem (H := Unit) P e (en x) = some (.lit (li x), [])) (hK : ∀ w', (∀ (m' : Nat) (g : Value → Option α), m' = (if (f key).isSome then n else n + 1) → g key = some x → (∀ q, q ≠ key → g q = f q) → MapX en li P w' k e b m' g) → W.grownBy w' (some b) → wpList P ops Q rest (a.put o.dst undef) w') : wpList P ops Q (o :: rest) a W :=
  wpList_plain hgd fun K' hK' => wp_mapx_put M X V t hop K ht hm h hn hx hv hkey hpe fun w' r1 r2 => hK' _ _ (hK w' r1 r2)
theorem wpList_mapx_drop (hgd : o.guard = none) (M X : Operand) (t : TypeId) (hop : o.op = Op.call { callee := Callee.builtin Builtin.delete, args := #[M, X], argTypes := #[t, k] }) (K : Keyed P k) (ht : P.underlying t = some (.map k e)) (hm : a.eval M = .map (some b)) (h : MapX en li P W k e b n f) {key : Value} (hx : a.eval X = key)
    {kl : Lit} (hkey : keyOf P k key = some kl) (hK : ∀ w', (∀ (m' : Nat) (g : Value → Option α), m' + (if (f key).isSome then 1 else 0) = n → g key = none → (∀ q, q ≠ key → g q = f q) → MapX en li P w' k e b m' g) → W.grownBy w' (some b) → wpList P ops Q rest (a.put o.dst (.tuple #[])) w') : wpList P ops Q (o :: rest) a W := by
  refine wpList_plain hgd fun K' hK' => ?_
  obtain ⟨w', hrun, r1, r2⟩ := h.drop K ht hkey o.type
  unfold Oper.wp
  simp [execOp, hop, resolve, invoke, builtin, hm, hx, hrun, Result.andThen]
  exact hK' _ _ (hK w' r1 r2)
end
/-! bools -/
def bLi (x : Bool) : Lit := .bool x
def bEn (x : Bool) : Value := .bool x
theorem bLi_pe {P : Program} {e : TypeId} (he : P.underlying e = some .bool) (x : Bool) : plainElem (H := Unit) P e (bEn x) = some (.lit (bLi x), []) := plainElem_bool he x
theorem bLi_in {P : Program} {e : TypeId} (he : P.underlying e = some .bool) (v : Value) (x : Bool) (ps : List MemPlace) (h : plainElem (H := Unit) P e v = some (.lit (bLi x), ps)) : v = bEn x := plainElem_bool_inv he h
end Go.Proofs.Ytaednmpkedkmgaa
