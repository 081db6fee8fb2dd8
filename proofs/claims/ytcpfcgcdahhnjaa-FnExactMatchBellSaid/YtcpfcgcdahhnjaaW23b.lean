/- The walks through the check of blows, both sides. -/
import Derived.Test.YtcpfcgcdahhnjaaW0
import Derived.Test.YtcpfcgcdahhnjaaP23b
import Derived.Test.YtcpfcgcdahhnjaaSet
namespace Go.Proofs.Ytcpfcgcdahhnjaa
set_option linter.unusedVariables false
set_option linter.unusedSimpArgs false
open Go.ChangeShapes Go.WideShapes Go.ChangeAt Go.RowKit Go.Deep
open Go.Maps (Keyed)
theorem Try.laidOutK : laidOutB Try.prog = true := by kernel_rfl
theorem Try.arrPair : WideMaps.ArrKey Try.prog 104 3 2 := ⟨Try.underlying104, by kernel_rfl, by kernel_rfl, by kernel_rfl⟩
theorem Try.keyedPair : Keyed Try.prog 104 := Keyed.of_law (deep_law_laid Try.laidOutK (m := 2) (by omega) (of_decide_eq_true (by kernel_rfl)) (by kernel_rfl) (by rw [Try.underlying104]))
theorem wf_i64 {x : Int} (h : I64 x) : (Lit.int .i64 x).wf = true := by
  simp only [Lit.wf, Bool.and_eq_true, decide_eq_true_eq]
  exact h
theorem Try.keyPair (x y : Int) (hx : I64 x) (hy : I64 y) : ∃ kl, keyOf Try.prog 104 (.agg #[.int .i64 x, .int .i64 y]) = some kl :=
  ⟨_, WideMaps.keyOf_pair Try.arrPair Try.underlying3 ⟨Try.prog.types.size - 1, by kernel_rfl⟩ (wf_i64 hx) (wf_i64 hy)⟩
theorem Try.zeroBool (w : World) : (zeroValue 4).run Try.prog w = .ok (.bool false) w := by kernel_rfl
set_option maxRecDepth 100000 in
theorem impl_GoodBlows {A : Option Addr} {m c : Nat} {n : Int} {l : List Blow3} {w : World} (hm : l.length = m) (h : Recs blowE 3 w A l) (hz : m ≤ 16777216) :
    Calls Try.prog 26 #[.int .i64 n, .slice A m c] w fun e w' => e = .returned (.bool (goodBlows n l)) ∧ Below w.heap.size w w' := by
  subst hm
  have E : Hid (goodBlows n l = ((List.range l.length).all (okB n l) && (inB n 3 8 && decide (l.length ≤ 400)))) := rfl
  rcases h1 : inB n 3 8
  · go_in
    go_wp2_with (go_at_call 78; refine (impl_isStage _ _).mono ?_; rintro e w' ⟨rfl, rfl⟩)
    go_ret
    exact ⟨ret_bool (by rw [E.out, h1]; simp), by (repeat' (first | (with_reducible exact Below.refl _ _) | (with_reducible assumption) | (with_reducible refine below_drewN ?_ _) | (with_reducible refine Below.drew ?_) | (with_reducible refine below_alloc ?_ _) | (with_reducible refine Below.alloc ?_ ?_ _) | (with_reducible refine Below.setCell ?_ ?_ _) | (with_reducible refine below_go ?_ (by with_reducible assumption)) | (with_reducible refine below_then (by with_reducible assumption) ?_ ?_) | go_size))⟩
  by_cases h2 : l.length ≤ 400
  · have hn := inB_t h1
    have hmm := @run_makeMap Try.prog
    go_in
    go_wp2_with (go_at_call 78; refine (impl_isStage _ _).mono ?_; rintro e w' ⟨rfl, rfl⟩)
    clear hmm
    go_loopw [20] (fun i wr => ∃ k : Nat, k ≤ l.length ∧ i = .int .i64 k ∧ Hid (∀ j, j < k → okB n l j = true) ∧ SetOf Try.prog wr 104 4 w.heap.size k (keysB l k) ∧ Below w.heap.size w wr) (fun i _ => l.length - (intOf i).toNat)
    case atStart => exact ⟨0, Nat.zero_le _, rfl, Lib.hid (fun j hj => absurd hj (by omega)), SetOf.made _ _ _ _, by (repeat' (first | (with_reducible exact Below.refl _ _) | (with_reducible assumption) | (with_reducible refine below_drewN ?_ _) | (with_reducible refine Below.drew ?_) | (with_reducible refine below_alloc ?_ _) | (with_reducible refine Below.alloc ?_ ?_ _) | (with_reducible refine Below.setCell ?_ ?_ _) | (with_reducible refine below_go ?_ (by with_reducible assumption)) | (with_reducible refine below_then (by with_reducible assumption) ?_ ?_) | go_size))⟩
    case round =>
      obtain ⟨k, hk, rfl, HK, hS, hb⟩ := hrel
      by_cases hlt : k < l.length
      · obtain ⟨x, hx⟩ := some_of_lt hlt
        obtain ⟨b1, o1, rfl, hbb, hc1, hc2, hc3⟩ := (h.below hb (Nat.le_refl _)).at_3 hx
        have HX := Lib.hid hx
        have HS := Lib.hid hS
        clear hx h hS
        rcases i1 : inB x.1 0 800
        · go_wp2_with (go_at_call 79; refine (impl_within _ _ _ _).mono ?_; rintro e w' ⟨rfl, rfl⟩)
          go_ret
          refine ⟨ret_bool ?_, by (repeat' (first | (with_reducible exact Below.refl _ _) | (with_reducible assumption) | (with_reducible refine below_drewN ?_ _) | (with_reducible refine Below.drew ?_) | (with_reducible refine below_alloc ?_ _) | (with_reducible refine Below.alloc ?_ ?_ _) | (with_reducible refine Below.setCell ?_ ?_ _) | (with_reducible refine below_go ?_ (by with_reducible assumption)) | (with_reducible refine below_then (by with_reducible assumption) ?_ ?_) | go_size))⟩
          rw [E.out, all_bad hlt (okB_out HX.out (by simp [inBlow, i1]))]
        rcases i2 : inB x.2.1 1 n
        · go_wp2_with (go_at_call 79; refine (impl_within _ _ _ _).mono ?_; rintro e w' ⟨rfl, rfl⟩)
          go_ret
          refine ⟨ret_bool ?_, by (repeat' (first | (with_reducible exact Below.refl _ _) | (with_reducible assumption) | (with_reducible refine below_drewN ?_ _) | (with_reducible refine Below.drew ?_) | (with_reducible refine below_alloc ?_ _) | (with_reducible refine Below.alloc ?_ ?_ _) | (with_reducible refine Below.setCell ?_ ?_ _) | (with_reducible refine below_go ?_ (by with_reducible assumption)) | (with_reducible refine below_then (by with_reducible assumption) ?_ ?_) | go_size))⟩
          rw [E.out, all_bad hlt (okB_out HX.out (by simp [inBlow, i1, i2]))]
        rcases i3 : inB x.2.2 0 1000000
        · go_wp2_with (go_at_call 79; refine (impl_within _ _ _ _).mono ?_; rintro e w' ⟨rfl, rfl⟩)
          go_ret
          refine ⟨ret_bool ?_, by (repeat' (first | (with_reducible exact Below.refl _ _) | (with_reducible assumption) | (with_reducible refine below_drewN ?_ _) | (with_reducible refine Below.drew ?_) | (with_reducible refine below_alloc ?_ _) | (with_reducible refine Below.alloc ?_ ?_ _) | (with_reducible refine Below.setCell ?_ ?_ _) | (with_reducible refine below_go ?_ (by with_reducible assumption)) | (with_reducible refine below_then (by with_reducible assumption) ?_ ?_) | go_size))⟩
          rw [E.out, all_bad hlt (okB_out HX.out (by simp [inBlow, i1, i2, i3]))]
        have x1 := inB_t i1; have x2 := inB_t i2
        obtain ⟨kl, hkl⟩ := Try.keyPair x.1 x.2.1 (by unfold I64; omega) (by unfold I64; omega)
        have HKL := Lib.hid hkl
        have LK := (((HS.out.alloc (.cells #[.int .i64 x.1, .int .i64 x.2.1, .int .i64 x.2.2] 97)).alloc (.cells #[.int .i64 x.1, .int .i64 x.2.1] 104)).look Try.keyedPair Try.underlying103 Try.underlying4 (Try.zeroBool _) hkl)
        clear hkl
        rcases i4 : (l.take k).any (sameAt x)
        · have LO := LK.2 (fun hm => by have := keysB_mem.1 hm; rw [i4] at this; cases this)
          clear LK
          go_wp2_with (first | (go_at_call 79; refine (impl_within _ _ _ _).mono ?_; rintro e w' ⟨rfl, rfl⟩) | (at_mapUpdate; go_must ((refine wpList_set_add rfl _ _ _ 103 rfl Try.keyedPair Try.underlying103 Try.underlying4 rfl ((HS.out.alloc _).alloc _) (by omega) rfl rfl HKL.out ?_; intro w2 hS2 hg2))))
          go_roundw
          case rel =>
            refine ⟨k + 1, by omega, by go_num, Lib.hid (upto_succ HK.out (okB_t HX.out (by simp [inBlow, i1, i2, i3]) i4)), by rw [keysB_succ HX.out]; exact hS2, ?_⟩
            exact (((hb.alloc hb.size _).alloc (by have := hb.size; simp; omega) _).grown hg2 (by have := hb.size; simp; omega) (fun k hk => by injection hk with hk; omega))
          case measure => simp [intOf]; omega
        · have LO := LK.1 (keysB_mem.2 i4)
          clear LK
          go_wp2_with (go_at_call 79; refine (impl_within _ _ _ _).mono ?_; rintro e w' ⟨rfl, rfl⟩)
          go_ret
          refine ⟨ret_bool ?_, by (repeat' (first | (with_reducible exact Below.refl _ _) | (with_reducible assumption) | (with_reducible refine below_drewN ?_ _) | (with_reducible refine Below.drew ?_) | (with_reducible refine below_alloc ?_ _) | (with_reducible refine Below.alloc ?_ ?_ _) | (with_reducible refine Below.setCell ?_ ?_ _) | (with_reducible refine below_go ?_ (by with_reducible assumption)) | (with_reducible refine below_then (by with_reducible assumption) ?_ ?_) | go_size))⟩
          rw [E.out, all_bad hlt (okB_twice HX.out i4)]
      · go_wp2
        go_ret
        refine ⟨ret_bool ?_, hb⟩
        rw [E.out, all_good (fun j hj => HK.out j (by omega)), h1, decide_eq_true h2]; rfl
  · go_in
    go_wp2_with (go_at_call 78; refine (impl_isStage _ _).mono ?_; rintro e w' ⟨rfl, rfl⟩)
    go_ret
    exact ⟨ret_bool (by rw [E.out, decide_eq_false h2]; simp), by (repeat' (first | (with_reducible exact Below.refl _ _) | (with_reducible assumption) | (with_reducible refine below_drewN ?_ _) | (with_reducible refine Below.drew ?_) | (with_reducible refine below_alloc ?_ _) | (with_reducible refine Below.alloc ?_ ?_ _) | (with_reducible refine Below.setCell ?_ ?_ _) | (with_reducible refine below_go ?_ (by with_reducible assumption)) | (with_reducible refine below_then (by with_reducible assumption) ?_ ?_) | go_size))⟩
set_option maxRecDepth 100000 in
theorem spec_l23Good {A : Option Addr} {m c : Nat} {n : Int} {l : List Blow3} {w : World} (hm : l.length = m) (h : Recs blowE 3 w A l) (hz : m ≤ 16777216) (hcap : m ≤ c) (hcb : c ≤ 16777216) :
    Calls Try.prog 71 #[.int .i64 n, .slice A m c] w fun e w' => e = .returned (.bool (goodBlows n l)) ∧ Below w.heap.size w w' := by
  subst hm
  have E : Hid (goodBlows n l = ((List.range l.length).all (okB n l) && (inB n 3 8 && decide (l.length ≤ 400)))) := rfl
  go_in
  go_wp2
  go_loopw [11] (fun i wr => ∃ k : Nat, k ≤ l.length ∧ i = .int .i64 k ∧ Hid (∀ j, j < k → okB n l j = true) ∧ Below w.heap.size w wr) (fun i _ => l.length - (intOf i).toNat)
  case atStart => exact ⟨0, Nat.zero_le _, rfl, Lib.hid (fun j hj => absurd hj (by omega)), by (repeat' (first | (with_reducible exact Below.refl _ _) | (with_reducible assumption) | (with_reducible refine below_drewN ?_ _) | (with_reducible refine Below.drew ?_) | (with_reducible refine below_alloc ?_ _) | (with_reducible refine Below.alloc ?_ ?_ _) | (with_reducible refine Below.setCell ?_ ?_ _) | (with_reducible refine below_go ?_ (by with_reducible assumption)) | (with_reducible refine below_then (by with_reducible assumption) ?_ ?_) | go_size))⟩
  case round =>
    obtain ⟨k, hk, rfl, HK, hb⟩ := hrel
    rename World => wo
    by_cases hlt : k < l.length
    · obtain ⟨x, hx⟩ := some_of_lt hlt
      obtain ⟨b1, o1, eA, hbb, hc1, hc2, hc3⟩ := (h.below hb (Nat.le_refl _)).at_3 hx
      have HX := Lib.hid hx
      have H := Lib.hid h
      subst eA
      clear hx h
      rcases i1 : inB x.1 0 800
      · go_wp2_with (go_at_call 107; refine (spec_l1In _ _ _ _).mono ?_; rintro e w' ⟨rfl, rfl⟩)
        go_ret
        refine ⟨ret_bool ?_, by (repeat' (first | (with_reducible exact Below.refl _ _) | (with_reducible assumption) | (with_reducible refine below_drewN ?_ _) | (with_reducible refine Below.drew ?_) | (with_reducible refine below_alloc ?_ _) | (with_reducible refine Below.alloc ?_ ?_ _) | (with_reducible refine Below.setCell ?_ ?_ _) | (with_reducible refine below_go ?_ (by with_reducible assumption)) | (with_reducible refine below_then (by with_reducible assumption) ?_ ?_) | go_size))⟩
        rw [E.out, all_bad hlt (okB_out HX.out (by simp [inBlow, i1]))]
      rcases i2 : inB x.2.1 1 n
      · go_wp2_with (go_at_call 107; refine (spec_l1In _ _ _ _).mono ?_; rintro e w' ⟨rfl, rfl⟩)
        go_ret
        refine ⟨ret_bool ?_, by (repeat' (first | (with_reducible exact Below.refl _ _) | (with_reducible assumption) | (with_reducible refine below_drewN ?_ _) | (with_reducible refine Below.drew ?_) | (with_reducible refine below_alloc ?_ _) | (with_reducible refine Below.alloc ?_ ?_ _) | (with_reducible refine Below.setCell ?_ ?_ _) | (with_reducible refine below_go ?_ (by with_reducible assumption)) | (with_reducible refine below_then (by with_reducible assumption) ?_ ?_) | go_size))⟩
        rw [E.out, all_bad hlt (okB_out HX.out (by simp [inBlow, i1, i2]))]
      rcases i3 : inB x.2.2 0 1000000
      · go_wp2_with (go_at_call 107; refine (spec_l1In _ _ _ _).mono ?_; rintro e w' ⟨rfl, rfl⟩)
        go_ret
        refine ⟨ret_bool ?_, by (repeat' (first | (with_reducible exact Below.refl _ _) | (with_reducible assumption) | (with_reducible refine below_drewN ?_ _) | (with_reducible refine Below.drew ?_) | (with_reducible refine below_alloc ?_ _) | (with_reducible refine Below.alloc ?_ ?_ _) | (with_reducible refine Below.setCell ?_ ?_ _) | (with_reducible refine below_go ?_ (by with_reducible assumption)) | (with_reducible refine below_then (by with_reducible assumption) ?_ ?_) | go_size))⟩
        rw [E.out, all_bad hlt (okB_out HX.out (by simp [inBlow, i1, i2, i3]))]
      have hkc : k ≤ c := by omega
      have hkI : (k : Int) ≤ (c : Int) := by omega
      go_wp2_with (go_at_call 107; refine (spec_l1In _ _ _ _).mono ?_; rintro e w' ⟨rfl, rfl⟩)
      obtain ⟨W1, hW1⟩ : ∃ u, u = wo.alloc (.cells #[.int .i64 x.1, .int .i64 x.2.1, .int .i64 x.2.2] 97) := ⟨_, rfl⟩
      have BX := Box.at_ wo [.int .i64 x.1, .int .i64 x.2.1, .int .i64 x.2.2] 97 (b := wo.heap.size) rfl
      have hbW : Below w.heap.size w W1 := by rw [hW1]; exact hb.alloc hb.size _
      have szW : W1.heap.size = wo.heap.size + 1 := by rw [hW1]; simp
      rw [← hW1] at BX ⊢
      clear hW1
      have HBX := Lib.hid BX
      clear BX hc1 hc2 hc3
      go_loopw [37] (fun i wr => ∃ t : Nat, t ≤ k ∧ i = .int .i64 t ∧ Hid ((l.take t).any (sameAt x) = false) ∧ Below W1.heap.size W1 wr) (fun i _ => k - (intOf i).toNat)
      case atStart => exact ⟨0, Nat.zero_le _, rfl, Lib.hid rfl, by (repeat' (first | (with_reducible exact Below.refl _ _) | (with_reducible assumption) | (with_reducible refine below_drewN ?_ _) | (with_reducible refine Below.drew ?_) | (with_reducible refine below_alloc ?_ _) | (with_reducible refine Below.alloc ?_ ?_ _) | (with_reducible refine Below.setCell ?_ ?_ _) | (with_reducible refine below_go ?_ (by with_reducible assumption)) | (with_reducible refine below_then (by with_reducible assumption) ?_ ?_) | go_size))⟩
      case round =>
        obtain ⟨t, ht, rfl, HT, hb2⟩ := hrel
        have BX := HBX.out.up hb2
        have c0 := BX 0 _ rfl; have c1 := BX 1 _ rfl
        have hbw := hbW.trans (hb2.mono hbW.size)
        have lb := World.block_lt_of_cell? _ _ c0
        clear BX
        by_cases htk : t < k
        · obtain ⟨y, hy⟩ := some_of_lt (l := l) (k := t) (by omega)
          obtain ⟨b2, o2, e, hb2b, d1, d2, d3⟩ := (H.out.below hbw (Nat.le_refl _)).at_3 hy
          injection e with e; injection e with e e'; subst e e'
          have AS := Lib.hid (any_take_succ (x := x) hy)
          clear hy
          have ES : Hid (sameAt x y = (x.1 == y.1 && x.2.1 == y.2.1)) := rfl
          rcases s1 : (x.1 == y.1)
          · go_wp2
            go_roundw
            case rel => exact ⟨t + 1, by omega, by go_num, Lib.hid (by rw [AS.out, HT.out, ES.out, s1]; rfl), by (repeat' (first | (with_reducible exact Below.refl _ _) | (with_reducible assumption) | (with_reducible refine below_drewN ?_ _) | (with_reducible refine Below.drew ?_) | (with_reducible refine below_alloc ?_ _) | (with_reducible refine Below.alloc ?_ ?_ _) | (with_reducible refine Below.setCell ?_ ?_ _) | (with_reducible refine below_go ?_ (by with_reducible assumption)) | (with_reducible refine below_then (by with_reducible assumption) ?_ ?_) | go_size))⟩
            case measure => simp [intOf]; omega
          rcases s2 : (x.2.1 == y.2.1)
          · go_wp2
            go_roundw
            case rel => exact ⟨t + 1, by omega, by go_num, Lib.hid (by rw [AS.out, HT.out, ES.out, s1, s2]; rfl), by (repeat' (first | (with_reducible exact Below.refl _ _) | (with_reducible assumption) | (with_reducible refine below_drewN ?_ _) | (with_reducible refine Below.drew ?_) | (with_reducible refine below_alloc ?_ _) | (with_reducible refine Below.alloc ?_ ?_ _) | (with_reducible refine Below.setCell ?_ ?_ _) | (with_reducible refine below_go ?_ (by with_reducible assumption)) | (with_reducible refine below_then (by with_reducible assumption) ?_ ?_) | go_size))⟩
            case measure => simp [intOf]; omega
          · go_wp2
            go_ret
            refine ⟨ret_bool ?_, by (repeat' (first | (with_reducible exact Below.refl _ _) | (with_reducible assumption) | (with_reducible refine below_drewN ?_ _) | (with_reducible refine Below.drew ?_) | (with_reducible refine below_alloc ?_ _) | (with_reducible refine Below.alloc ?_ ?_ _) | (with_reducible refine Below.setCell ?_ ?_ _) | (with_reducible refine below_go ?_ (by with_reducible assumption)) | (with_reducible refine below_then (by with_reducible assumption) ?_ ?_) | go_size))⟩
            rw [E.out, all_bad hlt (okB_twice HX.out ?_)]
            rw [List.any_eq_true]
            have : (l.take (t + 1)).any (sameAt x) = true := by rw [AS.out, ES.out, s1, s2]; simp
            obtain ⟨z, hz, hzs⟩ := List.any_eq_true.1 this
            exact ⟨z, List.mem_of_mem_take (i := t + 1) (by rw [List.take_take, Nat.min_eq_left (by omega)]; exact hz), hzs⟩
        · obtain rfl : t = k := by omega
          go_wp2
          go_roundw
          case rel => exact ⟨t + 1, by omega, by go_num, Lib.hid (upto_succ HK.out (okB_t HX.out (by simp [inBlow, i1, i2, i3]) HT.out)), hbw⟩
          case measure => simp [intOf]; omega
    · have e1 := Lib.hid (show goodBlows n l = (inB n 3 8 && decide (l.length ≤ 400)) by rw [E.out, all_good (fun j hj => HK.out j (by omega))])
      rcases h1 : inB n 3 8
      · go_wp2_with (go_at_call 107; refine (spec_l1In _ _ _ _).mono ?_; rintro e w' ⟨rfl, rfl⟩)
        go_ret
        exact ⟨ret_bool (by rw [e1.out, h1]; rfl), hb⟩
      · go_wp2_with (go_at_call 107; refine (spec_l1In _ _ _ _).mono ?_; rintro e w' ⟨rfl, rfl⟩)
        go_ret
        exact ⟨ret_bool (by rw [e1.out, h1]; simp <;> omega), hb⟩
theorem spec_GoodBlows {A : Option Addr} {m c : Nat} {n : Int} {l : List Blow3} {w : World} (hm : l.length = m) (h : Recs blowE 3 w A l) (hz : m ≤ 16777216) (hcap : m ≤ c) (hcb : c ≤ 16777216) :
    Calls Try.prog 25 #[.int .i64 n, .slice A m c] w fun e w' => e = .returned (.bool (goodBlows n l)) ∧ Below w.heap.size w w' := by
  go_in
  go_wp2_with (go_at_call 71; refine (spec_l23Good hm h hz hcap hcb).mono ?_; rintro e w' ⟨rfl, hb⟩)
  go_ret
  exact ⟨rfl, hb⟩
end Go.Proofs.Ytcpfcgcdahhnjaa
