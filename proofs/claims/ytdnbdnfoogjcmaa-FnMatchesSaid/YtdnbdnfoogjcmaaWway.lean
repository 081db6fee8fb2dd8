/- The walks through the generators of alignments and of arguments for the best match. -/
import Derived.Test.YtdnbdnfoogjcmaaWtim
import Derived.Test.YtdnbdnfoogjcmaaW22d
import Derived.Test.YtdnbdnfoogjcmaaP22l
namespace Go.Proofs.Ytdnbdnfoogjcmaa
set_option linter.unusedVariables false
set_option linter.unusedSimpArgs false
open Go.ChangeShapes Go.WideShapes Go.ChangeAt Go.RowKit Go.Deep
set_option maxHeartbeats 2000000 in
set_option maxRecDepth 100000 in
theorem cur_way {A : Option Addr} {n c a p N M : Nat} {w0 w : World} (hS : Src w0 A n) (hb : Below w0.heap.size w0 w) (hp : w0.heap.size ≤ p) (hc : Cur w p A n c a) (ha : a ≤ 1000000) (hN : N ≤ 1000) (hM : M ≤ 1000) :
    Calls Try.prog 34 #[.pointer (some ⟨p, 0, none⟩), .int .i64 N, .int .i64 M] w fun e w' => ∃ A1 n1 c1 l1, e = .returned (.slice A1 n1 c1) ∧ n1 ≤ 1000 ∧ (∀ x ∈ l1, -1000 ≤ x ∧ x ≤ 2000) ∧ TL w w' p A1 n1 c1 l1 none 0 0 [] ∧ Cur w' p A n c (a + 10000) := by
  have hpw := hc.lt
  have T0 : TL w w p none 0 0 [] none 0 0 [] := ⟨Owned.nil intE_len _ _ _, Owned.nil intE_len _ _ _, fun k hk => (by cases hk), grown_any (Below.refl _ _) _⟩
  have G : Hid (∀ u : World, w.grownBy u (some p) → Below w0.heap.size w0 u) := Lib.hid (fun u hg => grown_below hb hp hg)
  go_in
  go_wp2
  go_loopw [7, 8, 9] (fun va vl vk wr => ∃ (k : Nat) (last : Int) (A1 : Option Addr) (c1 : Nat) (l1 : List Int), k ≤ N ∧ vk = .int .i64 k ∧ vl = .int .i64 last ∧ -1 ≤ last ∧ last ≤ 1000 ∧ va = .slice A1 k c1 ∧ Hid (∀ x ∈ l1, -1000 ≤ x ∧ x ≤ 2000) ∧ TL w wr p A1 k c1 l1 none 0 0 [] ∧ Cur wr p A n c (a + 3 * k)) (fun _ _ vk _ => N - (intOf vk).toNat)
  case atStart => exact ⟨0, -1, none, 0, [], Nat.zero_le _, rfl, rfl, by omega, by omega, rfl, Lib.hid (fun x hx => by cases hx), T0, hc.mono (by omega)⟩
  case round =>
    obtain ⟨k, last, A1, c1, l1, hk, rfl, rfl, hl0, hl1, rfl, HL, T3, hc3⟩ := hrel
    rename World => wo
    by_cases hlt : k < N
    · have hI : (k : Int) < (N : Int) := by omega
      go_wp2_with fail
      refine (cur_pick hS (G.out _ T3.gr) hp hc3 (by omega) (by omega) (by omega)).mono ?_; rintro e w4 ⟨d, rfl, ⟨d0, d1⟩, hc4, hg4⟩
      have T4 := T3.grown hpw hg4
      have sz4 := T4.gr.size
      obtain ⟨t', ht'⟩ : ∃ t', t' = last + 1 + d := ⟨_, rfl⟩
      have td : 0 ≤ t' ∧ t' ≤ 1003 := by omega
      by_cases hge : (M : Int) ≤ last + 1 + d
      · go_wp2_with (first | (at_builtin; go_must ((refine wpList_append_rec2 Try.elInt rfl (.tmp 28) (.tmp 29) rfl rfl (T4.own1.alloc _) (-1) rfl (Box.at_ _ [.int .i64 (-1)] _ ?_) (intE_one _) ?_ (by decide) ?_ ?_; (focus (first | omega | (simp only [World.size_alloc]; done) | (simp only [World.size_alloc]; omega) | (simp; done) | (simp; omega))); (focus (first | omega | (simp only [World.size_alloc]; done) | (simp only [World.size_alloc]; omega) | (simp; done) | (simp; omega))); (focus (first | omega | (simp only [World.size_alloc]; done) | (simp only [World.size_alloc]; omega) | (simp; done) | (simp; omega))); intro A5 c5 w5 ho5 hg5 hl5))))
        have T5 := (T4.alloc (.cells #[.int .i64 (-1)] 3)).app1 ho5 hg5 hl5
        have hc5 := (hc4.up ((Below.refl _ _).alloc (Nat.le_refl _) (.cells #[.int .i64 (-1)] 3))).app (T4.alloc (.cells #[.int .i64 (-1)] 3)).own1 hpw hg5
        go_roundw
        case rel => exact ⟨k + 1, last, A5, c5, _, by omega, by go_num, rfl, hl0, hl1, by go_num, Lib.hid (fun x hx => by
          rcases List.mem_append.1 hx with hx | hx
          · exact HL.out x hx
          · rw [List.mem_singleton.1 hx]; omega), T5, hc5.mono (by omega)⟩
        case measure => simp [intOf]; omega
      · go_wp2_with fail
        refine (cur_one hS (G.out _ T4.gr) hp hc4 (by omega) (by omega) (by omega)).mono ?_; rintro e w6 ⟨b1, rfl, hc6, hg6⟩
        have T6 := T4.grown hpw hg6
        have sz6 := T6.gr.size
        rcases b1
        · go_wp2_with (first | (at_builtin; go_must ((refine wpList_append_rec2 Try.elInt rfl (.tmp 31) (.tmp 33) rfl rfl (T6.own1.alloc _) (last + 1 + d) rfl (Box.at_ _ [.int .i64 (last + 1 + d)] _ ?_) (intE_one _) ?_ (by decide) ?_ ?_; (focus (first | omega | (simp only [World.size_alloc]; done) | (simp only [World.size_alloc]; omega) | (simp; done) | (simp; omega))); (focus (first | omega | (simp only [World.size_alloc]; done) | (simp only [World.size_alloc]; omega) | (simp; done) | (simp; omega))); (focus (first | omega | (simp only [World.size_alloc]; done) | (simp only [World.size_alloc]; omega) | (simp; done) | (simp; omega))); intro A5 c5 w5 ho5 hg5 hl5))))
          have T5 := (T6.alloc (.cells #[.int .i64 (last + 1 + d)] 3)).app1 ho5 hg5 hl5
          have hc5 := (hc6.up ((Below.refl _ _).alloc (Nat.le_refl _) (.cells #[.int .i64 (last + 1 + d)] 3))).app (T6.alloc (.cells #[.int .i64 (last + 1 + d)] 3)).own1 hpw hg5
          go_roundw
          case rel => exact ⟨k + 1, last + 1 + d, A5, c5, _, by omega, by go_num, rfl, by omega, by omega, by go_num, Lib.hid (fun x hx => by
            rcases List.mem_append.1 hx with hx | hx
            · exact HL.out x hx
            · rw [List.mem_singleton.1 hx]; omega), T5, hc5.mono (by omega)⟩
          case measure => simp [intOf]; omega
        · go_wp2_with (first | (at_builtin; go_must ((refine wpList_append_rec2 Try.elInt rfl (.tmp 28) (.tmp 29) rfl rfl (T6.own1.alloc _) (-1) rfl (Box.at_ _ [.int .i64 (-1)] _ ?_) (intE_one _) ?_ (by decide) ?_ ?_; (focus (first | omega | (simp only [World.size_alloc]; done) | (simp only [World.size_alloc]; omega) | (simp; done) | (simp; omega))); (focus (first | omega | (simp only [World.size_alloc]; done) | (simp only [World.size_alloc]; omega) | (simp; done) | (simp; omega))); (focus (first | omega | (simp only [World.size_alloc]; done) | (simp only [World.size_alloc]; omega) | (simp; done) | (simp; omega))); intro A5 c5 w5 ho5 hg5 hl5))))
          have T5 := (T6.alloc (.cells #[.int .i64 (-1)] 3)).app1 ho5 hg5 hl5
          have hc5 := (hc6.up ((Below.refl _ _).alloc (Nat.le_refl _) (.cells #[.int .i64 (-1)] 3))).app (T6.alloc (.cells #[.int .i64 (-1)] 3)).own1 hpw hg5
          go_roundw
          case rel => exact ⟨k + 1, last, A5, c5, _, by omega, by go_num, rfl, hl0, hl1, by go_num, Lib.hid (fun x hx => by
            rcases List.mem_append.1 hx with hx | hx
            · exact HL.out x hx
            · rw [List.mem_singleton.1 hx]; omega), T5, hc5.mono (by omega)⟩
          case measure => simp [intOf]; omega
    · obtain rfl : k = N := by omega
      by_cases hn : 0 < k
      · have hnI : (0 : Int) < (k : Int) := by omega
        go_wp2_with fail
        refine (cur_one hS (G.out _ T3.gr) hp hc3 (by omega) (by omega) (by omega)).mono ?_; rintro e w4 ⟨b1, rfl, hc4, hg4⟩
        have T4 := T3.grown hpw hg4
        have lt4 := hc4.lt
        rcases b1
        · go_wp2
          go_ret
          exact ⟨A1, k, c1, l1, rfl, by omega, HL.out, T4, hc4.mono (by omega)⟩
        · have hlit := lit_ints w4 3 [-2, 60, (M : Int)]
          have T5 := T4.alloc (.cells ⟨[-2, 60, (M : Int)].map fun x => Value.int .i64 x⟩ 3)
          have hc5 := hc4.up ((Below.refl _ _).alloc (Nat.le_refl _) (.cells ⟨[-2, 60, (M : Int)].map fun x => Value.int .i64 x⟩ 3))
          go_wp2_with fail
          refine (cur_among hS (G.out _ T5.gr) hp hc5 (by omega) rfl hlit (by simp) (by simp) (fun b o e => by injection e with e; injection e with e; omega)).mono ?_; rintro e w6 ⟨x, hx, rfl, hc6, hg6⟩
          have T6 := T5.grown hpw hg6
          have xb : -1000 ≤ x ∧ x ≤ 2000 := by
            simp only [List.mem_cons, List.not_mem_nil, or_false] at hx; omega
          obtain ⟨y, hy⟩ := some_of_lt (l := l1) (k := 0) (by rw [T6.own1.len]; exact hn)
          obtain ⟨g, rfl, _, lg, hcell, hfz⟩ := T6.own1.at_ hn
          have old0 := hcell 0 y 0 _ hy rfl
          have fz0 := hfz (0 * 1 + 0)
          simp only [Nat.mul_one, Nat.add_zero, Nat.zero_mul] at old0 fz0
          have pt := T6.own1.put (j := 0) (x := x) (u := .int .i64 x) hy (by decide) rfl
          simp only [Nat.mul_one, Nat.add_zero, Nat.zero_mul] at pt
          have lb := (T6.own1.blk (k := g) rfl)
          have T7 : TL w (w6.setCell ⟨g, 0, none⟩ (.int .i64 x)) p (some ⟨g, 0, none⟩) k c1 (l1.set 0 x) none 0 0 [] := ⟨pt.1, T6.own2.kept pt.2 (fun k hk e => (by cases hk)), T6.two, grow_own T6.gr pt.2 (fun k e => by injection e with e; omega)⟩
          have hc7 := hc6.grown pt.2 (fun e => by injection e with e; omega)
          clear hcell hfz hy hlit hx pt
          go_wp2
          go_ret
          refine ⟨_, k, c1, _, rfl, by omega, fun z hz => ?_, T7, hc7.mono (by omega)⟩
          rcases List.mem_or_eq_of_mem_set hz with hz | rfl
          · exact HL.out z hz
          · exact xb
      · obtain rfl : k = 0 := by omega
        go_wp2
        go_ret
        exact ⟨A1, 0, c1, l1, rfl, by omega, HL.out, T3, hc3.mono (by omega)⟩
theorem cur_new (w : World) (A : Option Addr) (n c : Nat) : Cur (w.alloc (.cells #[.slice A n c, .int .i64 0, .int .u64 0] 64)) w.heap.size A n c 0 :=
  ⟨0, 0, Blk.at_ w 64 [.slice A n c, .int .i64 0, .int .u64 0] rfl, Nat.le_refl _, by omega, by omega⟩
theorem draw_BestMatch {A : Option Addr} {n c : Nat} {w : World} (hS : Src w A n) :
    Calls Try.prog 18 #[.slice A n c] w fun e w' => ∃ A1 n1 c1 l1 A2 n2 c2 l2 s, e = .returned (.tuple #[.slice A1 n1 c1, .slice A2 n2 c2, .int .i64 s]) ∧ l1.length = n1 ∧ l2.length = n2 ∧ n1 ≤ 7 ∧ n2 ≤ 14 ∧ Owned intE 1 3 w' w.heap.size A1 n1 c1 l1 ∧ Owned intE 1 3 w' w.heap.size A2 n2 c2 l2 ∧ 0 ≤ s ∧ s ≤ 10001 ∧ Below w.heap.size w w' := by
  have b0 : Below w.heap.size w (w.alloc (.cells #[.slice A n c, .int .i64 0, .int .u64 0] 64)) := by (repeat' (first | (with_reducible exact Below.refl _ _) | (with_reducible assumption) | (with_reducible refine below_drewN ?_ _) | (with_reducible refine Below.drew ?_) | (with_reducible refine below_alloc ?_ _) | (with_reducible refine Below.alloc ?_ ?_ _) | (with_reducible refine Below.setCell ?_ ?_ _) | (with_reducible refine below_go ?_ (by with_reducible assumption)) | (with_reducible refine below_then (by with_reducible assumption) ?_ ?_) | go_size))
  have c0 := cur_new w A n c
  go_in
  go_wp2_with fail
  refine (cur_times hS b0 (Nat.le_refl _) c0 (by omega)).mono ?_; rintro e w1 ⟨A1, n1, c1, l1, A2, n2, c2, l2, rfl, h1, h2, T, hc1⟩
  have hB1 := grown_below b0 (Nat.le_refl _) T.gr
  go_wp2_with fail
  refine (cur_skip hS hB1 (Nat.le_refl _) hc1 (by omega)).mono ?_; rintro e w2 ⟨s, rfl, s0, s1, hc2, hg2⟩
  have T2 := T.grown c0.lt hg2
  go_wp2
  refine bodyPost_ret (v := .tuple #[.slice A1 n1 c1, .slice A2 n2 c2, .int .i64 s]) (by simp [results, Try.results18, go_sem]) rfl ?_
  exact ⟨A1, n1, c1, l1, A2, n2, c2, l2, s, rfl, T2.own1.len, T2.own2.len, h1, h2, T2.own1.base_le b0.size, T2.own2.base_le b0.size, s0, s1, grown_below hB1 (Nat.le_refl _) hg2⟩
theorem best_bd {a b : List Int} {s : Int} : ∀ x ∈ bestOf a b s, -9223372036854775808 ≤ x ∧ x ≤ 9223372036854775807 := fun x hx => by
  rcases h : askedM a b s
  · rw [(best_f h).1] at hx; cases hx
  · have h1 := (wayB_t (best_way h).1).2 x hx
    have h2 := (askedM_t h).2.1.1
    omega
set_option maxHeartbeats 1000000 in
theorem draw_CostOf {A : Option Addr} {n c : Nat} {w : World} (hS : Src w A n) :
    Calls Try.prog 6 #[.slice A n c] w fun e w' => ∃ A1 n1 c1 l1 A2 n2 c2 l2 A3 n3 c3 l3 s, e = .returned (.tuple #[.slice A1 n1 c1, .slice A2 n2 c2, .slice A3 n3 c3, .int .i64 s]) ∧ l1.length = n1 ∧ l2.length = n2 ∧ l3.length = n3 ∧ n1 ≤ 7 ∧ n2 ≤ 14 ∧ n3 ≤ 1048576 ∧ Ints w' A1 l1 ∧ Ints w' A2 l2 ∧ Ints w' A3 l3 ∧ (∀ x ∈ l3, -9223372036854775808 ≤ x ∧ x ≤ 9223372036854775807) ∧ 0 ≤ s ∧ s ≤ 10001 ∧ Below w.heap.size w w' := by
  go_in
  go_wp2_with fail
  refine (draw_BestMatch hS).mono ?_; rintro e w1 ⟨A1, n1, c1, l1, A2, n2, c2, l2, s, rfl, e1, e2, h1, h2, o1, o2, s0, s1, hB1⟩
  have r1 := o1.recs; have r2 := o2.recs
  clear o1 o2
  have b2 : Below w1.heap.size w1 (w1.alloc (.cells #[.slice A n c, .int .i64 0, .int .u64 0] 64)) := by (repeat' (first | (with_reducible exact Below.refl _ _) | (with_reducible assumption) | (with_reducible refine below_drewN ?_ _) | (with_reducible refine Below.drew ?_) | (with_reducible refine below_alloc ?_ _) | (with_reducible refine Below.alloc ?_ ?_ _) | (with_reducible refine Below.setCell ?_ ?_ _) | (with_reducible refine below_go ?_ (by with_reducible assumption)) | (with_reducible refine below_then (by with_reducible assumption) ?_ ?_) | go_size))
  have cur := cur_new w1 A n c
  have R1 := r1.up b2; have R2 := r2.up b2
  have hB2 := hB1.trans (b2.mono hB1.size)
  have ltp := cur.lt
  go_wp2_with fail
  obtain ⟨w2, hw2⟩ : ∃ u, u = w1.alloc (.cells #[.slice A n c, .int .i64 0, .int .u64 0] 64) := ⟨_, rfl⟩
  rw [← hw2] at b2 cur R1 R2 hB2 ltp ⊢
  clear hw2
  refine (spec_BestMatch e1 R1 (by omega) e2 R2 (by omega)).mono ?_; rintro e w3 ⟨A', c', rfl, ho, hn3, hb3⟩
  have hB3 := hB2.trans (hb3.mono hB2.size)
  have R1 := R1.up hb3; have R2 := R2.up hb3
  have cur := cur.up hb3
  have lb := bestGo_len l1 l2 s l1.length 0 0
  have lbest : (bestOf l1 l2 s).length ≤ 7 := by
    rcases h : askedM l1 l2 s
    · rw [(best_f h).1]; simp
    · rw [(best_t h).1, bestGo_len]; omega
  have A4 : Below w3.heap.size w3 (w3.alloc (.cells #[.slice A' (bestOf l1 l2 s).length c', .int .i64 (bestCost l1 l2 s)] 30)) := by (repeat' (first | (with_reducible exact Below.refl _ _) | (with_reducible assumption) | (with_reducible refine below_drewN ?_ _) | (with_reducible refine Below.drew ?_) | (with_reducible refine below_alloc ?_ _) | (with_reducible refine Below.alloc ?_ ?_ _) | (with_reducible refine Below.setCell ?_ ?_ _) | (with_reducible refine below_go ?_ (by with_reducible assumption)) | (with_reducible refine below_then (by with_reducible assumption) ?_ ?_) | go_size))
  have K := Blk.at_ w3 30 [.slice A' (bestOf l1 l2 s).length c', .int .i64 (bestCost l1 l2 s)] (b := w3.heap.size) rfl
  have q0 := K.cell 0; have q1 := K.cell 1
  simp only [List.getElem?_cons_zero, List.getElem?_cons_succ] at q0 q1
  have R1 := R1.up A4; have R2 := R2.up A4
  have cur := cur.up A4
  have ho4 := ho.up A4
  have hB4 := hB3.trans (A4.mono hB3.size)
  have ltw : w1.heap.size < w3.heap.size := by have := hb3.size; omega
  have B1x : Below w1.heap.size w1 (w3.alloc (.cells #[.slice A' (bestOf l1 l2 s).length c', .int .i64 (bestCost l1 l2 s)] 30)) := (b2.trans (hb3.mono b2.size)).trans (A4.mono (by have := b2.size; have := hb3.size; omega))
  have h1' := h1
  rcases hk : askedM l1 l2 s
  · go_wp2_with fail
    refine (cur_way (p := w1.heap.size) hS hB4 hB1.size cur (by omega) (by omega) (by omega)).mono ?_; rintro e w7 ⟨A5, n5, c5, l5, rfl, h5, hl5, T5, hc5⟩
    have B7 := grown_below B1x (Nat.le_refl _) T5.gr
    have HL5 := Lib.hid hl5
    clear hl5
    go_wp2
    refine bodyPost_ret (v := .tuple #[.slice A1 n1 c1, .slice A2 n2 c2, .slice A5 n5 c5, .int .i64 s]) (by simp [results, Try.results6, go_sem]) rfl ?_
    exact ⟨A1, n1, c1, l1, A2, n2, c2, l2, A5, n5, c5, l5, s, rfl, e1, e2, T5.own1.len, h1', h2, by omega, r1.up B7, r2.up B7, T5.own1.recs, fun x hx => by have := HL5.out x hx; omega, s0, s1, hB1.trans (B7.mono hB1.size)⟩
  · go_wp2_with fail
    refine (cur_one (p := w1.heap.size) hS hB4 hB1.size cur (by omega) (by omega) (by omega)).mono ?_; rintro e w5 ⟨b1, rfl, hc5, hg5⟩
    have B5 := grown_below B1x (Nat.le_refl _) hg5
    have hB5 := hB1.trans (B5.mono hB1.size)
    have K5 := K.grown hg5 (fun e => by injection e with e; omega)
    have o5 := ho4.kept hg5 (fun k hk e => by have := (ho.blk hk).1; have := hb3.size; injection e with e; omega)
    have q2 := K5.cell 0; have q3 := K5.cell 1
    simp only [List.getElem?_cons_zero, List.getElem?_cons_succ] at q2 q3
    clear q0 q1
    rcases b1
    · go_wp2_with fail
      refine (cur_way (p := w1.heap.size) hS hB5 hB1.size hc5 (by omega) (by omega) (by omega)).mono ?_; rintro e w7 ⟨A5, n5, c5, l5, rfl, h5, hl5, T5, hc6⟩
      have B7 := grown_below B5 (Nat.le_refl _) T5.gr
      have HL5 := Lib.hid hl5
      clear hl5
      go_wp2
      refine bodyPost_ret (v := .tuple #[.slice A1 n1 c1, .slice A2 n2 c2, .slice A5 n5 c5, .int .i64 s]) (by simp [results, Try.results6, go_sem]) rfl ?_
      exact ⟨A1, n1, c1, l1, A2, n2, c2, l2, A5, n5, c5, l5, s, rfl, e1, e2, T5.own1.len, h1', h2, by omega, r1.up B7, r2.up B7, T5.own1.recs, fun x hx => by have := HL5.out x hx; omega, s0, s1, hB1.trans (B7.mono hB1.size)⟩
    · go_wp2
      go_quiet (fail)
      go_wp2
      refine bodyPost_ret (v := .tuple #[.slice A1 n1 c1, .slice A2 n2 c2, .slice A' (bestOf l1 l2 s).length c', .int .i64 s]) (by simp [results, Try.results6, go_sem]) rfl ?_
      have B6 := below_drewN B5 nq
      exact ⟨A1, n1, c1, l1, A2, n2, c2, l2, A', _, c', _, s, rfl, e1, e2, rfl, h1', h2, by omega, r1.up B6, r2.up B6, (o5.drewN nq).recs, best_bd, s0, s1, hB1.trans (B6.mono hB1.size)⟩
end Go.Proofs.Ytdnbdnfoogjcmaa
