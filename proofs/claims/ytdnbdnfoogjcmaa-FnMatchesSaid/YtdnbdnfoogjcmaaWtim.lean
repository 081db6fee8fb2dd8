/- The walk through the generator of times. -/
import Derived.Test.YtdnbdnfoogjcmaaWcur
namespace Go.Proofs.Ytdnbdnfoogjcmaa
set_option linter.unusedVariables false
set_option linter.unusedSimpArgs false
open Go.ChangeShapes Go.WideShapes Go.ChangeAt Go.RowKit Go.Deep
theorem wpList_append_rec2 {P : Program} {α : Type} {e : α → List Value} {s bytes : Nat} {t E : TypeId} {z : Value} (he : ElemOk P t E z s bytes) {ops : Array Oper} {rest : List Oper} {o : Oper} {a : Act} {Q : Exit → Act → World → Prop} {W : World}
    (hgd : o.guard = none) (S X : Operand) (ho : o.op = .call { callee := .builtin .append, args := #[S, X], argTypes := #[t, t] })
    {base : Nat} {A : Option Addr} {n c : Nat} {l : List α} (hs : a.eval S = .slice A n c) (hown : Owned e s E W base A n c l) (x : α) {b cx : Nat} (hx : a.eval X = .slice (some ⟨b, 0, none⟩) 1 cx)
    (hnew : Box W b (e x)) (h1 : ∀ u ∈ e x, u.oneCell' = true) (hn : n ≤ 16777216) (hby : bytes ≤ 4096) (hbase : base ≤ W.heap.size)
    (h : ∀ A' c' w', Owned e s E w' base A' (n + 1) c' (l ++ [x]) → W.grownBy w' (Value.slice A n c).ownBlock → (∀ k, (Value.slice A' (n + 1) c').ownBlock = some k → (Value.slice A n c).ownBlock = some k ∨ W.heap.size ≤ k) → wpList P ops Q rest (a.put o.dst (.slice A' (n + 1) c')) w') :
    wpList P ops Q (o :: rest) a W := by
  obtain ⟨i0, hi, hz0, hz1, hz2⟩ := info_parts he.info
  refine wpList_append_lies W hgd S X t ho base E i0 z s bytes he.under hi hz0 hz1 hz2 he.zs he.pos _ n _ hs hown.2.2 ⟨b, 0, none⟩ 1 cx (e x) hx (by rw [hown.1]; omega)
    (fun j u hu => by rw [Go.WideShapes.add_plain, Nat.zero_add]; exact hnew j u hu) h1 (by omega) (by unfold maxLen; omega) ?_ hbase W.heap.size rfl ?_
  · exact Nat.le_trans (Nat.mul_le_mul (show n + 1 ≤ 16777217 by omega) hby) (by decide)
  · intro g cap w' hown' hg hl _
    have ho' : Owned e s E w' base (some ⟨g, 0, none⟩) (n + 1) cap (l ++ [x]) := ⟨hown.1, by simp [hown.2.1], by simpa using hown'⟩
    refine h _ _ w' ho' hg fun k hk => ?_
    injection hk with hk
    dsimp only at hk
    subst hk
    rcases hl with hl | hl
    · exact .inl hl
    · exact .inr (by omega)
theorem grow_own {w u v : World} {r row : Option Nat} (h : w.grownBy u r) (hg : u.grownBy v row) (hrow : ∀ k, row = some k → w.heap.size ≤ k) : w.grownBy v r :=
  ⟨hg.os.trans h.os, hg.tape.trans h.tape, hg.output.trans h.output, Nat.le_trans h.size hg.size, fun i hi hne => (hg.block i (Nat.lt_of_lt_of_le hi h.size) (fun e => by have := hrow i e.symm; omega)).trans (h.block i hi hne)⟩
/-- Two lists that are being made, in blocks of their own; but for block p nothing that stood before has turned. -/
structure TL (w wr : World) (p : Nat) (A1 : Option Addr) (n1 c1 : Nat) (l1 : List Int) (A2 : Option Addr) (n2 c2 : Nat) (l2 : List Int) : Prop where
  own1 : Owned intE 1 3 wr w.heap.size A1 n1 c1 l1
  own2 : Owned intE 1 3 wr w.heap.size A2 n2 c2 l2
  two : ∀ k, (Value.slice A1 n1 c1).ownBlock = some k → (Value.slice A2 n2 c2).ownBlock ≠ some k
  gr : w.grownBy wr (some p)
section
variable {w wr wv : World} {p : Nat} {A1 A2 A' : Option Addr} {n1 c1 n2 c2 c' : Nat} {l1 l2 : List Int} {x : Int}
theorem TL.grown (h : TL w wr p A1 n1 c1 l1 A2 n2 c2 l2) (hp : p < w.heap.size) (hg : wr.grownBy wv (some p)) : TL w wv p A1 n1 c1 l1 A2 n2 c2 l2 :=
  ⟨h.own1.kept hg (fun k hk e => by have := (h.own1.blk hk).1; injection e with e; omega), h.own2.kept hg (fun k hk e => by have := (h.own2.blk hk).1; injection e with e; omega), h.two, grownBy_trans h.gr hg⟩
theorem TL.alloc (h : TL w wr p A1 n1 c1 l1 A2 n2 c2 l2) (o : Obj) : TL w (wr.alloc o) p A1 n1 c1 l1 A2 n2 c2 l2 :=
  ⟨h.own1.alloc o, h.own2.alloc o, h.two, grownBy_trans h.gr (World.grownBy_alloc _ _ _)⟩
theorem TL.app1 (h : TL w wr p A1 n1 c1 l1 A2 n2 c2 l2) (ho : Owned intE 1 3 wv w.heap.size A' (n1 + 1) c' (l1 ++ [x])) (hg : wr.grownBy wv (Value.slice A1 n1 c1).ownBlock)
    (hl : ∀ k, (Value.slice A' (n1 + 1) c').ownBlock = some k → (Value.slice A1 n1 c1).ownBlock = some k ∨ wr.heap.size ≤ k) : TL w wv p A' (n1 + 1) c' (l1 ++ [x]) A2 n2 c2 l2 :=
  ⟨ho, h.own2.kept hg (fun k hk e => h.two k e hk), fun k hk hk2 => by
    rcases hl k hk with h1 | h1
    · exact h.two k h1 hk2
    · have := (h.own2.blk hk2).2; omega, grow_own h.gr hg (fun k e => (h.own1.blk e).1)⟩
theorem TL.app2 (h : TL w wr p A1 n1 c1 l1 A2 n2 c2 l2) (ho : Owned intE 1 3 wv w.heap.size A' (n2 + 1) c' (l2 ++ [x])) (hg : wr.grownBy wv (Value.slice A2 n2 c2).ownBlock)
    (hl : ∀ k, (Value.slice A' (n2 + 1) c').ownBlock = some k → (Value.slice A2 n2 c2).ownBlock = some k ∨ wr.heap.size ≤ k) : TL w wv p A1 n1 c1 l1 A' (n2 + 1) c' (l2 ++ [x]) :=
  ⟨h.own1.kept hg (fun k hk e => h.two k hk e), ho, fun k hk hk2 => by
    rcases hl k hk2 with h1 | h1
    · exact h.two k hk h1
    · have := (h.own1.blk hk).2; omega, grow_own h.gr hg (fun k e => (h.own2.blk e).1)⟩
end
theorem Cur.app {wr wv : World} {p : Nat} {A B : Option Addr} {n c a m d base : Nat} {l : List Int} (h : Cur wr p A n c a) (ho : Owned intE 1 3 wr base B m d l) (hp : p < base) (hg : wr.grownBy wv (Value.slice B m d).ownBlock) : Cur wv p A n c a :=
  h.grown hg (fun e => by have := (ho.blk e.symm).1; omega)
set_option maxHeartbeats 2000000 in
set_option maxRecDepth 100000 in
theorem cur_times {A : Option Addr} {n c a p : Nat} {w0 w : World} (hS : Src w0 A n) (hb : Below w0.heap.size w0 w) (hp : w0.heap.size ≤ p) (hc : Cur w p A n c a) (ha : a ≤ 1000000) :
    Calls Try.prog 51 #[.pointer (some ⟨p, 0, none⟩)] w fun e w' => ∃ A1 n1 c1 l1 A2 n2 c2 l2, e = .returned (.tuple #[.slice A1 n1 c1, .slice A2 n2 c2]) ∧ n1 ≤ 7 ∧ n2 ≤ 14 ∧ TL w w' p A1 n1 c1 l1 A2 n2 c2 l2 ∧ Cur w' p A n c (a + 100) := by
  have hpw := hc.lt
  have T0 : TL w w p none 0 0 [] none 0 0 [] := ⟨Owned.nil intE_len _ _ _, Owned.nil intE_len _ _ _, fun k hk => (by cases hk), grown_any (Below.refl _ _) _⟩
  have G : Hid (∀ u : World, w.grownBy u (some p) → Below w0.heap.size w0 u) := Lib.hid (fun u hg => grown_below hb hp hg)
  go_in
  go_wp2_with fail
  refine (cur_pick hS hb hp hc (by omega) (by omega) (by omega)).mono ?_; rintro e w1 ⟨t, rfl, ⟨t0, t1⟩, hc1, hg1⟩
  have T1 := T0.grown hpw hg1
  go_wp2_with fail
  refine (cur_pick hS (G.out _ T1.gr) hp hc1 (by omega) (by omega) (by omega)).mono ?_; rintro e w2 ⟨q0, rfl, ⟨q00, q01⟩, hc2, hg2⟩
  have T2 := T1.grown hpw hg2
  obtain ⟨Q, rfl⟩ := Int.eq_ofNat_of_zero_le q00
  have hQ : Q ≤ 6 := by omega
  go_wp2
  go_loopw [4, 5, 6, 7] (fun va vb vt vn wr => ∃ (q : Nat) (t : Int) (A1 : Option Addr) (n1 c1 : Nat) (l1 : List Int) (A2 : Option Addr) (n2 c2 : Nat) (l2 : List Int), q ≤ 6 ∧ vn = .int .i64 q ∧ vt = .int .i64 t ∧ 0 ≤ t ∧ t ≤ 50 + 200 * (6 - (q : Int)) ∧ va = .slice A1 n1 c1 ∧ vb = .slice A2 n2 c2 ∧ n1 + q ≤ 6 ∧ n2 + 2 * q ≤ 12 ∧ TL w wr p A1 n1 c1 l1 A2 n2 c2 l2 ∧ Cur wr p A n c (a + 2 + 10 * (6 - q))) (fun _ _ _ vn _ => (intOf vn).toNat)
  case atStart => exact ⟨Q, t, none, 0, 0, [], none, 0, 0, [], hQ, rfl, rfl, by omega, by omega, rfl, rfl, by omega, by omega, T2, hc2.mono (by omega)⟩
  case round =>
    obtain ⟨q, t, A1, n1, c1, l1, A2, n2, c2, l2, hq, rfl, rfl, ht0, ht1, rfl, rfl, hn1, hn2, T3, hc3⟩ := hrel
    rename World => wo
    by_cases hq0 : 0 < q
    · have hqI : (0 : Int) < (q : Int) := by omega
      go_wp2_with fail
      refine (cur_pick hS (G.out _ T3.gr) hp hc3 (by omega) (by omega) (by omega)).mono ?_; rintro e w4 ⟨d, rfl, ⟨d0, d1⟩, hc4, hg4⟩
      have T4 := T3.grown hpw hg4
      have td : 0 ≤ t + (100 + d) ∧ t + (100 + d) ≤ 50 + 200 * (6 - ((q - 1 : Nat) : Int)) := by omega
      obtain ⟨t', ht'⟩ : ∃ t', t' = t + (100 + d) := ⟨_, rfl⟩
      rw [← ht'] at td
      have sz4 := T4.gr.size
      go_wp2_with (first | (at_builtin; go_must ((refine wpList_append_rec2 Try.elInt rfl (.tmp 21) (.tmp 23) rfl rfl (T4.own1.alloc _) (t + (100 + d)) rfl (Box.at_ _ [.int .i64 (t + (100 + d))] _ ?_) (intE_one _) ?_ (by decide) ?_ ?_; (focus (first | omega | (simp only [World.size_alloc]; done) | (simp only [World.size_alloc]; omega) | (simp; done) | (simp; omega))); (focus (first | omega | (simp only [World.size_alloc]; done) | (simp only [World.size_alloc]; omega) | (simp; done) | (simp; omega))); (focus (first | omega | (simp only [World.size_alloc]; done) | (simp only [World.size_alloc]; omega) | (simp; done) | (simp; omega))); intro A5 c5 w5 ho5 hg5 hl5))))
      rw [← ht'] at ho5 ⊢
      have T5 := (T4.alloc (.cells #[.int .i64 (t + (100 + d))] 3)).app1 ho5 hg5 hl5
      have hc5 := (hc4.up ((Below.refl _ _).alloc (Nat.le_refl _) (.cells #[.int .i64 (t + (100 + d))] 3))).app (T4.alloc (.cells #[.int .i64 (t + (100 + d))] 3)).own1 hpw hg5
      clear ht' T4 hg5 hl5 ho5
      refine (cur_one hS (G.out _ T5.gr) hp hc5 (by omega) (by omega) (by omega)).mono ?_; rintro e w6 ⟨b1, rfl, hc6, hg6⟩
      have T6 := T5.grown hpw hg6
      have sz6 := T6.gr.size
      have lt6 := hc6.lt
      rcases b1
      · have hlit := lit_ints w6 3 [0, 5, -5, 20, -20, 60]
        have T7 := T6.alloc (.cells ⟨[0, 5, -5, 20, -20, 60].map fun x => Value.int .i64 x⟩ 3)
        have hc7 := hc6.up ((Below.refl _ _).alloc (Nat.le_refl _) (.cells ⟨[0, 5, -5, 20, -20, 60].map fun x => Value.int .i64 x⟩ 3))
        go_wp2_with fail
        refine (cur_among hS (G.out _ T7.gr) hp hc7 (by omega) rfl hlit (by decide) (by decide) (fun b o e => by injection e with e; injection e with e; omega)).mono ?_; rintro e w8 ⟨x, hx, rfl, hc8, hg8⟩
        have T8 := T7.grown hpw hg8
        have sz8 := T8.gr.size
        have xb : -100 ≤ x ∧ x ≤ 100 := by
          simp only [List.mem_cons, List.not_mem_nil, or_false] at hx; omega
        clear hx hlit
        go_wp2_with (first | (at_builtin; go_must ((refine wpList_append_rec2 Try.elInt rfl (.tmp 28) (.tmp 34) rfl rfl (T8.own2.alloc _) (t' + x) rfl (Box.at_ _ [.int .i64 (t' + x)] _ ?_) (intE_one _) ?_ (by decide) ?_ ?_; (focus (first | omega | (simp only [World.size_alloc]; done) | (simp only [World.size_alloc]; omega) | (simp; done) | (simp; omega))); (focus (first | omega | (simp only [World.size_alloc]; done) | (simp only [World.size_alloc]; omega) | (simp; done) | (simp; omega))); (focus (first | omega | (simp only [World.size_alloc]; done) | (simp only [World.size_alloc]; omega) | (simp; done) | (simp; omega))); intro A9 c9 w9 ho9 hg9 hl9))))
        have T9 := (T8.alloc (.cells #[.int .i64 (t' + x)] 3)).app2 ho9 hg9 hl9
        have hc9 := (hc8.up ((Below.refl _ _).alloc (Nat.le_refl _) (.cells #[.int .i64 (t' + x)] 3))).app (T8.alloc (.cells #[.int .i64 (t' + x)] 3)).own2 hpw hg9
        refine (cur_one hS (G.out _ T9.gr) hp hc9 (by omega) (by omega) (by omega)).mono ?_; rintro e w10 ⟨b2, rfl, hc10, hg10⟩
        have T10 := T9.grown hpw hg10
        have sz10 := T10.gr.size
        rcases b2
        · go_wp2
          go_roundw
          case rel => exact ⟨q - 1, t', A5, n1 + 1, c5, _, A9, (n2 + 1), c9, _, by omega, by (rw [show ((q - 1 : Nat) : Int) = (q : Int) - 1 by omega]), rfl, td.1, td.2, by go_num, by go_num, by omega, by omega, T10, hc10.mono (by omega)⟩
          case measure => simp [intOf]; omega
        · go_wp2_with (first | (at_builtin; go_must ((refine wpList_append_rec2 Try.elInt rfl (.tmp 38) (.tmp 41) rfl rfl (T10.own2.alloc _) (t' + 70) rfl (Box.at_ _ [.int .i64 (t' + 70)] _ ?_) (intE_one _) ?_ (by decide) ?_ ?_; (focus (first | omega | (simp only [World.size_alloc]; done) | (simp only [World.size_alloc]; omega) | (simp; done) | (simp; omega))); (focus (first | omega | (simp only [World.size_alloc]; done) | (simp only [World.size_alloc]; omega) | (simp; done) | (simp; omega))); (focus (first | omega | (simp only [World.size_alloc]; done) | (simp only [World.size_alloc]; omega) | (simp; done) | (simp; omega))); intro A11 c11 w11 ho11 hg11 hl11))))
          have T11 := (T10.alloc (.cells #[.int .i64 (t' + 70)] 3)).app2 ho11 hg11 hl11
          have hc11 := (hc10.up ((Below.refl _ _).alloc (Nat.le_refl _) (.cells #[.int .i64 (t' + 70)] 3))).app (T10.alloc (.cells #[.int .i64 (t' + 70)] 3)).own2 hpw hg11
          go_wp2
          go_roundw
          case rel => exact ⟨q - 1, t', A5, n1 + 1, c5, _, A11, (n2 + 1) + 1, c11, _, by omega, by (rw [show ((q - 1 : Nat) : Int) = (q : Int) - 1 by omega]), rfl, td.1, td.2, by go_num, by go_num, by omega, by omega, T11, hc11.mono (by omega)⟩
          case measure => simp [intOf]; omega
      · go_wp2_with fail
        refine (cur_one hS (G.out _ T6.gr) hp hc6 (by omega) (by omega) (by omega)).mono ?_; rintro e w10 ⟨b2, rfl, hc10, hg10⟩
        have T10 := T6.grown hpw hg10
        have sz10 := T10.gr.size
        rcases b2
        · go_wp2
          go_roundw
          case rel => exact ⟨q - 1, t', A5, n1 + 1, c5, _, A2, n2, c2, _, by omega, by (rw [show ((q - 1 : Nat) : Int) = (q : Int) - 1 by omega]), rfl, td.1, td.2, by go_num, by go_num, by omega, by omega, T10, hc10.mono (by omega)⟩
          case measure => simp [intOf]; omega
        · go_wp2_with (first | (at_builtin; go_must ((refine wpList_append_rec2 Try.elInt rfl (.tmp 38) (.tmp 41) rfl rfl (T10.own2.alloc _) (t' + 70) rfl (Box.at_ _ [.int .i64 (t' + 70)] _ ?_) (intE_one _) ?_ (by decide) ?_ ?_; (focus (first | omega | (simp only [World.size_alloc]; done) | (simp only [World.size_alloc]; omega) | (simp; done) | (simp; omega))); (focus (first | omega | (simp only [World.size_alloc]; done) | (simp only [World.size_alloc]; omega) | (simp; done) | (simp; omega))); (focus (first | omega | (simp only [World.size_alloc]; done) | (simp only [World.size_alloc]; omega) | (simp; done) | (simp; omega))); intro A11 c11 w11 ho11 hg11 hl11))))
          have T11 := (T10.alloc (.cells #[.int .i64 (t' + 70)] 3)).app2 ho11 hg11 hl11
          have hc11 := (hc10.up ((Below.refl _ _).alloc (Nat.le_refl _) (.cells #[.int .i64 (t' + 70)] 3))).app (T10.alloc (.cells #[.int .i64 (t' + 70)] 3)).own2 hpw hg11
          go_wp2
          go_roundw
          case rel => exact ⟨q - 1, t', A5, n1 + 1, c5, _, A11, n2 + 1, c11, _, by omega, by (rw [show ((q - 1 : Nat) : Int) = (q : Int) - 1 by omega]), rfl, td.1, td.2, by go_num, by go_num, by omega, by omega, T11, hc11.mono (by omega)⟩
          case measure => simp [intOf]; omega
    · obtain rfl : q = 0 := by omega
      by_cases hn : 0 < n1
      · have hnI : (0 : Int) < (n1 : Int) := by omega
        go_wp2_with fail
        refine (cur_one hS (G.out _ T3.gr) hp hc3 (by omega) (by omega) (by omega)).mono ?_; rintro e w4 ⟨b1, rfl, hc4, hg4⟩
        have T4 := T3.grown hpw hg4
        have lt4 := hc4.lt
        rcases b1
        · go_wp2
          go_ret2
          exact ⟨A1, n1, c1, l1, A2, n2, c2, l2, rfl, by omega, by omega, T4, hc4.mono (by omega)⟩
        · have hlit := lit_ints w4 3 [-1, 1000001, 5000]
          have T5 := T4.alloc (.cells ⟨[-1, 1000001, 5000].map fun x => Value.int .i64 x⟩ 3)
          have hc5 := hc4.up ((Below.refl _ _).alloc (Nat.le_refl _) (.cells ⟨[-1, 1000001, 5000].map fun x => Value.int .i64 x⟩ 3))
          go_wp2_with fail
          refine (cur_among hS (G.out _ T5.gr) hp hc5 (by omega) rfl hlit (by decide) (by decide) (fun b o e => by injection e with e; injection e with e; omega)).mono ?_; rintro e w6 ⟨x, hx, rfl, hc6, hg6⟩
          have T6 := T5.grown hpw hg6
          obtain ⟨y, hy⟩ := some_of_lt (l := l1) (k := 0) (by rw [T6.own1.len]; exact hn)
          obtain ⟨g, rfl, _, lg, hcell, hfz⟩ := T6.own1.at_ hn
          have old0 := hcell 0 y 0 _ hy rfl
          have fz0 := hfz (0 * 1 + 0)
          simp only [Nat.mul_one, Nat.add_zero, Nat.zero_mul] at old0 fz0
          have pt := T6.own1.put (j := 0) (x := x) (u := .int .i64 x) hy (by decide) rfl
          simp only [Nat.mul_one, Nat.add_zero, Nat.zero_mul] at pt
          have lb := (T6.own1.blk (k := g) rfl)
          have T7 : TL w (w6.setCell ⟨g, 0, none⟩ (.int .i64 x)) p (some ⟨g, 0, none⟩) n1 c1 (l1.set 0 x) A2 n2 c2 l2 := ⟨pt.1, T6.own2.kept pt.2 (fun k hk e => T6.two g rfl (by injection e with e; rw [← e] at hk; exact hk)), T6.two, grow_own T6.gr pt.2 (fun k e => by injection e with e; omega)⟩
          have hc7 : Cur (w6.setCell ⟨g, 0, none⟩ (.int .i64 x)) p A n c (a + 2 + 10 * (6 - 0) + 1 + 1) := hc6.grown pt.2 (fun e => by injection e with e; omega)
          clear hcell hfz hy hlit hx pt
          go_wp2
          go_ret2
          exact ⟨_, n1, c1, _, A2, n2, c2, l2, rfl, by omega, by omega, T7, hc7.mono (by omega)⟩
      · obtain rfl : n1 = 0 := by omega
        go_wp2
        go_ret2
        exact ⟨A1, 0, c1, l1, A2, n2, c2, l2, rfl, by omega, by omega, T3, hc3.mono (by omega)⟩
end Go.Proofs.Ytdnbdnfoogjcmaa
