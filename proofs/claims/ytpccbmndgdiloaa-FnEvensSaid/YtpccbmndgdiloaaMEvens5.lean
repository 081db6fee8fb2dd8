/- Texts 5 of 7 that the claim leans on: plain laws and the walks' contracts, in order. -/
import Derived.Test.YtpccbmndgdiloaaMEvens4
import Derived.Lib.Strings
/- The walk through the generator of times. -/
namespace Go.Proofs.Ytpccbmndgdiloaa
set_option linter.unusedVariables false
set_option linter.unusedSimpArgs false
open Go.ChangeShapes Go.WideShapes Go.ChangeAt Go.RowKit Go.Deep
theorem wpList_append_rec2 {P : Program} {α : Type} {e : α → List Value} {s bytes : Nat} {t E : TypeId} {z : Value} (he : ElemOk P t E z s bytes) {ops : Array Oper} {rest : List Oper} {o : Oper} {a : Act} {Q : Exit → Act → World → Prop} {W : World}
    (hgd : o.guard = none) (S X : Operand) (ho : o.op = .call { callee := .builtin .append, args := #[S, X], argTypes := #[t, t] })
    {base : Nat} {A : Option Addr} {n c : Nat} {l : List α} (hs : a.eval S = .slice A n c) (hown : Owned e s E W base A n c l) (x : α) {b cx : Nat} (hx : a.eval X = .slice (some ⟨b, 0, none⟩) 1 cx)
    (hnew : Box W b (e x)) (h1 : ∀ u ∈ e x, u.oneCell' = true) (hn : n ≤ 16777216) (hby : bytes ≤ 4096) (hbase : base ≤ W.heap.size)
    (h : ∀ A' c' w', Owned e s E w' base A' (n + 1) c' (l ++ [x]) → W.grownBy w' (Value.slice A n c).ownBlock → (∀ k, (Value.slice A' (n + 1) c').ownBlock = some k → (Value.slice A n c).ownBlock = some k ∨ W.heap.size ≤ k) → wpList P ops Q rest (a.put o.dst (.slice A' (n + 1) c')) w') :
    wpList P ops Q (o :: rest) a W := by
  obtain ⟨i0, hi, hz0, hz1, hz2⟩ := info_parts he.info
  refine wpList_append_lies W hgd S X t ho base E i0 z s bytes he.under hi hz0 hz1 hz2 he.zs he.pos _ n _ hs hown.2.2 ⟨b, 0, none⟩ 1 cx (e x) hx (by rw [hown.1]; omega)
    (fun j u hu => by rw [Go.WideShapes.add_plain, Nat.zero_add]; exact hnew j u hu) h1 (by omega) (by unfold maxLen; omega) ?_ hbase W.heap.size rfl ?_
  · exact Nat.le_trans (Nat.mul_le_mul (show n + 1 ≤ 16777217 by omega) hby) (by decide)
  · intro g cap w' hown' hg hl _
    have ho' : Owned e s E w' base (some ⟨g, 0, none⟩) (n + 1) cap (l ++ [x]) := ⟨hown.1, by simp [hown.2.1], by simpa using hown'⟩
    refine h _ _ w' ho' hg fun k hk => ?_
    injection hk with hk
    dsimp only at hk
    subst hk
    rcases hl with hl | hl
    · exact .inl hl
    · exact .inr (by omega)
theorem grow_own {w u v : World} {r row : Option Nat} (h : w.grownBy u r) (hg : u.grownBy v row) (hrow : ∀ k, row = some k → w.heap.size ≤ k) : w.grownBy v r :=
  ⟨hg.os.trans h.os, hg.tape.trans h.tape, hg.output.trans h.output, Nat.le_trans h.size hg.size, fun i hi hne => (hg.block i (Nat.lt_of_lt_of_le hi h.size) (fun e => by have := hrow i e.symm; omega)).trans (h.block i hi hne)⟩
/-- Two lists that are being made, in blocks of their own; but for block p nothing that stood before has turned. -/
structure TL (w wr : World) (p : Nat) (A1 : Option Addr) (n1 c1 : Nat) (l1 : List Int) (A2 : Option Addr) (n2 c2 : Nat) (l2 : List Int) : Prop where
  own1 : Owned intE 1 3 wr w.heap.size A1 n1 c1 l1
  own2 : Owned intE 1 3 wr w.heap.size A2 n2 c2 l2
  two : ∀ k, (Value.slice A1 n1 c1).ownBlock = some k → (Value.slice A2 n2 c2).ownBlock ≠ some k
  gr : w.grownBy wr (some p)
section
variable {w wr wv : World} {p : Nat} {A1 A2 A' : Option Addr} {n1 c1 n2 c2 c' : Nat} {l1 l2 : List Int} {x : Int}
theorem TL.grown (h : TL w wr p A1 n1 c1 l1 A2 n2 c2 l2) (hp : p < w.heap.size) (hg : wr.grownBy wv (some p)) : TL w wv p A1 n1 c1 l1 A2 n2 c2 l2 :=
  ⟨h.own1.kept hg (fun k hk e => by have := (h.own1.blk hk).1; injection e with e; omega), h.own2.kept hg (fun k hk e => by have := (h.own2.blk hk).1; injection e with e; omega), h.two, grownBy_trans h.gr hg⟩
theorem TL.alloc (h : TL w wr p A1 n1 c1 l1 A2 n2 c2 l2) (o : Obj) : TL w (wr.alloc o) p A1 n1 c1 l1 A2 n2 c2 l2 :=
  ⟨h.own1.alloc o, h.own2.alloc o, h.two, grownBy_trans h.gr (World.grownBy_alloc _ _ _)⟩
theorem TL.app1 (h : TL w wr p A1 n1 c1 l1 A2 n2 c2 l2) (ho : Owned intE 1 3 wv w.heap.size A' (n1 + 1) c' (l1 ++ [x])) (hg : wr.grownBy wv (Value.slice A1 n1 c1).ownBlock)
    (hl : ∀ k, (Value.slice A' (n1 + 1) c').ownBlock = some k → (Value.slice A1 n1 c1).ownBlock = some k ∨ wr.heap.size ≤ k) : TL w wv p A' (n1 + 1) c' (l1 ++ [x]) A2 n2 c2 l2 :=
  ⟨ho, h.own2.kept hg (fun k hk e => h.two k e hk), fun k hk hk2 => by
    rcases hl k hk with h1 | h1
    · exact h.two k h1 hk2
    · have := (h.own2.blk hk2).2; omega, grow_own h.gr hg (fun k e => (h.own1.blk e).1)⟩
theorem TL.app2 (h : TL w wr p A1 n1 c1 l1 A2 n2 c2 l2) (ho : Owned intE 1 3 wv w.heap.size A' (n2 + 1) c' (l2 ++ [x])) (hg : wr.grownBy wv (Value.slice A2 n2 c2).ownBlock)
    (hl : ∀ k, (Value.slice A' (n2 + 1) c').ownBlock = some k → (Value.slice A2 n2 c2).ownBlock = some k ∨ wr.heap.size ≤ k) : TL w wv p A1 n1 c1 l1 A' (n2 + 1) c' (l2 ++ [x]) :=
  ⟨h.own1.kept hg (fun k hk e => h.two k hk e), ho, fun k hk hk2 => by
    rcases hl k hk2 with h1 | h1
    · exact h.two k hk h1
    · have := (h.own1.blk hk).2; omega, grow_own h.gr hg (fun k e => (h.own2.blk e).1)⟩
end
theorem Cur.app {wr wv : World} {p : Nat} {A B : Option Addr} {n c a m d base : Nat} {l : List Int} (h : Cur wr p A n c a) (ho : Owned intE 1 3 wr base B m d l) (hp : p < base) (hg : wr.grownBy wv (Value.slice B m d).ownBlock) : Cur wv p A n c a :=
  h.grown hg (fun e => by have := (ho.blk e.symm).1; omega)
set_option maxHeartbeats 2000000 in
set_option maxRecDepth 100000 in
theorem cur_times {A : Option Addr} {n c a p : Nat} {w0 w : World} (hS : Src w0 A n) (hb : Below w0.heap.size w0 w) (hp : w0.heap.size ≤ p) (hc : Cur w p A n c a) (ha : a ≤ 1000000) :
    Calls Try.prog 127 #[.pointer (some ⟨p, 0, none⟩)] w fun e w' => ∃ A1 n1 c1 l1 A2 n2 c2 l2, e = .returned (.tuple #[.slice A1 n1 c1, .slice A2 n2 c2]) ∧ n1 ≤ 7 ∧ n2 ≤ 14 ∧ TL w w' p A1 n1 c1 l1 A2 n2 c2 l2 ∧ Cur w' p A n c (a + 100) := by
  have hpw := hc.lt
  have T0 : TL w w p none 0 0 [] none 0 0 [] := ⟨Owned.nil intE_len _ _ _, Owned.nil intE_len _ _ _, fun k hk => (by cases hk), grown_any (Below.refl _ _) _⟩
  have G : Hid (∀ u : World, w.grownBy u (some p) → Below w0.heap.size w0 u) := Lib.hid (fun u hg => grown_below hb hp hg)
  go_in
  go_wp2_with fail
  refine (cur_pick hS hb hp hc (by omega) (by omega) (by omega)).mono ?_; rintro e w1 ⟨t, rfl, ⟨t0, t1⟩, hc1, hg1⟩
  have T1 := T0.grown hpw hg1
  go_wp2_with fail
  refine (cur_pick hS (G.out _ T1.gr) hp hc1 (by omega) (by omega) (by omega)).mono ?_; rintro e w2 ⟨q0, rfl, ⟨q00, q01⟩, hc2, hg2⟩
  have T2 := T1.grown hpw hg2
  obtain ⟨Q, rfl⟩ := Int.eq_ofNat_of_zero_le q00
  have hQ : Q ≤ 6 := by omega
  go_wp2
  go_loopw [4, 5, 6, 7] (fun va vb vt vn wr => ∃ (q : Nat) (t : Int) (A1 : Option Addr) (n1 c1 : Nat) (l1 : List Int) (A2 : Option Addr) (n2 c2 : Nat) (l2 : List Int), q ≤ 6 ∧ vn = .int .i64 q ∧ vt = .int .i64 t ∧ 0 ≤ t ∧ t ≤ 50 + 200 * (6 - (q : Int)) ∧ va = .slice A1 n1 c1 ∧ vb = .slice A2 n2 c2 ∧ n1 + q ≤ 6 ∧ n2 + 2 * q ≤ 12 ∧ TL w wr p A1 n1 c1 l1 A2 n2 c2 l2 ∧ Cur wr p A n c (a + 2 + 10 * (6 - q))) (fun _ _ _ vn _ => (intOf vn).toNat)
  case atStart => exact ⟨Q, t, none, 0, 0, [], none, 0, 0, [], hQ, rfl, rfl, by omega, by omega, rfl, rfl, by omega, by omega, T2, hc2.mono (by omega)⟩
  case round =>
    obtain ⟨q, t, A1, n1, c1, l1, A2, n2, c2, l2, hq, rfl, rfl, ht0, ht1, rfl, rfl, hn1, hn2, T3, hc3⟩ := hrel
    rename World => wo
    by_cases hq0 : 0 < q
    · have hqI : (0 : Int) < (q : Int) := by omega
      go_wp2_with fail
      refine (cur_pick hS (G.out _ T3.gr) hp hc3 (by omega) (by omega) (by omega)).mono ?_; rintro e w4 ⟨d, rfl, ⟨d0, d1⟩, hc4, hg4⟩
      have T4 := T3.grown hpw hg4
      have td : 0 ≤ t + (100 + d) ∧ t + (100 + d) ≤ 50 + 200 * (6 - ((q - 1 : Nat) : Int)) := by omega
      obtain ⟨t', ht'⟩ : ∃ t', t' = t + (100 + d) := ⟨_, rfl⟩
      rw [← ht'] at td
      have sz4 := T4.gr.size
      go_wp2_with (first | (at_builtin; go_must ((refine wpList_append_rec2 Try.elInt rfl (.tmp 21) (.tmp 23) rfl rfl (T4.own1.alloc _) (t + (100 + d)) rfl (Box.at_ _ [.int .i64 (t + (100 + d))] _ ?_) (intE_one _) ?_ (by decide) ?_ ?_; (focus (first | omega | (simp only [World.size_alloc]; done) | (simp only [World.size_alloc]; omega) | (simp; done) | (simp; omega))); (focus (first | omega | (simp only [World.size_alloc]; done) | (simp only [World.size_alloc]; omega) | (simp; done) | (simp; omega))); (focus (first | omega | (simp only [World.size_alloc]; done) | (simp only [World.size_alloc]; omega) | (simp; done) | (simp; omega))); intro A5 c5 w5 ho5 hg5 hl5))))
      rw [← ht'] at ho5 ⊢
      have T5 := (T4.alloc (.cells #[.int .i64 (t + (100 + d))] 3)).app1 ho5 hg5 hl5
      have hc5 := (hc4.up ((Below.refl _ _).alloc (Nat.le_refl _) (.cells #[.int .i64 (t + (100 + d))] 3))).app (T4.alloc (.cells #[.int .i64 (t + (100 + d))] 3)).own1 hpw hg5
      clear ht' T4 hg5 hl5 ho5
      refine (cur_one hS (G.out _ T5.gr) hp hc5 (by omega) (by omega) (by omega)).mono ?_; rintro e w6 ⟨b1, rfl, hc6, hg6⟩
      have T6 := T5.grown hpw hg6
      have sz6 := T6.gr.size
      have lt6 := hc6.lt
      rcases b1
      · have hlit := lit_ints w6 3 [0, 5, -5, 20, -20, 60]
        have T7 := T6.alloc (.cells ⟨[0, 5, -5, 20, -20, 60].map fun x => Value.int .i64 x⟩ 3)
        have hc7 := hc6.up ((Below.refl _ _).alloc (Nat.le_refl _) (.cells ⟨[0, 5, -5, 20, -20, 60].map fun x => Value.int .i64 x⟩ 3))
        go_wp2_with fail
        refine (cur_among hS (G.out _ T7.gr) hp hc7 (by omega) rfl hlit (by decide) (by decide) (fun b o e => by injection e with e; injection e with e; omega)).mono ?_; rintro e w8 ⟨x, hx, rfl, hc8, hg8⟩
        have T8 := T7.grown hpw hg8
        have sz8 := T8.gr.size
        have xb : -100 ≤ x ∧ x ≤ 100 := by
          simp only [List.mem_cons, List.not_mem_nil, or_false] at hx; omega
        clear hx hlit
        go_wp2_with (first | (at_builtin; go_must ((refine wpList_append_rec2 Try.elInt rfl (.tmp 28) (.tmp 34) rfl rfl (T8.own2.alloc _) (t' + x) rfl (Box.at_ _ [.int .i64 (t' + x)] _ ?_) (intE_one _) ?_ (by decide) ?_ ?_; (focus (first | omega | (simp only [World.size_alloc]; done) | (simp only [World.size_alloc]; omega) | (simp; done) | (simp; omega))); (focus (first | omega | (simp only [World.size_alloc]; done) | (simp only [World.size_alloc]; omega) | (simp; done) | (simp; omega))); (focus (first | omega | (simp only [World.size_alloc]; done) | (simp only [World.size_alloc]; omega) | (simp; done) | (simp; omega))); intro A9 c9 w9 ho9 hg9 hl9))))
        have T9 := (T8.alloc (.cells #[.int .i64 (t' + x)] 3)).app2 ho9 hg9 hl9
        have hc9 := (hc8.up ((Below.refl _ _).alloc (Nat.le_refl _) (.cells #[.int .i64 (t' + x)] 3))).app (T8.alloc (.cells #[.int .i64 (t' + x)] 3)).own2 hpw hg9
        refine (cur_one hS (G.out _ T9.gr) hp hc9 (by omega) (by omega) (by omega)).mono ?_; rintro e w10 ⟨b2, rfl, hc10, hg10⟩
        have T10 := T9.grown hpw hg10
        have sz10 := T10.gr.size
        rcases b2
        · go_wp2
          go_roundw
          case rel => exact ⟨q - 1, t', A5, n1 + 1, c5, _, A9, (n2 + 1), c9, _, by omega, by (rw [show ((q - 1 : Nat) : Int) = (q : Int) - 1 by omega]), rfl, td.1, td.2, by go_num, by go_num, by omega, by omega, T10, hc10.mono (by omega)⟩
          case measure => simp [intOf]; omega
        · go_wp2_with (first | (at_builtin; go_must ((refine wpList_append_rec2 Try.elInt rfl (.tmp 38) (.tmp 41) rfl rfl (T10.own2.alloc _) (t' + 70) rfl (Box.at_ _ [.int .i64 (t' + 70)] _ ?_) (intE_one _) ?_ (by decide) ?_ ?_; (focus (first | omega | (simp only [World.size_alloc]; done) | (simp only [World.size_alloc]; omega) | (simp; done) | (simp; omega))); (focus (first | omega | (simp only [World.size_alloc]; done) | (simp only [World.size_alloc]; omega) | (simp; done) | (simp; omega))); (focus (first | omega | (simp only [World.size_alloc]; done) | (simp only [World.size_alloc]; omega) | (simp; done) | (simp; omega))); intro A11 c11 w11 ho11 hg11 hl11))))
          have T11 := (T10.alloc (.cells #[.int .i64 (t' + 70)] 3)).app2 ho11 hg11 hl11
          have hc11 := (hc10.up ((Below.refl _ _).alloc (Nat.le_refl _) (.cells #[.int .i64 (t' + 70)] 3))).app (T10.alloc (.cells #[.int .i64 (t' + 70)] 3)).own2 hpw hg11
          go_wp2
          go_roundw
          case rel => exact ⟨q - 1, t', A5, n1 + 1, c5, _, A11, (n2 + 1) + 1, c11, _, by omega, by (rw [show ((q - 1 : Nat) : Int) = (q : Int) - 1 by omega]), rfl, td.1, td.2, by go_num, by go_num, by omega, by omega, T11, hc11.mono (by omega)⟩
          case measure => simp [intOf]; omega
      · go_wp2_with fail
        refine (cur_one hS (G.out _ T6.gr) hp hc6 (by omega) (by omega) (by omega)).mono ?_; rintro e w10 ⟨b2, rfl, hc10, hg10⟩
        have T10 := T6.grown hpw hg10
        have sz10 := T10.gr.size
        rcases b2
        · go_wp2
          go_roundw
          case rel => exact ⟨q - 1, t', A5, n1 + 1, c5, _, A2, n2, c2, _, by omega, by (rw [show ((q - 1 : Nat) : Int) = (q : Int) - 1 by omega]), rfl, td.1, td.2, by go_num, by go_num, by omega, by omega, T10, hc10.mono (by omega)⟩
          case measure => simp [intOf]; omega
        · go_wp2_with (first | (at_builtin; go_must ((refine wpList_append_rec2 Try.elInt rfl (.tmp 38) (.tmp 41) rfl rfl (T10.own2.alloc _) (t' + 70) rfl (Box.at_ _ [.int .i64 (t' + 70)] _ ?_) (intE_one _) ?_ (by decide) ?_ ?_; (focus (first | omega | (simp only [World.size_alloc]; done) | (simp only [World.size_alloc]; omega) | (simp; done) | (simp; omega))); (focus (first | omega | (simp only [World.size_alloc]; done) | (simp only [World.size_alloc]; omega) | (simp; done) | (simp; omega))); (focus (first | omega | (simp only [World.size_alloc]; done) | (simp only [World.size_alloc]; omega) | (simp; done) | (simp; omega))); intro A11 c11 w11 ho11 hg11 hl11))))
          have T11 := (T10.alloc (.cells #[.int .i64 (t' + 70)] 3)).app2 ho11 hg11 hl11
          have hc11 := (hc10.up ((Below.refl _ _).alloc (Nat.le_refl _) (.cells #[.int .i64 (t' + 70)] 3))).app (T10.alloc (.cells #[.int .i64 (t' + 70)] 3)).own2 hpw hg11
          go_wp2
          go_roundw
          case rel => exact ⟨q - 1, t', A5, n1 + 1, c5, _, A11, n2 + 1, c11, _, by omega, by (rw [show ((q - 1 : Nat) : Int) = (q : Int) - 1 by omega]), rfl, td.1, td.2, by go_num, by go_num, by omega, by omega, T11, hc11.mono (by omega)⟩
          case measure => simp [intOf]; omega
    · obtain rfl : q = 0 := by omega
      by_cases hn : 0 < n1
      · have hnI : (0 : Int) < (n1 : Int) := by omega
        go_wp2_with fail
        refine (cur_one hS (G.out _ T3.gr) hp hc3 (by omega) (by omega) (by omega)).mono ?_; rintro e w4 ⟨b1, rfl, hc4, hg4⟩
        have T4 := T3.grown hpw hg4
        have lt4 := hc4.lt
        rcases b1
        · go_wp2
          go_ret2
          exact ⟨A1, n1, c1, l1, A2, n2, c2, l2, rfl, by omega, by omega, T4, hc4.mono (by omega)⟩
        · have hlit := lit_ints w4 3 [-1, 1000001, 5000]
          have T5 := T4.alloc (.cells ⟨[-1, 1000001, 5000].map fun x => Value.int .i64 x⟩ 3)
          have hc5 := hc4.up ((Below.refl _ _).alloc (Nat.le_refl _) (.cells ⟨[-1, 1000001, 5000].map fun x => Value.int .i64 x⟩ 3))
          go_wp2_with fail
          refine (cur_among hS (G.out _ T5.gr) hp hc5 (by omega) rfl hlit (by decide) (by decide) (fun b o e => by injection e with e; injection e with e; omega)).mono ?_; rintro e w6 ⟨x, hx, rfl, hc6, hg6⟩
          have T6 := T5.grown hpw hg6
          obtain ⟨y, hy⟩ := some_of_lt (l := l1) (k := 0) (by rw [T6.own1.len]; exact hn)
          obtain ⟨g, rfl, _, lg, hcell, hfz⟩ := T6.own1.at_ hn
          have old0 := hcell 0 y 0 _ hy rfl
          have fz0 := hfz (0 * 1 + 0)
          simp only [Nat.mul_one, Nat.add_zero, Nat.zero_mul] at old0 fz0
          have pt := T6.own1.put (j := 0) (x := x) (u := .int .i64 x) hy (by decide) rfl
          simp only [Nat.mul_one, Nat.add_zero, Nat.zero_mul] at pt
          have lb := (T6.own1.blk (k := g) rfl)
          have T7 : TL w (w6.setCell ⟨g, 0, none⟩ (.int .i64 x)) p (some ⟨g, 0, none⟩) n1 c1 (l1.set 0 x) A2 n2 c2 l2 := ⟨pt.1, T6.own2.kept pt.2 (fun k hk e => T6.two g rfl (by injection e with e; rw [← e] at hk; exact hk)), T6.two, grow_own T6.gr pt.2 (fun k e => by injection e with e; omega)⟩
          have hc7 : Cur (w6.setCell ⟨g, 0, none⟩ (.int .i64 x)) p A n c (a + 2 + 10 * (6 - 0) + 1 + 1) := hc6.grown pt.2 (fun e => by injection e with e; omega)
          clear hcell hfz hy hlit hx pt
          go_wp2
          go_ret2
          exact ⟨_, n1, c1, _, A2, n2, c2, l2, rfl, by omega, by omega, T7, hc7.mono (by omega)⟩
      · obtain rfl : n1 = 0 := by omega
        go_wp2
        go_ret2
        exact ⟨A1, 0, c1, l1, A2, n2, c2, l2, rfl, by omega, by omega, T3, hc3.mono (by omega)⟩
end Go.Proofs.Ytpccbmndgdiloaa
/- The walks through the generators of changes for extents. -/
namespace Go.Proofs.Ytpccbmndgdiloaa
set_option linter.unusedVariables false
set_option linter.unusedSimpArgs false
open Go.ChangeShapes Go.WideShapes Go.ChangeAt Go.RowKit Go.Deep
theorem cur_fresh (w : World) (A : Option Addr) (n c : Nat) : Cur (w.alloc (.cells #[.slice A n c, .int .i64 0, .int .u64 0] 104)) w.heap.size A n c 0 :=
  ⟨0, 0, Blk.at_ w 104 [.slice A n c, .int .i64 0, .int .u64 0] rfl, Nat.le_refl _, by omega, by omega⟩
theorem Src.over {w w' : World} {A : Option Addr} {n : Nat} (h : Src w A n) (hb : Below w.heap.size w w') : Src w' A n := by
  obtain ⟨l, h1, h2, h3, h4⟩ := h
  exact ⟨l, h1, h2, h3, h4.up hb⟩
theorem cur_stage {A : Option Addr} {n c a p : Nat} {w0 w : World} (hS : Src w0 A n) (hb : Below w0.heap.size w0 w) (hp : w0.heap.size ≤ p) (hc : Cur w p A n c a) (ha : a ≤ 16777216) :
    Calls Try.prog 177 #[.pointer (some ⟨p, 0, none⟩)] w fun e w' => ∃ x : Nat, e = .returned (.int .i64 (x : Int)) ∧ 3 ≤ x ∧ x ≤ 8 ∧ Cur w' p A n c (a + 1) ∧ w.grownBy w' (some p) := by
  have hl := lit_ints w 3 [4, 4, 5, 5, 6, 6, 3, 7, 8]
  have hlt := hc.lt
  go_in
  go_wp2_with fail
  refine (cur_among hS (hb.alloc hb.size _) hp (hc.up ((Below.refl _ _).alloc (Nat.le_refl _) _)) ha rfl hl (by decide) (by decide) (fun b o e => by injection e with e; injection e with e; omega)).mono ?_; rintro e w1 ⟨x, hx, rfl, hc1, hg1⟩
  go_wp2
  go_ret
  simp only [List.mem_cons, List.not_mem_nil, or_false] at hx
  refine ⟨x.toNat, ?_, by omega, by omega, hc1, grownBy_trans (World.grownBy_alloc _ _ _) hg1⟩
  rw [show ((x.toNat : Nat) : Int) = x by omega]
  rfl
theorem chs_small {n : Nat} {L : List ByteArray} (hn : n ≤ 8) (h : L.Perm (chsRaw n)) : L.length ≤ 34 ∧ ∀ s ∈ L, s.size ≤ 8 := by
  constructor
  · rw [h.length_eq, chsRaw]
    refine Nat.le_trans (List.length_filter_le _ _) ?_
    rw [List.length_map]; exact fromK_le hn 1
  · intro s hs
    have h1 := (h.mem_iff).1 hs
    rw [chsRaw, List.mem_filter] at h1
    rcases q : sizeOk n s
    · have := h1.2; rw [goodChange_size q] at this; cases this
    · have := sizeOk_t q; omega
set_option maxHeartbeats 2000000 in
set_option maxRecDepth 100000 in
theorem cur_with {A : Option Addr} {n c a p N : Nat} {w0 w : World} (hS : Src w0 A n) (hb : Below w0.heap.size w0 w) (hp : w0.heap.size ≤ p) (hc : Cur w p A n c a) (ha : a ≤ 1000000) (hN : N ≤ 8) :
    Calls Try.prog 98 #[.pointer (some ⟨p, 0, none⟩), .int .i64 N] w fun e w' => ∃ A' m c' L, e = .returned (.slice A' m c') ∧ m ≤ 34 ∧ (∀ s ∈ L, s.size ≤ 8) ∧ Owned strE 1 9 w' w.heap.size A' m c' L ∧ Cur w' p A n c (a + 100) ∧ w.grownBy w' (some p) := by
  have hpw := hc.lt
  go_in
  go_wp2_with fail
  refine (spec_l2All hN).mono ?_; rintro e w1 ⟨A1, c1, L, rfl, ho1, hperm, hb1⟩
  have hsm := chs_small hN hperm
  have HSM := Lib.hid hsm.2
  have hlen := hsm.1
  have HL := Lib.hid ho1
  have hsz1 := hb1.size
  have hc1 := hc.up hb1
  have G1 : Hid (∀ u : World, w1.grownBy u (some p) → Below w0.heap.size w0 u) := Lib.hid (fun u hg => grown_below hb hp (grownBy_trans (grown_any hb1 _) hg))
  have G2 : Hid (∀ u : World, w1.grownBy u (some p) → w.grownBy u (some p)) := Lib.hid (fun u hg => grownBy_trans (grown_any hb1 _) hg)
  have HS := Lib.hid hS
  clear hb hc ho1 hperm hsm hb1 hS
  go_wp2
  go_loopw [5, 11] (fun v i wr => ∃ (k m : Nat) (A' : Option Addr) (c' : Nat) (L' : List ByteArray), k ≤ L.length ∧ i = .int .i64 k ∧ v = .slice A' m c' ∧ m ≤ k ∧ Hid (∀ s ∈ L', s.size ≤ 8) ∧ Hid (Owned strE 1 9 wr w1.heap.size A' m c' L') ∧ Hid (Cur wr p A n c (a + k)) ∧ Hid (w1.grownBy wr (some p))) (fun _ i _ => L.length - (intOf i).toNat)
  case atStart => exact ⟨0, 0, none, 0, [], Nat.zero_le _, rfl, rfl, Nat.le_refl _, Lib.hid (fun s hs => by cases hs), Lib.hid (Owned.nil strE_len _ _ _), Lib.hid (hc1.mono (by omega)), Lib.hid (grown_any (Below.refl _ _) _)⟩
  case round =>
    obtain ⟨k, m, A2, c2, L2, hk, rfl, rfl, hmk, HZ, HO, HC, HG⟩ := hrel
    rename World => wr
    by_cases hlt : k < L.length
    · have hst := (HL.out.past HG.out hpw).recs
      obtain ⟨b3, o3, y, rfl, hbb, hy, hcy⟩ := hst.at_str hlt
      have hyz := HSM.out y (List.mem_of_getElem? hy)
      clear hy hst
      go_wp2_with fail
      refine (cur_one HS.out (G1.out _ HG.out) hp HC.out (by omega) (by decide) (by decide)).mono ?_; rintro e w4 ⟨b, rfl, hc4, hg4⟩
      have HO4 := Lib.hid (HO.out.past hg4 (by omega))
      have HC4 := Lib.hid hc4
      have HG4 := Lib.hid (grownBy_trans HG.out hg4)
      have hs4 := HG4.out.size
      clear hc4 hg4 hcy
      rcases b
      · go_wp2_with (first | (at_builtin; go_must ((refine wpList_append_recs Try.elStr strE_one rfl (.tmp 18) (.tmp 20) rfl rfl (HO4.out.alloc _) rfl (own_lit1_at' strE_len _ 9 y rfl (Nat.le_refl _)).recs rfl ?_ (by decide) ?_ ?_; (focus (first | omega | (simp only [World.size_alloc]; done) | (simp only [World.size_alloc]; omega) | (simp; done) | (simp; omega))); (simp; omega); intro A3 c3 w6 ho6 hg6 hl6; have HO6 := Lib.hid ho6; have HC6 := Lib.hid ((HC4.out.up ((Below.refl _ _).alloc (Nat.le_refl _) _)).grown hg6 (fun e => by have := (HO4.out.blk e.symm).1; omega)); have HG6 := Lib.hid (grow_own (grownBy_trans HG4.out (World.grownBy_alloc _ _ _)) hg6 (fun k hk => (HO4.out.blk hk).1)); clear ho6 hg6 hl6))))
        go_roundw
        case rel => exact ⟨k + 1, m + 1, A3, c3, L2 ++ [y], by omega, by go_num, by go_num, by omega, Lib.hid (fun s hs => by
            rcases List.mem_append.1 hs with hs | hs
            · exact HZ.out s hs
            · rw [List.mem_singleton.1 hs]; exact hyz), HO6, Lib.hid (HC6.out.mono (by omega)), HG6⟩
        case measure => simp [intOf]; omega
      · go_wp2
        go_roundw
        case rel => exact ⟨k + 1, m, A2, c2, L2, by omega, by go_num, rfl, by omega, HZ, HO4, Lib.hid (HC4.out.mono (by omega)), HG4⟩
        case measure => simp [intOf]; omega
    · obtain rfl : k = L.length := by omega
      have hsr := HG.out.size
      by_cases hm0 : 0 < m
      · have hI : (0 : Int) < (m : Int) := by omega
        have hL2 := HO.out.len
        go_wp2_with fail
        refine (cur_one HS.out (G1.out _ HG.out) hp HC.out (by omega) (by decide) (by decide)).mono ?_; rintro e w4 ⟨b, rfl, hc4, hg4⟩
        have HO4 := Lib.hid (HO.out.past hg4 (by omega))
        have HC4 := Lib.hid hc4
        have HG4 := Lib.hid (grownBy_trans HG.out hg4)
        clear hc4 hg4
        rcases b
        · go_wp2
          go_ret
          exact ⟨_, _, _, L2, rfl, by omega, HZ.out, HO4.out.base_le hsz1, HC4.out.mono (by omega), G2.out _ HG4.out⟩
        · obtain ⟨f, rfl, f0, f1, fc, ff⟩ := HO4.out.at_ (by omega)
          obtain ⟨y, hy⟩ := some_of_lt (l := L2) (k := 0) (by omega)
          have cf := fc 0 y 0 _ hy rfl
          have zf := ff 0
          simp only [Nat.mul_one, Nat.add_zero, Nat.zero_mul] at cf
          have pt := HO4.out.put (k := 0) (j := 0) (x := ⟨#[120]⟩) (u := .string ⟨#[120]⟩) hy (by decide) rfl
          simp only [Nat.mul_one, Nat.add_zero, Nat.zero_mul] at pt
          have HPT := Lib.hid pt
          clear fc ff hy pt
          go_wp2
          go_ret
          exact ⟨_, _, _, L2.set 0 ⟨#[120]⟩, rfl, by omega, fun s hs => by
            rcases List.mem_or_eq_of_mem_set hs with hs | hs
            · exact HZ.out s hs
            · rw [hs]; decide, HPT.out.1.base_le hsz1, (HC4.out.grown HPT.out.2 (fun e => by injection e with e; omega)).mono (by omega), G2.out _ (grow_own HG4.out HPT.out.2 (fun k e => by injection e with e; omega))⟩
      · have hI : ¬ (0 : Int) < (m : Int) := by omega
        obtain rfl : m = 0 := by omega
        go_wp2
        go_ret
        exact ⟨_, _, _, rfl, by omega, L2, HZ.out, HO.out.base_le hsz1, HC.out.mono (by omega), G2.out _ HG.out⟩
set_option maxHeartbeats 1000000 in
set_option maxRecDepth 100000 in
theorem draw_FindExtent {A : Option Addr} {n c : Nat} {w : World} (hS : Src w A n) :
    Calls Try.prog 31 #[.slice A n c] w fun e w' => ∃ (N : Nat) (A1 : Option Addr) (n1 c1 : Nat) (l1 : List ByteArray) (s : Int), e = .returned (.tuple #[.int .i64 N, .slice A1 n1 c1, .int .i64 s]) ∧ l1.length = n1 ∧ n1 ≤ 34 ∧ (∀ s ∈ l1, s.size ≤ 16777216) ∧ Strs w' A1 l1 ∧ 0 ≤ s ∧ s ≤ 200001 ∧ N ≤ 5 ∧ Below w.heap.size w w' := by
  have b0 : Below w.heap.size w (w.alloc (.cells #[.slice A n c, .int .i64 0, .int .u64 0] 104)) := by (repeat' (first | (with_reducible exact Below.refl _ _) | (with_reducible assumption) | (with_reducible refine below_drewN ?_ _) | (with_reducible refine Below.drew ?_) | (with_reducible refine below_alloc ?_ _) | (with_reducible refine Below.alloc ?_ ?_ _) | (with_reducible refine Below.setCell ?_ ?_ _) | (with_reducible refine below_go ?_ (by with_reducible assumption)) | (with_reducible refine below_then (by with_reducible assumption) ?_ ?_) | go_size))
  have c0 := cur_fresh w A n c
  go_in
  go_wp2_with fail
  obtain ⟨w1, hw1⟩ : ∃ u, u = w.alloc (.cells #[.slice A n c, .int .i64 0, .int .u64 0] 104) := ⟨_, rfl⟩
  rw [← hw1] at b0 c0 ⊢
  clear hw1
  refine (cur_pick hS b0 (Nat.le_refl _) c0 (by omega) (by omega) (by omega)).mono ?_; rintro e w2 ⟨x, rfl, ⟨x0, x1⟩, hc2, hg2⟩
  have hB2 := grown_below b0 (Nat.le_refl _) hg2
  obtain ⟨X, rfl⟩ := Int.eq_ofNat_of_zero_le x0
  go_wp2_with fail
  refine (cur_pick hS hB2 (Nat.le_refl _) hc2 (by omega) (by omega) (by omega)).mono ?_; rintro e w3 ⟨y, rfl, ⟨y0, y1⟩, hc3, hg3⟩
  have hB3 := grown_below hB2 (Nat.le_refl _) hg3
  obtain ⟨Y, rfl⟩ := Int.eq_ofNat_of_zero_le y0
  have hX : X ≤ 1 := by omega
  have hY : Y ≤ 19 := by omega
  clear x0 x1 y0 y1 hg2 hg3 hB2 hc2
  have ew : IntKind.i64.wrap ((Y : Int) / 19) = (Y : Int) / 19 := wrap_id (by omega)
  have hN : 3 + X + Y / 19 ≤ 5 := by omega
  go_wp2_with fail
  have hadd : (3 : Int) + (X : Int) + (Y : Int) / 19 = ((3 + X + Y / 19 : Nat) : Int) := by omega
  first | rw [hadd] | skip
  refine (cur_with (N := 3 + X + Y / 19) hS hB3 (Nat.le_refl _) hc3 (by omega) (by omega)).mono ?_; rintro e w4 ⟨A4, m, c4, L, rfl, hm, hz, ho, hc4, hg4⟩
  have hB4 := grown_below hB3 (Nat.le_refl _) hg4
  have hl := lit_ints w4 3 [1, 50, 500, 2000, 2000, 200001]
  have hlt := hc4.lt
  have hsz3 := hB3.size
  have ha4 : w4.grownBy (w4.alloc (.cells ⟨([1, 50, 500, 2000, 2000, 200001] : List Int).map fun x => Value.int .i64 x⟩ 3)) (some w.heap.size) := World.grownBy_alloc _ _ _
  go_wp2_with fail
  refine (cur_among hS (hB4.alloc hB4.size _) (Nat.le_refl _) (hc4.up ((Below.refl _ _).alloc (Nat.le_refl _) _)) (by omega) rfl hl (by decide) (by decide) (fun b o e => by injection e with e; injection e with e; omega)).mono ?_; rintro e w5 ⟨s, hs, rfl, hc5, hg5⟩
  have hg6 := grownBy_trans ha4 hg5
  go_wp2
  refine bodyPost_ret (v := .tuple #[.int .i64 ((3 + X + Y / 19 : Nat) : Int), .slice A4 m c4, .int .i64 s]) (by simp [results, Try.results31, go_sem] <;> (try constructor) <;> exact (Ending.returned.inj (by assumption)).symm) rfl ?_
  simp only [List.mem_cons, List.not_mem_nil, or_false] at hs
  exact ⟨3 + X + Y / 19, A4, m, c4, L, s, rfl, ho.len, hm, fun s hs => Nat.le_trans (hz s hs) (by decide), (ho.past hg6 hc3.lt).recs, by omega, by omega, hN, grown_below hB4 (Nat.le_refl _) hg6⟩
end Go.Proofs.Ytpccbmndgdiloaa
/- The walks through the generators of changes and methods. -/
namespace Go.Proofs.Ytpccbmndgdiloaa
set_option linter.unusedVariables false
set_option linter.unusedSimpArgs false
open Go.ChangeShapes Go.WideShapes Go.ChangeAt Go.RowKit Go.Deep
theorem lit_strs2 (w : World) (t : TypeId) (l : List ByteArray) : Strs (w.alloc (.cells ⟨l.map Value.string⟩ t)) (some ⟨w.heap.size, 0, none⟩) l := by
  refine ⟨strE_len, by rw [flatMap_len strE_len], fun hn => ⟨w.heap.size, 0, rfl, by simp, fun j u hu => ?_⟩⟩
  have h := Box.new w (l.map Value.string) t
  rw [Nat.zero_add]
  refine h j u ?_
  rw [← hu]
  congr 1
  exact (flatMap_one Value.string l).symm
theorem cur_of {A B : Option Addr} {n c a p m d : Nat} {l : List ByteArray} {w0 w : World} (hS : Src w0 A n) (hb : Below w0.heap.size w0 w) (hp : w0.heap.size ≤ p) (hc : Cur w p A n c a) (ha : a ≤ 16777216) (hm : l.length = m) (hl : Strs w B l) (hm0 : 0 < m) (hm1 : m ≤ 200) (hne : ∀ b o, B = some ⟨b, o, none⟩ → b ≠ p) :
    Calls Try.prog 155 #[.pointer (some ⟨p, 0, none⟩), .slice B m d] w fun e w' => ∃ x ∈ l, e = .returned (.string x) ∧ Cur w' p A n c (a + 1) ∧ w.grownBy w' (some p) := by
  subst hm
  go_in
  go_wp2_with fail
  refine (cur_pick hS hb hp hc ha (by omega) (by omega)).mono ?_; rintro e w1 ⟨x, rfl, ⟨x0, x1⟩, hc1, hg1⟩
  obtain ⟨k, rfl⟩ := Int.eq_ofNat_of_zero_le x0
  have hk : k < l.length := by omega
  obtain ⟨b, o, y, rfl, hbb, hy, hcy⟩ := hl.at_str hk
  have hcz : w1.cell? ⟨b, o + k, none⟩ = some (.string y) := (hg1.cell_far ⟨b, o + k, none⟩ hbb (fun e => hne b o rfl (by injection e))).trans hcy
  have HY := Lib.hid hy
  clear hy hl hcy x1
  go_wp2
  go_ret
  exact ⟨y, List.mem_of_getElem? HY.out, rfl, hc1, hg1⟩
theorem chsRaw_pos : ∀ n : Nat, n < 9 → 3 ≤ n → 1 ≤ (chsRaw n).length := by decide +kernel
set_option maxRecDepth 100000 in
theorem cur_change {A : Option Addr} {n c a p N : Nat} {w0 w : World} (hS : Src w0 A n) (hb : Below w0.heap.size w0 w) (hp : w0.heap.size ≤ p) (hc : Cur w p A n c a) (ha : a ≤ 16777216) (hN : N ≤ 8) (hN3 : 3 ≤ N) :
    Calls Try.prog 190 #[.pointer (some ⟨p, 0, none⟩), .int .i64 N] w fun e w' => ∃ x, e = .returned (.string x) ∧ goodChange N x = true ∧ x.size ≤ 8 ∧ Cur w' p A n c (a + 1) ∧ w.grownBy w' (some p) := by
  have hpw := hc.lt
  go_in
  go_wp2_with fail
  refine (spec_l2All hN).mono ?_; rintro e w1 ⟨A1, c1, L, rfl, ho1, hperm, hb1⟩
  have hsm := chs_small hN hperm
  have hlen := hsm.1
  have hpos : 1 ≤ L.length := by rw [hperm.length_eq]; exact chsRaw_pos N (by omega) hN3
  have HSM := Lib.hid hsm.2
  have HPM := Lib.hid (fun x (hx : x ∈ L) => show goodChange N x = true from by
    have h1 := (hperm.mem_iff).1 hx
    rw [chsRaw, List.mem_filter] at h1
    exact h1.2)
  clear hperm hsm
  go_wp2_with fail
  refine (cur_pick hS (grown_below hb hp (grown_any hb1 _)) hp (hc.up hb1) ha (by omega) (by omega)).mono ?_; rintro e w2 ⟨x, rfl, ⟨x0, x1⟩, hc2, hg2⟩
  obtain ⟨k, rfl⟩ := Int.eq_ofNat_of_zero_le x0
  have hk : k < L.length := by omega
  obtain ⟨b, o, y, rfl, hbb, hy, hcy⟩ := (ho1.past hg2 hpw).recs.at_str hk
  have HY := Lib.hid (List.mem_of_getElem? hy)
  clear hy x1
  go_wp2
  go_ret
  exact ⟨y, rfl, HPM.out y HY.out, HSM.out y HY.out, hc2, grownBy_trans (grown_any hb1 _) hg2⟩
theorem goodM_of {nm : ByteArray} {st : Nat} {L : List ByteArray} (h1 : nameOk nm = true) (h2 : 3 ≤ st) (h3 : st ≤ 8) (h4 : 1 ≤ L.length) (h5 : L.length ≤ 40) (h6 : ∀ x ∈ L, goodChange st x = true) : goodM nm st L = true := by
  have e1 : inB (st : Int) 3 8 = true := by simp [inB]; omega
  have e2 : inB (L.length : Int) 1 40 = true := by simp [inB]; omega
  have e3 : allCh st L = true := by
    rw [allCh, List.all_eq_true]
    intro k hk
    obtain ⟨x, hx⟩ := some_of_lt (List.mem_range.1 hk)
    rw [okCh_at hx]
    exact h6 x (List.mem_of_getElem? hx)
  rw [goodM, h1, e1, e2, e3]; rfl
theorem hunt_one : ∀ n : Nat, n < 9 → 3 ≤ n → n % 2 = 0 → goodChange n ⟨#[45]⟩ = true ∧ goodChange n (⟨#[49]⟩ ++ dig1 n) = true ∧ goodChange n ⟨#[49, 50]⟩ = true := by decide +kernel
theorem hunt_two : ∀ n : Nat, n < 9 → 5 ≤ n → n % 2 = 1 → goodChange n (dig1 n) = true ∧ goodChange n ⟨#[49]⟩ = true ∧ goodChange n (⟨#[49, 50]⟩ ++ dig1 n) = true := by decide +kernel
set_option maxHeartbeats 2000000 in
set_option maxRecDepth 100000 in
theorem spec_l4Hunting {N : Nat} {s : ByteArray} {w : World} (hN : N ≤ 8) (hN4 : 4 ≤ N) (hs : goodChange N s = true) :
    Calls Try.prog 221 #[.int .i64 N, .string s] w fun e w' => ∃ A' c' L, e = .returned (.slice A' (2 * N) c') ∧ Owned strE 1 9 w' w.heap.size A' (2 * N) c' L ∧ (∀ x ∈ L, goodChange N x = true) ∧ Below w.heap.size w w' := by
  have HS := Lib.hid hs
  have hd1 : (dig1 (N : Int)).size = 1 := rfl
  clear hs
  rcases Nat.mod_two_eq_zero_or_one N with hpar | hpar
  · have HH := Lib.hid (hunt_one N (by omega) (by omega) hpar)
    have hI : ¬ ((N : Int) % 2 = 1) := by omega
    have hpe : ((N : Int) % 2 == 1) = false := by simpa using hI
    go_in
    go_wp2_with fail
    refine (spec_l1Num_1 (by omega) (by omega)).mono ?_; rintro e w1 ⟨rfl, hb1⟩
    go_wp2
    go_loopw [7, 8] (fun v i wr => ∃ (k : Nat) (A' : Option Addr) (c' : Nat) (O : List ByteArray), k ≤ N ∧ i = .int .i64 k ∧ v = .slice A' (2 * k) c' ∧ Hid (∀ x ∈ O, goodChange N x = true) ∧ Hid (Owned strE 1 9 wr w.heap.size A' (2 * k) c' O) ∧ Below w.heap.size w wr) (fun _ i _ => N - (intOf i).toNat)
    case atStart => exact ⟨0, none, 0, [], Nat.zero_le _, rfl, rfl, Lib.hid (fun s hs => by cases hs), Lib.hid (Owned.nil strE_len _ _ _), hb1⟩
    case round =>
      obtain ⟨k, A2, c2, O, hk, rfl, rfl, HZ, HO, hbr⟩ := hrel
      rename World => wr
      have hszr := hbr.size
      by_cases hlt : k < N
      · have HG2 := Lib.hid (show ∀ x ∈ O ++ [⟨#[45]⟩, ⟨#[49]⟩ ++ dig1 N], goodChange N x = true from fun x hx => by
          rcases List.mem_append.1 hx with hx | hx
          · exact HZ.out x hx
          · simp only [List.mem_cons, List.not_mem_nil, or_false] at hx
            rcases hx with rfl | rfl
            · exact HH.out.1
            · exact HH.out.2.1)
        have hl2 := lit_strs2 wr 9 [⟨#[45]⟩, ⟨#[49]⟩ ++ dig1 N]
        go_wp2_with (first | (at_builtin; go_must ((refine wpList_append_recs Try.elStr strE_one rfl (.tmp 22) (.tmp 25) rfl rfl (HO.out.alloc _) rfl hl2 rfl ?_ (by decide) ?_ ?_; (focus (first | omega | (simp only [World.size_alloc]; done) | (simp only [World.size_alloc]; omega) | (simp; done) | (simp; omega))); (simp; omega); intro A3 c3 w6 ho6 hg6 hl6; have hb6 : Below w.heap.size w w6 := (hbr.alloc hszr _).trans (grown_base hg6 (by simp; omega) (fun z hz => (HO.out.range z hz).1))))))
        go_roundw
        case rel => exact ⟨k + 1, A3, c3, O ++ [⟨#[45]⟩, ⟨#[49]⟩ ++ dig1 N], by omega, by go_num, by go_num, HG2, Lib.hid ho6, hb6⟩
        case measure => simp [intOf]; omega
      · obtain rfl : k = N := by omega
        obtain ⟨g, rfl, g0, g1, gc, gf⟩ := HO.out.at_ (by omega)
        have hOl := HO.out.len
        obtain ⟨y, hy⟩ := some_of_lt (l := O) (k := 2 * k - 1) (by omega)
        have c0 := gc (2 * k - 1) y 0 _ hy rfl
        have f0 := gf (2 * k - 1)
        simp only [Nat.mul_one, Nat.add_zero] at c0
        have pt := HO.out.put (k := 2 * k - 1) (j := 0) (x := s) (u := .string s) hy (by decide) rfl
        simp only [Nat.mul_one, Nat.add_zero] at pt
        have HPT := Lib.hid pt
        have HGS := Lib.hid (show ∀ x ∈ O.set (2 * k - 1) s, goodChange k x = true from fun x hx => by
          rcases List.mem_or_eq_of_mem_set hx with hx | hx
          · exact HZ.out x hx
          · rw [hx]; exact HS.out)
        have hJ : (2 : Int) * (k : Int) - 1 = ((2 * k - 1 : Nat) : Int) := by omega
        have hJ2 : ((2 * k : Nat) : Int) - 1 = ((2 * k - 1 : Nat) : Int) := by omega
        have hJ3 : ((2 * k - 1 : Nat) : Int) < ((2 * k : Nat) : Int) := by omega
        clear gc gf hy pt
        go_wp2
        go_ret
        exact ⟨_, _, O.set (2 * k - 1) s, rfl, HPT.out.1, HGS.out, hbr.grown HPT.out.2 hszr (fun z hz => by injection hz with hz; omega)⟩
  · have HH := Lib.hid (hunt_two N (by omega) (by omega) hpar)
    have hI : (N : Int) % 2 = 1 := by omega
    have hpe : ((N : Int) % 2 == 1) = true := by simpa using hI
    go_in
    go_wp2_with fail
    refine (spec_l1Num_1 (by omega) (by omega)).mono ?_; rintro e w1 ⟨rfl, hb1⟩
    go_wp2_with fail
    refine (spec_l1Num_1 (by omega) (by omega)).mono ?_; rintro e w2 ⟨rfl, hb2⟩
    have hB2 := below_go hb1 hb2
    go_wp2
    go_loopw [7, 8] (fun v i wr => ∃ (k : Nat) (A' : Option Addr) (c' : Nat) (O : List ByteArray), k ≤ N ∧ i = .int .i64 k ∧ v = .slice A' (2 * k) c' ∧ Hid (∀ x ∈ O, goodChange N x = true) ∧ Hid (Owned strE 1 9 wr w.heap.size A' (2 * k) c' O) ∧ Below w.heap.size w wr) (fun _ i _ => N - (intOf i).toNat)
    case atStart => exact ⟨0, none, 0, [], Nat.zero_le _, rfl, rfl, Lib.hid (fun s hs => by cases hs), Lib.hid (Owned.nil strE_len _ _ _), hB2⟩
    case round =>
      obtain ⟨k, A2, c2, O, hk, rfl, rfl, HZ, HO, hbr⟩ := hrel
      rename World => wr
      have hszr := hbr.size
      by_cases hlt : k < N
      · have HG2 := Lib.hid (show ∀ x ∈ O ++ [dig1 N, ⟨#[49]⟩], goodChange N x = true from fun x hx => by
          rcases List.mem_append.1 hx with hx | hx
          · exact HZ.out x hx
          · simp only [List.mem_cons, List.not_mem_nil, or_false] at hx
            rcases hx with rfl | rfl
            · exact HH.out.1
            · exact HH.out.2.1)
        have hl2 := lit_strs2 wr 9 [dig1 N, ⟨#[49]⟩]
        go_wp2_with (first | (at_builtin; go_must ((refine wpList_append_recs Try.elStr strE_one rfl (.tmp 22) (.tmp 25) rfl rfl (HO.out.alloc _) rfl hl2 rfl ?_ (by decide) ?_ ?_; (focus (first | omega | (simp only [World.size_alloc]; done) | (simp only [World.size_alloc]; omega) | (simp; done) | (simp; omega))); (simp; omega); intro A3 c3 w6 ho6 hg6 hl6; have hb6 : Below w.heap.size w w6 := (hbr.alloc hszr _).trans (grown_base hg6 (by simp; omega) (fun z hz => (HO.out.range z hz).1))))))
        go_roundw
        case rel => exact ⟨k + 1, A3, c3, O ++ [dig1 N, ⟨#[49]⟩], by omega, by go_num, by go_num, HG2, Lib.hid ho6, hb6⟩
        case measure => simp [intOf]; omega
      · obtain rfl : k = N := by omega
        obtain ⟨g, rfl, g0, g1, gc, gf⟩ := HO.out.at_ (by omega)
        have hOl := HO.out.len
        obtain ⟨y, hy⟩ := some_of_lt (l := O) (k := 2 * k - 1) (by omega)
        have c0 := gc (2 * k - 1) y 0 _ hy rfl
        have f0 := gf (2 * k - 1)
        simp only [Nat.mul_one, Nat.add_zero] at c0
        have pt := HO.out.put (k := 2 * k - 1) (j := 0) (x := s) (u := .string s) hy (by decide) rfl
        simp only [Nat.mul_one, Nat.add_zero] at pt
        have HPT := Lib.hid pt
        have HGS := Lib.hid (show ∀ x ∈ O.set (2 * k - 1) s, goodChange k x = true from fun x hx => by
          rcases List.mem_or_eq_of_mem_set hx with hx | hx
          · exact HZ.out x hx
          · rw [hx]; exact HS.out)
        have hJ : (2 : Int) * (k : Int) - 1 = ((2 * k - 1 : Nat) : Int) := by omega
        have hJ2 : ((2 * k : Nat) : Int) - 1 = ((2 * k - 1 : Nat) : Int) := by omega
        have hJ3 : ((2 * k - 1 : Nat) : Int) < ((2 * k : Nat) : Int) := by omega
        clear gc gf hy pt
        go_wp2
        go_ret
        exact ⟨_, _, O.set (2 * k - 1) s, rfl, HPT.out.1, HGS.out, hbr.grown HPT.out.2 hszr (fun z hz => by injection hz with hz; omega)⟩
end Go.Proofs.Ytpccbmndgdiloaa
/- Rows that are taken out of rounds bell by bell, in plain Lean. -/
namespace Go.Proofs.Ytpccbmndgdiloaa
set_option linter.unusedVariables false
set_option linter.unusedSimpArgs false
theorem nums_data (s : ByteArray) : nums s = s.data.toList.map fun b => (b.toNat : Int) := by
  apply List.ext_getElem
  · rw [nums_len, List.length_map, Array.length_toList]; rfl
  · intro j h1 h2
    have hj : j < s.size := by rwa [nums_len] at h1
    have h := nums_at hj
    rw [List.getElem?_eq_getElem h1] at h
    injection h with h
    rw [h, PlainAid.bt, dif_pos hj, List.getElem_map, Array.getElem_toList]
    rfl
theorem nums_app (a b : ByteArray) : nums (a ++ b) = nums a ++ nums b := by
  rw [nums_data, nums_data, nums_data, ByteArray.data_append, Array.toList_append, List.map_append]
theorem nums_ext (s : ByteArray) (i j : Nat) : nums (s.extract i j) = ((nums s).drop i).take (j - i) := by
  rw [nums_data, nums_data, Lib.extract_data, List.map_take, List.map_drop]
theorem cut_perm {R O : List Int} {i : Nat} (h : i < R.length) : ((O ++ [R[i]]) ++ (R.take i ++ R.drop (i + 1))).Perm (O ++ R) := by
  rw [List.append_assoc]
  apply List.Perm.append_left
  have e : R = R.take i ++ R[i] :: R.drop (i + 1) := by rw [← List.drop_eq_getElem_cons h, List.take_append_drop]
  rw [List.singleton_append]
  conv => rhs; rw [e]
  exact List.perm_middle.symm
/-- What is out and what is left are together the bells of rounds. -/
def RowSt (n : Nat) (out rest : ByteArray) : Prop := (nums out ++ nums rest).Perm (nums (roundsS n))
theorem RowSt.sizes {n : Nat} {out rest : ByteArray} (h : RowSt n out rest) (hn : n ≤ 8) : out.size + rest.size = n := by
  have := h.length_eq
  rw [List.length_append, nums_len, nums_len, nums_len, rounds_size n (by omega)] at this
  exact this
theorem RowSt.step {n i : Nat} {out rest : ByteArray} (h : RowSt n out rest) (hi : i < rest.size) : RowSt n (out ++ rest.extract i (i + 1)) (rest.extract 0 i ++ rest.extract (i + 1) rest.size) := by
  have hl : i < (nums rest).length := by rw [nums_len]; exact hi
  have e1 : nums (rest.extract i (i + 1)) = [(nums rest)[i]] := by
    rw [nums_ext, List.drop_eq_getElem_cons hl, show i + 1 - i = 0 + 1 by omega, List.take_succ_cons, List.take_zero]
  have e2 : nums (rest.extract 0 i) = (nums rest).take i := by rw [nums_ext, List.drop_zero, Nat.sub_zero]
  have e3 : nums (rest.extract (i + 1) rest.size) = (nums rest).drop (i + 1) := by
    rw [nums_ext, List.take_of_length_le]
    rw [List.length_drop, nums_len]
    exact Nat.le_refl _
  rw [RowSt, nums_app, nums_app, e1, e2, e3]
  exact (cut_perm hl).trans h
theorem RowSt.done {n : Nat} {out rest : ByteArray} (h : RowSt n out rest) (h3 : 3 ≤ n) (h8 : n ≤ 8) (h0 : rest.size = 0) : goodRow out = true ∧ out.size = n := by
  have hs := h.sizes h8
  have e : nums rest = [] := List.length_eq_zero_iff.1 (by rw [nums_len]; exact h0)
  have hp : (nums out).Perm (nums (roundsS n)) := by rw [RowSt, e, List.append_nil] at h; exact h
  have hr := goodRow_list (good_rounds n (by omega) h3)
  have ho : out.size = n := by omega
  refine ⟨goodRow_of (by omega) ⟨hp.nodup_iff.2 hr.1, fun z hz => ?_⟩, ho⟩
  have := hr.2 z (hp.mem_iff.1 hz)
  rw [hp.length_eq]
  exact this
theorem RowSt.start (n : Nat) : RowSt n ⟨#[]⟩ (roundsS n) := by
  have e : nums (⟨#[]⟩ : ByteArray) = [] := List.length_eq_zero_iff.1 (by rw [nums_len]; rfl)
  rw [RowSt, e, List.nil_append]
theorem div_lt_of {k f r : Nat} (h : k < r * f) (_hf : 0 < f) : k / f < r := Nat.div_lt_of_lt_mul (by rw [Nat.mul_comm]; exact h)
end Go.Proofs.Ytpccbmndgdiloaa
/- The walks through draws of rows and of lists of rows. -/
namespace Go.Proofs.Ytpccbmndgdiloaa
set_option linter.unusedVariables false
set_option linter.unusedSimpArgs false
open Go.ChangeShapes Go.WideShapes Go.ChangeAt Go.RowKit Go.Deep
set_option maxRecDepth 100000 in
theorem cur_pickL {A : Option Addr} {n c a p : Nat} {N : Int} {w0 w : World} (hS : Src w0 A n) (hb : Below w0.heap.size w0 w) (hp : w0.heap.size ≤ p) (hc : Cur w p A n c a) (ha : a ≤ 10000000) (hN : N ≤ 50000) (hN0 : -1000 ≤ N) :
    Calls Try.prog 97 #[.pointer (some ⟨p, 0, none⟩), .int .i64 N] w fun e w' => ∃ x : Int, e = .returned (.int .i64 x) ∧ upTo N x ∧ Cur w' p A n c (a + 2) ∧ w.grownBy w' (some p) := by
  by_cases h2 : N ≤ 200
  · refine (cur_pick hS hb hp hc (by omega) h2 hN0).mono ?_; rintro e w1 ⟨x, rfl, hx, hc1, hg1⟩
    exact ⟨x, rfl, hx, hc1.mono (by omega), hg1⟩
  · have G : Hid (∀ u : World, w.grownBy u (some p) → Below w0.heap.size w0 u) := Lib.hid (fun u hg => grown_below hb hp hg)
    have hI : (200 : Int) < N := by omega
    have hI1 : ¬ N ≤ 1 := by omega
    have hN1 : ¬ N = 0 := by omega
    go_in
    go_wp2_with fail
    refine (cur_next hS hb hp hc (by omega)).mono ?_; rintro e w1 ⟨x, rfl, x0, x1, hc1, hg1⟩
    go_wp2_with fail
    refine (cur_next hS (G.out _ hg1) hp hc1 (by omega)).mono ?_; rintro e w2 ⟨y, rfl, y0, y1, hc2, hg2⟩
    have hm : (x * 256 + y).tmod N = (x * 256 + y) % N := Int.tmod_eq_emod_of_nonneg (by omega)
    have m0 := Int.emod_nonneg (x * 256 + y) hN1
    have m1 := Int.emod_lt_of_pos (x * 256 + y) (show 0 < N by omega)
    go_wp2
    go_ret
    exact ⟨_, rfl, ⟨m0, .inl m1⟩, hc2, grownBy_trans hg1 hg2⟩
def txLen : Value → Nat
  | .string s => s.size
  | _ => 0
set_option maxHeartbeats 1000000 in
set_option maxRecDepth 100000 in
theorem spec_RowOf {n k : Nat} {w : World} (h3 : 3 ≤ n) (h8 : n ≤ 8) (hk : k < fact n) :
    Calls Try.prog 215 #[.int .i64 n, .int .i64 k] w fun e w' => ∃ r, e = .returned (.tuple #[.string r, .bool true]) ∧ RowN n r ∧ Below w.heap.size w w' := by
  have hfn := fact_le8 h8
  have HF : Hid (∀ k, k ≤ 8 → fact k ≤ 40320) := Lib.hid (fun k hk => fact_le8 hk)
  have HP : Hid (∀ k, 0 < fact k) := Lib.hid fact_pos
  have HM : Hid (∀ k, 0 < k → fact k = k * fact (k - 1)) := Lib.hid (fun k hk => by obtain ⟨m, rfl⟩ : ∃ m, k = m + 1 := ⟨k - 1, by omega⟩; rfl)
  have HST := Lib.hid (RowSt.start n)
  have hrs : (roundsS n).size = n := rounds_size n (by omega)
  have h1 : inB (n : Int) 3 8 = true := by rw [inB, decide_eq_true_iff]; omega
  have h2 : inB (k : Int) 0 ((fact n : Int) - 1) = true := by rw [inB, decide_eq_true_iff]; omega
  go_in
  go_wp2_with (first | (go_at_call 104; refine (spec_l1In _ _ _ _).mono ?_; (first | rw [h1] | rw [h2]); rintro e w' ⟨rfl, rfl⟩) | (go_at_call 123; refine (spec_l1Fact h8).mono ?_; rintro e w' ⟨rfl, rfl⟩) | (go_at_call 108; refine (spec_l1Rounds h8).mono ?_; rintro e w' ⟨rfl, rfl⟩))
  go_loopw [1, 6, 7] (fun kk r o wr => ∃ (K : Nat) (rest out : ByteArray), kk = .int .i64 K ∧ r = .string rest ∧ o = .string out ∧ rest.size ≤ n ∧ K < fact rest.size ∧ Hid (RowSt n out rest) ∧ Below w.heap.size w wr) (fun _ r _ _ => txLen r)
  case atStart => exact ⟨k, roundsS n, ⟨#[]⟩, rfl, rfl, rfl, by omega, by rw [hrs]; exact hk, HST, Below.refl _ _⟩
  case round =>
    obtain ⟨K, rest, out, rfl, rfl, rfl, hrn, hK, HS, hb⟩ := hrel
    rename World => wr
    have hsz := HS.out.sizes h8
    by_cases h0 : 0 < rest.size
    · have hI : (0 : Int) < (rest.size : Int) := by omega
      have hm1 : (rest.size : Int) - 1 = ((rest.size - 1 : Nat) : Int) := by omega
      obtain ⟨F, hF⟩ : ∃ F, F = fact (rest.size - 1) := ⟨_, rfl⟩
      have hFp : 0 < F := by rw [hF]; exact HP.out _
      have hFl : F ≤ 40320 := by rw [hF]; exact HF.out _ (by omega)
      have hKF : K < rest.size * F := by rw [hF, ← HM.out _ h0]; exact hK
      have hK4 : K ≤ 40320 := by have := HF.out rest.size (by omega); omega
      have hi : K / F < rest.size := div_lt_of hKF hFp
      have hmod : K % F < F := Nat.mod_lt _ hFp
      obtain ⟨q, hq⟩ : ∃ q, q = K / F := ⟨_, rfl⟩
      obtain ⟨m, hm⟩ : ∃ m, m = K % F := ⟨_, rfl⟩
      have hqK : q ≤ K := by rw [hq]; exact Nat.div_le_self K F
      have e1 : IntKind.i64.wrap ((K : Int) / (F : Int)) = (q : Int) := by
        rw [show (K : Int) / (F : Int) = (q : Int) by rw [hq]; simp]; exact wrap_id (by omega)
      have e2 : (K : Int) % (F : Int) = (m : Int) := by rw [hm]; simp
      rw [← hq] at hi
      rw [← hm] at hmod
      have HST2 := Lib.hid (HS.out.step hi)
      have hFn : ¬ (F : Int) = 0 := by omega
      have hs2 := HST2.out.sizes h8
      have hs3 : (out ++ rest.extract q (q + 1)).size = out.size + 1 := by rw [ByteArray.size_append, ByteArray.size_extract]; omega
      have hfq : fact (rest.extract 0 q ++ rest.extract (q + 1) rest.size).size = F := by rw [hF]; congr 1; omega
      have HF2 := Lib.hid hF
      have HS2 := Lib.hid hfq
      clear hq hm hfq hF
      clear hKF hK
      go_wp2_with (go_at_call 123; refine (spec_l1Fact (n := rest.size - 1) (by omega)).mono ?_; rw [← HF2.out]; rintro e w' ⟨rfl, rfl⟩)
      have w1 : IntKind.i64.wrap ((q : Int) + 1) = (q : Int) + 1 := wrap_id (by omega)
      have w2 : (q : Int) + 1 ≤ (rest.size : Int) := by omega
      have w3 : (q : Int) ≤ (rest.size : Int) := by omega
      go_quiet (fail)
      go_wp2
      go_roundw
      case rel => exact ⟨m, rest.extract 0 q ++ rest.extract (q + 1) rest.size, out ++ rest.extract q (q + 1), by go_num, rfl, rfl, by omega, by rw [HS2.out]; exact hmod, HST2, below_drewN hb _⟩
      case measure => simp [txLen]; omega
    · go_wp2
      go_ret2
      obtain ⟨h5, h6⟩ := HS.out.done h3 h8 (by omega)
      exact ⟨out, rfl, ⟨h5, h6⟩, hb⟩
end Go.Proofs.Ytpccbmndgdiloaa
/- The walks through the order of a row and the rows of a course. -/
namespace Go.Proofs.Ytpccbmndgdiloaa
set_option linter.unusedVariables false
set_option linter.unusedSimpArgs false
open Go.ChangeShapes Go.WideShapes Go.ChangeAt Go.RowKit Go.Deep
theorem rAt_row {n : Nat} {a : ByteArray} (h : RowN n a) (l : List ByteArray) : ∀ k, RowN n (rAt a l k)
  | 0 => h
  | k + 1 => by rw [rAt]; exact (rAt_row h l k).apply _
theorem rowsL_row {n : Nat} {a : ByteArray} (h : RowN n a) (l : List ByteArray) (m : Nat) : ∀ s ∈ rowsL a l m, RowN n s := fun s hs => by
  obtain ⟨k, _, rfl⟩ := List.mem_map.1 hs
  exact rAt_row h l k
theorem bytes_ne' {y s : ByteArray} (h : ¬ y = s) : (y.toList == s.toList) = false := by
  rw [beq_eq_false_iff_ne]; exact fun e => h (toList_inj e)
set_option maxHeartbeats 1000000 in
set_option maxRecDepth 100000 in
theorem spec_l1Order {a : ByteArray} {n : Nat} {w : World} (hg : RowN n a) :
    Calls Try.prog 222 #[.string a] w fun e w' => ∃ k : Nat, e = .returned (.int .i64 k) ∧ 1 ≤ k ∧ k ≤ fact n ∧ w = w' := by
  obtain ⟨h3, h8⟩ := hg.st
  have h40 : fact n ≤ 40320 := fact_le8 h8
  have hsz := hg.2
  have HG := Lib.hid hg
  clear hg
  go_in
  go_wp2
  go_loopw [3, 4] (fun v p wr => ∃ k : Nat, 1 ≤ k ∧ v = .int .i64 k ∧ p = .string (pwS n a k) ∧ Hid (∀ j, 1 ≤ j → j < k → pwS n a j ≠ roundsS n) ∧ w = wr) (fun v _ _ => 40321 - (intOf v).toNat)
  case atStart => exact ⟨1, Nat.le_refl _, rfl, by rw [pw_one HG.out], Lib.hid (fun j h1 h2 => absurd h1 (by omega)), rfl⟩
  case round =>
    obtain ⟨k, hk, rfl, rfl, HK, rfl⟩ := hrel
    have hlf : k ≤ fact n := pwL_le HG.out HK.out
    have hle : k ≤ 40320 := Nat.le_trans hlf h40
    have hpN := pw_row HG.out k
    have HPS := Lib.hid (show pwS n a (k + 1) = timesS (pwS n a k) a from rfl)
    have hft := rowN_fits hpN HG.out
    obtain ⟨p, hp⟩ : ∃ p, p = pwS n a k := ⟨_, rfl⟩
    have HP := Lib.hid hp
    rw [← hp] at hpN hft
    rw [← hp]
    have hps : p.size ≤ 16777216 := by rw [hpN.2]; omega
    by_cases he : p = roundsS n
    · have hbe : (p.toList == (roundsS n).toList) = true := by rw [he]; simp
      clear hp he
      go_wp2_with (go_at_call 108; refine (spec_l1Rounds h8).mono ?_; rintro e w' ⟨rfl, rfl⟩)
      go_ret
      exact ⟨k, rfl, hk, hlf, rfl⟩
    · have hbe := bytes_ne' he
      have HN := Lib.hid he
      clear hp he
      go_wp2_with (first | (go_at_call 108; refine (spec_l1Rounds h8).mono ?_; rintro e w' ⟨rfl, rfl⟩) | (go_at_call 176; refine (spec_l1Times hps (by omega) hft).mono ?_; rintro e w' ⟨rfl, rfl⟩))
      go_roundw
      case rel => exact ⟨k + 1, by omega, by go_num, by rw [HPS.out, ← HP.out], Lib.hid (fun j h1 h2 => by
          by_cases e : j = k
          · rw [e, ← HP.out]; exact HN.out
          · exact HK.out j h1 (by omega)), trivial⟩
      case measure => simp [intOf]; omega
set_option maxHeartbeats 1000000 in
set_option maxRecDepth 100000 in
theorem spec_l4Head {A : Option Addr} {n c st : Nat} {nm : ByteArray} {l : List ByteArray} {w : World} (hn : l.length = n) (h : Strs w A l) (hz : n ≤ 1048576) (hs : ∀ s ∈ l, s.size ≤ 16777216) (h8 : st ≤ 8) :
    Calls Try.prog 223 #[.agg #[.string nm, .int .i64 (st : Int), .slice A n c]] w fun e w' => e = .returned (.string (rAt (roundsS st) l n)) ∧ Below w.heap.size w w' := by
  have b0 : Below w.heap.size w (w.alloc (.cells ⟨[.string nm, .int .i64 (st : Int), .slice A n c]⟩ 26)) := by (repeat' (first | (with_reducible exact Below.refl _ _) | (with_reducible assumption) | (with_reducible refine below_drewN ?_ _) | (with_reducible refine Below.drew ?_) | (with_reducible refine below_alloc ?_ _) | (with_reducible refine Below.alloc ?_ ?_ _) | (with_reducible refine Below.setCell ?_ ?_ _) | (with_reducible refine below_go ?_ (by with_reducible assumption)) | (with_reducible refine below_then (by with_reducible assumption) ?_ ?_) | go_size))
  have K0 := Blk.at_ w 26 [.string nm, .int .i64 (st : Int), .slice A n c] (b := w.heap.size) rfl
  have HS := Lib.hid hs
  have HN := Lib.hid hn
  have hr8 : (roundsS st).size ≤ 8 := by rw [rounds_size st (by omega)]; exact h8
  clear hs hn
  go_in
  go_upto_region 1 with fail
  obtain ⟨w0, hw0⟩ : ∃ u, u = w.alloc (.cells #[.string nm, .int .i64 (st : Int), .slice A n c] 26) := ⟨_, rfl⟩
  rw [← hw0] at b0 K0 ⊢
  clear hw0
  have H0 := h.up b0
  have k1 := K0.cell 1; have k2 := K0.cell 2
  simp only [List.getElem?_cons_zero, List.getElem?_cons_succ] at k1 k2
  go_region_held3 (fun u => u.cell? ⟨w.heap.size, 1, none⟩ = some (.int .i64 (st : Int)) ∧ u.cell? ⟨w.heap.size, 2, none⟩ = some (.slice A n c)) (first | exact ⟨k1d, k2d⟩ | exact ⟨k1, k2⟩) (first | (go_at_call 108; refine (spec_l1Rounds h8).mono ?_; rintro e w' ⟨rfl, rfl⟩) | (go_at_call 126; refine (spec_l4Lead hr8 HN.out H0.drew (by omega) HS.out).mono ?_; rintro e w1 ⟨A1, c1, rfl, ho, hbd⟩; have hb1 := below_of_drew hbd; have L0 := K0.up hb1; have k1d := L0.cell 1; have k2d := L0.cell 2; simp only [List.getElem?_cons_zero, List.getElem?_cons_succ] at k1d k2d))
  go_wp2
  go_ret
  exact ⟨rfl, below_go b0 hb1⟩
set_option maxHeartbeats 2000000 in
set_option maxRecDepth 100000 in
theorem spec_l4Course {A : Option Addr} {n c st : Nat} {nm : ByteArray} {l : List ByteArray} {w : World} (hn : l.length = n) (h : Strs w A l) (hz : n ≤ 12) (h0 : 1 ≤ n) (hs : ∀ s ∈ l, s.size ≤ 16777216) (h3 : 3 ≤ st) (h6 : st ≤ 6) :
    Calls Try.prog 187 #[.agg #[.string nm, .int .i64 (st : Int), .slice A n c]] w fun e w' => ∃ A' m c' L, e = .returned (.slice A' m c') ∧ 1 ≤ m ∧ m ≤ 8640 ∧ Hid (∀ s ∈ L, RowN st s) ∧ Owned strE 1 9 w' w.heap.size A' m c' L ∧ Below w.heap.size w w' := by
  have b0 : Below w.heap.size w (w.alloc (.cells ⟨[.string nm, .int .i64 (st : Int), .slice A n c]⟩ 26)) := by (repeat' (first | (with_reducible exact Below.refl _ _) | (with_reducible assumption) | (with_reducible refine below_drewN ?_ _) | (with_reducible refine Below.drew ?_) | (with_reducible refine below_alloc ?_ _) | (with_reducible refine Below.alloc ?_ ?_ _) | (with_reducible refine Below.setCell ?_ ?_ _) | (with_reducible refine below_go ?_ (by with_reducible assumption)) | (with_reducible refine below_then (by with_reducible assumption) ?_ ?_) | go_size))
  have K0 := Blk.at_ w 26 [.string nm, .int .i64 (st : Int), .slice A n c] (b := w.heap.size) rfl
  have HS := Lib.hid hs
  have HN := Lib.hid hn
  have hR := rowN_rounds h3 (by omega : st ≤ 8)
  have hF : fact st ≤ 720 := by
    have : st = 3 ∨ st = 4 ∨ st = 5 ∨ st = 6 := by omega
    rcases this with rfl | rfl | rfl | rfl <;> decide
  have HH := Lib.hid (rAt_row hR l n)
  clear hs hn
  go_in
  go_wp2_with fail
  obtain ⟨w0, hw0⟩ : ∃ u, u = w.alloc (.cells #[.string nm, .int .i64 (st : Int), .slice A n c] 26) := ⟨_, rfl⟩
  rw [← hw0] at b0 K0 ⊢
  clear hw0
  have H0 := h.up b0
  have k0 := K0.cell 0; have k1 := K0.cell 1; have k2 := K0.cell 2
  simp only [List.getElem?_cons_zero, List.getElem?_cons_succ] at k0 k1 k2
  refine (spec_l1Rounds (by omega : st ≤ 8)).mono ?_; rintro e w' ⟨rfl, rfl⟩
  go_wp2_with fail
  refine (spec_l4Head (nm := nm) (c := c) HN.out H0 (by omega) HS.out (by omega : st ≤ 8)).mono ?_; rintro e w1 ⟨rfl, hb1⟩
  go_wp2_with fail
  refine (spec_l1Order HH.out).mono ?_; rintro e w2 ⟨K, rfl, hK1, hK2, rfl⟩
  have B1 := below_go b0 hb1
  have K1 := K0.up hb1
  have H1 := H0.up hb1
  have R1 := Lib.hid H1
  have KK := Lib.hid K1
  clear H0 K0 k0 k1 k2 h K1 H1 hb1
  have hsz1 := B1.size
  go_wp2
  go_loopw [3, 4, 5] (fun v hh i wr => ∃ (k m : Nat) (A' : Option Addr) (c' : Nat) (L : List ByteArray) (x : ByteArray), k ≤ K ∧ i = .int .i64 k ∧ hh = .string x ∧ v = .slice A' m c' ∧ Hid (m = (K - k) * n) ∧ Hid (RowN st x) ∧ Hid (∀ s ∈ L, RowN st s) ∧ Hid (Owned strE 1 9 wr w1.heap.size A' m c' L) ∧ Below w1.heap.size w1 wr) (fun _ _ i _ => (intOf i).toNat)
  case atStart => exact ⟨K, 0, none, 0, [], roundsS st, Nat.le_refl _, rfl, rfl, rfl, Lib.hid (by rw [Nat.sub_self, Nat.zero_mul]), Lib.hid hR, Lib.hid (fun s hs => by cases hs), Lib.hid (Owned.nil strE_len _ _ _), Below.refl _ _⟩
  case round =>
    obtain ⟨k, m, A2, c2, L, x, hk, rfl, rfl, rfl, hm, HX, HL, HO, hb⟩ := hrel
    rename World => wr
    by_cases h1 : 0 < k
    · have hI : (0 : Int) < (k : Int) := by omega
      have KR := KK.out.up hb
      have k2 := KR.cell 2
      simp only [List.getElem?_cons_zero, List.getElem?_cons_succ] at k2
      have hx8 : x.size ≤ 8 := by rw [HX.out.2]; omega
      have hm1 : m + n ≤ 16777216 := by
        have h2 : (K - k) * n ≤ 720 * 12 := Nat.mul_le_mul (by omega) hz
        have := hm.out
        omega
      have hsz := hb.size
      clear KR
      go_wp2_with fail
      refine (spec_l4Lead hx8 HN.out (R1.out.up hb) (by omega) HS.out).mono ?_; rintro e w5 ⟨A5, c5, rfl, ho5, hb5⟩
      have HO5 := Lib.hid (HO.out.up hb5)
      have HR5 := Lib.hid ho5.recs
      have hsz5 := hb5.size
      have HX5 := Lib.hid (rAt_row HX.out l n)
      have HL5 := Lib.hid (rowsL_row HX.out l n)
      have hrl : (rowsL x l n).length = n := rowsL_len _ _ _
      obtain ⟨R5, hR5⟩ : ∃ R5, R5 = rowsL x l n := ⟨_, rfl⟩
      obtain ⟨x5, hx5⟩ : ∃ x5, x5 = rAt x l n := ⟨_, rfl⟩
      rw [← hR5] at HR5 HL5 hrl
      rw [← hx5] at HX5 ⊢
      clear hR5 hx5 ho5
      go_wp2_with (first | (at_builtin; go_must ((refine wpList_append_recs Try.elStr strE_one rfl (.tmp 25) (.tmp 26) rfl rfl HO5.out rfl HR5.out hrl ?_ (by decide) ?_ ?_; (focus (first | omega | (simp only [World.size_alloc]; done) | (simp only [World.size_alloc]; omega) | (simp; done) | (simp; omega))); omega; intro A6 c6 w6 ho6 hg6 hl6; have HO6 := Lib.hid ho6; have HB6 := Lib.hid (grown_base hg6 (by omega) (fun k hk => (HO5.out.blk hk).1)); clear ho6 hg6 hl6))))
      go_roundw
      case rel => exact ⟨k - 1, m + n, A6, c6, L ++ R5, x5, by omega, by go_num, rfl, rfl, Lib.hid (by rw [show K - (k - 1) = (K - k) + 1 by omega, Nat.succ_mul, ← hm.out]), HX5, Lib.hid (fun s hs => by
          rcases List.mem_append.1 hs with hs | hs
          · exact HL.out s hs
          · exact HL5.out s hs), HO6, (below_go hb hb5).trans HB6.out⟩
      case measure => simp [intOf]; omega
    · obtain rfl : k = 0 := by omega
      go_wp2
      go_ret
      have hKn : 1 * 1 ≤ (K - 0) * n := Nat.mul_le_mul (by omega) h0
      have hKn2 : (K - 0) * n ≤ 720 * 12 := Nat.mul_le_mul (by omega) hz
      have hm2 := hm.out
      exact ⟨_, m, _, L, rfl, by omega, by omega, HL, HO.out.base_le hsz1, below_go B1 hb⟩
end Go.Proofs.Ytpccbmndgdiloaa
