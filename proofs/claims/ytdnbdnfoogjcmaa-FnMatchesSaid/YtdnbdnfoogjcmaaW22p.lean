/- The walks through the table of remaining costs, both sides. -/
import Derived.Test.YtdnbdnfoogjcmaaW22c
import Derived.Test.YtdnbdnfoogjcmaaP22t
import Derived.Test.YtdnbdnfoogjcmaaTab
import Derived.Test.YtdnbdnfoogjcmaaApp
namespace Go.Proofs.Ytdnbdnfoogjcmaa
set_option linter.unusedVariables false
set_option linter.unusedSimpArgs false
open Go.ChangeShapes Go.WideShapes Go.ChangeAt Go.RowKit Go.Deep

theorem spec_l1Least (x y : Int) (w : World) :
    Calls Try.prog 71 #[.int .i64 x, .int .i64 y] w fun e w' => e = .returned (.int .i64 (min x y)) ∧ w = w' := by
  go_in
  go_wp2
  all_goals go_ret
  all_goals exact ⟨ret_int (by omega), rfl⟩
theorem Calls.turn {P : Program} {f : FuncId} {args : Array Value} {w : World} {v : Value} (h : Calls P f args w fun e w' => e = .returned v ∧ w = w') : Calls P f args w fun e w' => e = .returned v ∧ w' = w :=
  h.mono fun _ _ h => ⟨h.1, h.2.symm⟩
set_option maxHeartbeats 2000000 in
set_option maxRecDepth 100000 in
theorem spec_l22Prices {A B : Option Addr} {n m c d : Nat} {a b : List Int} {s : Int} {w : World} (hn : a.length = n) (hm : b.length = m) (h : Ints w A a) (g : Ints w B b) (ha : askedM a b s = true) :
    Calls Try.prog 44 #[.slice A n c, .slice B m d, .int .i64 s] w fun e w' => ∃ vs g, e = .returned (.slice (some ⟨g, 0, none⟩) (n + 1) (n + 1)) ∧ Tab vs w' w.heap.size (some ⟨g, 0, none⟩) (n + 1) (n + 1) (pTab a b s) ∧ Below w.heap.size w w' := by
  subst hn hm
  obtain ⟨⟨a1, a2⟩, ⟨b1, b2⟩, s1, s2⟩ := askedM_t ha
  have HA := Lib.hid a2; have HB := Lib.hid b2
  have hP := Lib.hid (fun i j => pAt_bd ha i j)
  clear a2 b2
  have hmk := run_make_rec (e := slcE) Try.elInts (none, 0, 0) rfl (a.length + 1) (by omega) (by decide)
  have hmk2 := run_make_rec (e := intE) Try.elInt 0 rfl (b.length + 1) (by omega) (by decide)
  rw [show ((a.length + 1 : Nat) : Int) = (a.length : Int) + 1 by omega] at hmk
  rw [show ((b.length + 1 : Nat) : Int) = (b.length : Int) + 1 by omega] at hmk2
  simp only [Nat.mul_one] at hmk hmk2
  go_in
  go_wp2
  go_loopw [8] (fun i wr => ∃ (k : Nat) (vs : List Hd), k ≤ a.length + 1 ∧ i = .int .i64 ((k : Int) - 1) ∧ Part vs wr w.heap.size w.heap.size (a.length + 1) (fun i => k ≤ i) (pRow a b s) ∧ Below w.heap.size w wr) (fun i _ => (intOf i + 1).toNat)
  case atStart =>
    refine ⟨a.length + 1, List.replicate (a.length + 1) (none, 0, 0), Nat.le_refl _, by go_num, ⟨Nat.le_refl _, ?_, fun i hi hn => absurd hi (by omega), fun i j hi _ hn => absurd hi (by omega)⟩, by (repeat' (first | (with_reducible exact Below.refl _ _) | (with_reducible assumption) | (with_reducible refine below_drewN ?_ _) | (with_reducible refine Below.drew ?_) | (with_reducible refine below_alloc ?_ _) | (with_reducible refine Below.alloc ?_ ?_ _) | (with_reducible refine Below.setCell ?_ ?_ _) | (with_reducible refine below_go ?_ (by with_reducible assumption)) | (with_reducible refine below_then (by with_reducible assumption) ?_ ?_) | go_size))⟩
    have q := Owned.made (e := slcE) (s := 1) (base := w.heap.size) slcE_len w 24 ((none, 0, 0) : Hd) (a.length + 1) (by omega) (Nat.le_refl _)
    rw [Nat.mul_one] at q
    exact q
  case round =>
    obtain ⟨k, vs, hk, rfl, hp, hb⟩ := hrel
    cases k with
    | zero =>
      have hT := hp.tab (fun i _ => Nat.zero_le i)
      go_wp2
      go_ret
      exact ⟨vs, _, rfl, hT, hb⟩
    | succ i =>
      have hsz := hb.size
      rw [show (((i + 1 : Nat) : Int) - 1) = (i : Int) by omega]
      obtain ⟨y, hy⟩ := some_of_lt (l := vs) (k := i) (by rw [hp.top.len]; omega)
      obtain ⟨b1, e1, _, hb1, hc, hfz⟩ := hp.top.at_ (by omega)
      injection e1 with e1; injection e1 with e1; subst e1
      have old0 := hc i y 0 _ hy rfl
      have fz0 := hfz (i * 1 + 0)
      simp only [Nat.mul_one, Nat.add_zero] at old0 fz0
      have hiL : i < a.length + 1 := by omega
      have hp1 := (hp.head (i0 := i) (q := wr.heap.size) (m := b.length + 1) (c := b.length + 1) (by omega) hiL).up ((Below.refl _ _).alloc (Nat.le_refl _) (.cells (madeCells (intE 0).toArray (b.length + 1)) 3))
      have HH := Lib.hid hc
      clear hc hfz hy
      go_wp2
      have hne : ∀ i', i + 1 ≤ i' → i' < a.length + 1 → hBlk (vs.set i (some ⟨wr.heap.size, 0, none⟩, b.length + 1, b.length + 1)) i' ≠ wr.heap.size := fun i' h1 h2 => by
        rw [hb_set (by omega)]; have := (hp.row i' h1 h2).2.2.1; omega
      have hv1 : Hid ((vs.set i (some ⟨wr.heap.size, 0, none⟩, b.length + 1, b.length + 1))[i]? = some ((some ⟨wr.heap.size, 0, none⟩, b.length + 1, b.length + 1) : Hd)) := Lib.hid (List.getElem?_set_self (by rw [hp.top.len]; omega))
      obtain ⟨W1, hW1⟩ : ∃ u, u = ((wr.setCell ⟨w.heap.size, i, none⟩ (.slice (some ⟨wr.heap.size, 0, none⟩) (b.length + 1) (b.length + 1))).alloc (.cells (madeCells (intE 0).toArray (b.length + 1)) 3)) := ⟨_, rfl⟩
      have O1 : Owned intE 1 3 W1 w.heap.size (some ⟨wr.heap.size, 0, none⟩) (b.length + 1) (b.length + 1) (List.replicate (b.length + 1) 0) := by
        have O0 := Owned.made (e := intE) (s := 1) (base := w.heap.size) intE_len (wr.setCell ⟨w.heap.size, i, none⟩ (.slice (some ⟨wr.heap.size, 0, none⟩) (b.length + 1) (b.length + 1))) 3 0 (b.length + 1) (by omega) (by simpa using hsz)
        rw [Nat.mul_one, World.size_setCell] at O0
        rw [hW1]; exact O0
      have B1 : Below w.heap.size w W1 := by rw [hW1]; exact (hb.setCell (Nat.le_refl _) _).alloc (by simpa using hsz) _
      have S1 : W1.heap.size = wr.heap.size + 1 := by rw [hW1]; simp
      rw [← hW1] at hp1 ⊢
      clear hW1 hp old0 fz0 HH hb
      obtain ⟨q, hq⟩ : ∃ q, q = wr.heap.size := ⟨_, rfl⟩
      rw [← hq] at hp1 hne hv1 O1 S1 hsz ⊢
      obtain ⟨vs', hvs⟩ : ∃ u, u = (vs.set i (some ⟨q, 0, none⟩, b.length + 1, b.length + 1)) := ⟨_, rfl⟩
      rw [← hvs] at hp1 hne hv1
      have hgq : w.heap.size < q := by omega
      clear hvs hq y vs hb1 wr
      go_loopw [9] (fun v wx => ∃ (jj : Nat) (cur : List Int), jj ≤ b.length + 1 ∧ v = .int .i64 ((jj : Int) - 1) ∧ Part vs' wx w.heap.size w.heap.size (a.length + 1) (fun i' => i + 1 ≤ i') (pRow a b s) ∧ Owned intE 1 3 wx w.heap.size (some ⟨q, 0, none⟩) (b.length + 1) (b.length + 1) cur ∧ Hid (∀ j, jj ≤ j → j ≤ b.length → cur[j]? = some (pAt a b s i j)) ∧ Below w.heap.size w wx ∧ q < wx.heap.size) (fun v _ => (intOf v + 1).toNat)
      case atStart => exact ⟨b.length + 1, _, Nat.le_refl _, by go_num, hp1, O1, Lib.hid (fun j h1 h2 => absurd h1 (by omega)), B1, by omega⟩
      case round =>
        obtain ⟨jj, cur, hjj, rfl, hp2, HO, HC, hb2, hqx⟩ := hrel
        cases jj with
        | zero =>
          have hrow : cur = pRow a b s i := by
            refine eq_of_upto (k := b.length + 1) (fun j hj => ?_) HO.len (pRow_len _ _ _ _)
            rw [HC.out j (Nat.zero_le _) (by omega)]
            simp [pRow, hj]
          subst hrow
          have hp3 := hp2.add (F' := fun i' => i ≤ i') (i0 := i) (q := q) (by rw [pRow_len]; exact hv1.out) hgq (by rw [pRow_len]; exact HO) (fun i' h1 h2 _ => hne i' h1 h2) (fun i' h => by omega)
          go_wp2
          go_roundw
          case rel => exact ⟨i, vs', by omega, by go_num, hp3, hb2⟩
          case measure => simp [intOf]
        | succ j =>
          rw [show (((j + 1 : Nat) : Int) - 1) = (j : Int) by omega]
          have fin : Hid (∀ (u : World) (v : Int), Below wr.heap.size wr u → v = pAt a b s i j → Part vs' (u.setCell ⟨q, j, none⟩ (.int .i64 v)) w.heap.size w.heap.size (a.length + 1) (fun i' => i + 1 ≤ i') (pRow a b s) ∧ Owned intE 1 3 (u.setCell ⟨q, j, none⟩ (.int .i64 v)) w.heap.size (some ⟨q, 0, none⟩) (b.length + 1) (b.length + 1) (cur.set j v) ∧ Below w.heap.size w (u.setCell ⟨q, j, none⟩ (.int .i64 v)) ∧ q < (u.setCell ⟨q, j, none⟩ (.int .i64 v)).heap.size ∧ Hid (∀ j', j ≤ j' → j' ≤ b.length → (cur.set j v)[j']? = some (pAt a b s i j'))) := Lib.hid (fun u v hu hv => by
            obtain ⟨y, hy⟩ := some_of_lt (l := cur) (k := j) (by rw [HO.len]; omega)
            have p0 := (HO.up hu).put (j := 0) (x := v) (u := .int .i64 v) hy (by decide) rfl
            simp only [Nat.mul_one, Nat.add_zero] at p0
            refine ⟨(hp2.up hu).past p0.2 (by omega) (fun i' h1 h2 => hne i' h1 h2), p0.1, (hb2.trans (hu.mono hb2.size)).setCell (by show w.heap.size ≤ q; omega) _, by have := hu.size; simp; omega, Lib.hid fun j' h1 h2 => ?_⟩
            by_cases e : j' = j
            · subst e
              rw [List.getElem?_set_self (by rw [HO.len]; omega), hv]
            · rw [List.getElem?_set_ne (fun e1 => e e1.symm)]
              exact HC.out j' (by omega) h2)
          obtain ⟨_, e1, _, _, hcq, hfq⟩ := HO.at_ (by omega)
          injection e1 with e1; injection e1 with e1; subst e1
          obtain ⟨y, hy⟩ := some_of_lt (l := cur) (k := j) (by rw [HO.len]; omega)
          have old0 := hcq j y 0 _ hy rfl
          have fz0 := hfq (j * 1 + 0)
          obtain ⟨_, e1, _, _, hct, _⟩ := hp2.top.at_ (by omega)
          injection e1 with e1; injection e1 with e1; subst e1
          have ct := hct i _ 0 _ hv1.out rfl
          simp only [Nat.mul_one, Nat.add_zero] at old0 fz0 ct
          have bij := hP.out i j
          clear hmk hmk2
          by_cases hi : i < a.length
          · by_cases hj : j < b.length
            · obtain ⟨b3, o3, x, rfl, _, hx, hcx⟩ := (h.below hb2 (Nat.le_refl _)).at_int hi
              obtain ⟨b4, o4, y', rfl, _, hy', hcy⟩ := (g.below hb2 (Nat.le_refl _)).at_int hj
              have E0 := Lib.hid (pAt_in (s := s) hx hy')
              have r0 : (pRow a b s (i + 1))[j]? = some (pAt a b s (i + 1) j) := by rw [pRow, List.getElem?_map, List.getElem?_range (by omega)]; rfl
              have r1 : (pRow a b s (i + 1))[j + 1]? = some (pAt a b s (i + 1) (j + 1)) := by rw [pRow, List.getElem?_map, List.getElem?_range (by omega)]; rfl
              obtain ⟨t1, t2⟩ := hp2.at_ (i := i + 1) (Nat.le_refl _) (by omega) r0
              have t3 := (hp2.at_ (i := i + 1) (Nat.le_refl _) (by omega) r1).2
              have t4 := hcq (j + 1) _ 0 _ (HC.out (j + 1) (Nat.le_refl _) (by omega)) rfl
              simp only [Nat.mul_one, Nat.add_zero, pRow_len] at t1 t4
              have p1 := hP.out (i + 1) j; have p2 := hP.out i (j + 1); have p3 := hP.out (i + 1) (j + 1)
              have x1 := HA.out x (List.mem_of_getElem? hx); have y1 := HB.out y' (List.mem_of_getElem? hy')
              have za := absZ_bd (x - y')
              clear hcq hct hy hx hy' r0 r1
              obtain ⟨u1, hu1⟩ : ∃ u, u = pAt a b s (i + 1) j := ⟨_, rfl⟩
              obtain ⟨u2, hu2⟩ : ∃ u, u = pAt a b s i (j + 1) := ⟨_, rfl⟩
              obtain ⟨u3, hu3⟩ : ∃ u, u = pAt a b s (i + 1) (j + 1) := ⟨_, rfl⟩
              rw [← hu1, ← hu2, ← hu3] at E0
              rw [← hu1] at t2 p1
              rw [← hu2] at t4 p2
              rw [← hu3] at t3 p3
              clear hu1 hu2 hu3
              obtain ⟨f, hf⟩ : ∃ f, f = hBlk vs' (i + 1) := ⟨_, rfl⟩
              rw [← hf] at t1 t2 t3
              clear hf
              have g3 := wrap_id (x := s + u1) (by omega)
              have g4 := wrap_id (x := s + u2) (by omega)
              go_wp2
              go_quiet ((go_at_call 71; exact quiet_left (spec_l1Least _ _ _)))
              go_wp2
              have hiI : (i : Int) < (a.length : Int) + 1 := by omega
              have hiJ : (i : Int) < (a.length : Int) := by omega
              have hjI : (j : Int) < (b.length : Int) + 1 := by omega
              have hjJ : (j : Int) < (b.length : Int) := by omega
              have hi0 : (0 : Int) ≤ (i : Int) + 1 := by omega
              have hj0 : (0 : Int) ≤ (j : Int) + 1 := by omega
              have ti : ((i : Int) + 1).toNat = i + 1 := by omega
              have tj : ((j : Int) + 1).toNat = j + 1 := by omega
              obtain ⟨wu, hwu⟩ : ∃ u, u = wr.drewN nq := ⟨_, rfl⟩
              rw [← hwu]
              have hcell : ∀ p, wr.cell? p = wu.cell? p := fun p => by rw [hwu]; rfl
              have hfroz : ∀ p, wr.frozen? p = wu.frozen? p := fun p => by rw [hwu]; rfl
              have Bu : Below wr.heap.size wr wu := by rw [hwu]; exact below_drewN (Below.refl _ _) _
              rw [hcell] at old0 ct t1 t2 t3 t4 hcx hcy
              rw [hfroz] at fz0
              clear hwu hcell hfroz
              have g1 : IntKind.i64.wrap ((i : Int) + 1) = (i : Int) + 1 := wrap_id (by omega)
              have g2 : IntKind.i64.wrap ((j : Int) + 1) = (j : Int) + 1 := wrap_id (by omega)
              have g5 : IntKind.i64.wrap (absZ (x - y') + u3) = absZ (x - y') + u3 := wrap_id (by omega)
              refine wp_region_still_tail 27 (by kernel_rfl) (by kernel_rfl) ?_
              simp only [List.take_succ_cons, List.take_zero, List.drop_succ_cons, List.drop_zero]
              repeat still_step
              still_call (Calls.turn (spec_l22Far x y' _ (by omega)))
              repeat still_step
              still_call (Calls.turn (spec_l1Least (s + min u1 u2) (absZ (x - y') + u3) _))
              repeat still_step
              refine wpStill_nil ?_
              go_wp2
              go_roundw
              case rel =>
                obtain ⟨f1, f2, f3, f4, f5⟩ := fin.out wu.drew (min (s + min u1 u2) (absZ (x - y') + u3)) (Below.drew Bu) (by rw [E0.out]; omega)
                exact ⟨j, _, by omega, by go_num, f1, f2, f5, f3, f4⟩
              case measure => simp [intOf]
            · obtain rfl : j = b.length := by omega
              have E0 := Lib.hid (pAt_right a b s (i := i) (j := b.length) (by omega) hj)
              rw [E0.out] at bij
              clear hcq hct hy
              go_wp2
              go_roundw
              case rel =>
                obtain ⟨f1, f2, f3, f4, f5⟩ := fin.out _ _ (Below.refl _ _) E0.out.symm
                exact ⟨b.length, _, by omega, by go_num, f1, f2, f5, f3, f4⟩
              case measure => simp [intOf]
          · obtain rfl : i = a.length := by omega
            have E0 := Lib.hid (pAt_bottom a b s (i := a.length) (j := j) hi (by omega))
            rw [E0.out] at bij
            clear hcq hct hy
            go_wp2
            go_roundw
            case rel =>
              obtain ⟨f1, f2, f3, f4, f5⟩ := fin.out _ _ (Below.refl _ _) E0.out.symm
              exact ⟨j, _, by omega, by go_num, f1, f2, f5, f3, f4⟩
            case measure => simp [intOf]
end Go.Proofs.Ytdnbdnfoogjcmaa
