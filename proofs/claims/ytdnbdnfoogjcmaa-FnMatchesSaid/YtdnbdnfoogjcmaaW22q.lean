/- The walk through the program's table of remaining costs. -/
import Derived.Test.YtdnbdnfoogjcmaaW22p
namespace Go.Proofs.Ytdnbdnfoogjcmaa
set_option linter.unusedVariables false
set_option linter.unusedSimpArgs false
open Go.ChangeShapes Go.WideShapes Go.ChangeAt Go.RowKit Go.Deep
set_option maxHeartbeats 2000000 in
set_option maxRecDepth 100000 in
theorem impl_prices {A B : Option Addr} {n m c d : Nat} {a b : List Int} {s : Int} {w : World} (hn : a.length = n) (hm : b.length = m) (h : Ints w A a) (g : Ints w B b) (ha : askedM a b s = true) :
    Calls Try.prog 43 #[.slice A n c, .slice B m d, .int .i64 s] w fun e w' => ∃ vs g, e = .returned (.slice (some ⟨g, 0, none⟩) (n + 1) (n + 1)) ∧ Tab vs w' w.heap.size (some ⟨g, 0, none⟩) (n + 1) (n + 1) (pTab a b s) ∧ Below w.heap.size w w' := by
  subst hn hm
  obtain ⟨⟨a1, a2⟩, ⟨b1, b2⟩, s1, s2⟩ := askedM_t ha
  have HA := Lib.hid a2; have HB := Lib.hid b2
  have hP := Lib.hid (fun i j => pAt_bd ha i j)
  clear a2 b2
  have hmk := run_make_rec (e := slcE) Try.elInts (none, 0, 0) rfl (a.length + 1) (by omega) (by decide)
  have hmk2 := run_make_rec (e := intE) Try.elInt 0 rfl (b.length + 1) (by omega) (by decide)
  rw [show ((a.length + 1 : Nat) : Int) = (a.length : Int) + 1 by omega] at hmk
  rw [show ((b.length + 1 : Nat) : Int) = (b.length : Int) + 1 by omega] at hmk2
  simp only [Nat.mul_one] at hmk hmk2
  go_in
  go_wp2
  go_loopw [8] (fun i wr => ∃ (k : Nat) (vs : List Hd), k ≤ a.length + 1 ∧ i = .int .i64 ((k : Int) - 1) ∧ Part vs wr w.heap.size w.heap.size (a.length + 1) (fun i => k ≤ i) (pRow a b s) ∧ Below w.heap.size w wr) (fun i _ => (intOf i + 1).toNat)
  case atStart =>
    refine ⟨a.length + 1, List.replicate (a.length + 1) (none, 0, 0), Nat.le_refl _, by go_num, ⟨Nat.le_refl _, ?_, fun i hi hn => absurd hi (by omega), fun i j hi _ hn => absurd hi (by omega)⟩, by (repeat' (first | (with_reducible exact Below.refl _ _) | (with_reducible assumption) | (with_reducible refine below_drewN ?_ _) | (with_reducible refine Below.drew ?_) | (with_reducible refine below_alloc ?_ _) | (with_reducible refine Below.alloc ?_ ?_ _) | (with_reducible refine Below.setCell ?_ ?_ _) | (with_reducible refine below_go ?_ (by with_reducible assumption)) | (with_reducible refine below_then (by with_reducible assumption) ?_ ?_) | go_size))⟩
    have q := Owned.made (e := slcE) (s := 1) (base := w.heap.size) slcE_len w 24 ((none, 0, 0) : Hd) (a.length + 1) (by omega) (Nat.le_refl _)
    rw [Nat.mul_one] at q
    exact q
  case round =>
    obtain ⟨k, vs, hk, rfl, hp, hb⟩ := hrel
    cases k with
    | zero =>
      have hT := hp.tab (fun i _ => Nat.zero_le i)
      go_wp2
      go_ret
      exact ⟨vs, _, rfl, hT, hb⟩
    | succ i =>
      have hsz := hb.size
      rw [show (((i + 1 : Nat) : Int) - 1) = (i : Int) by omega]
      obtain ⟨y, hy⟩ := some_of_lt (l := vs) (k := i) (by rw [hp.top.len]; omega)
      obtain ⟨b1, e1, _, hb1, hc, hfz⟩ := hp.top.at_ (by omega)
      injection e1 with e1; injection e1 with e1; subst e1
      have old0 := hc i y 0 _ hy rfl
      have fz0 := hfz (i * 1 + 0)
      simp only [Nat.mul_one, Nat.add_zero] at old0 fz0
      have hiL : i < a.length + 1 := by omega
      have hp1 := (hp.head (i0 := i) (q := wr.heap.size) (m := b.length + 1) (c := b.length + 1) (by omega) hiL).up ((Below.refl _ _).alloc (Nat.le_refl _) (.cells (madeCells (intE 0).toArray (b.length + 1)) 3))
      have HH := Lib.hid hc
      clear hc hfz hy
      go_wp2
      have hne : ∀ i', i + 1 ≤ i' → i' < a.length + 1 → hBlk (vs.set i (some ⟨wr.heap.size, 0, none⟩, b.length + 1, b.length + 1)) i' ≠ wr.heap.size := fun i' h1 h2 => by
        rw [hb_set (by omega)]; have := (hp.row i' h1 h2).2.2.1; omega
      have hv1 : Hid ((vs.set i (some ⟨wr.heap.size, 0, none⟩, b.length + 1, b.length + 1))[i]? = some ((some ⟨wr.heap.size, 0, none⟩, b.length + 1, b.length + 1) : Hd)) := Lib.hid (List.getElem?_set_self (by rw [hp.top.len]; omega))
      obtain ⟨W1, hW1⟩ : ∃ u, u = ((wr.setCell ⟨w.heap.size, i, none⟩ (.slice (some ⟨wr.heap.size, 0, none⟩) (b.length + 1) (b.length + 1))).alloc (.cells (madeCells (intE 0).toArray (b.length + 1)) 3)) := ⟨_, rfl⟩
      have O1 : Owned intE 1 3 W1 w.heap.size (some ⟨wr.heap.size, 0, none⟩) (b.length + 1) (b.length + 1) (List.replicate (b.length + 1) 0) := by
        have O0 := Owned.made (e := intE) (s := 1) (base := w.heap.size) intE_len (wr.setCell ⟨w.heap.size, i, none⟩ (.slice (some ⟨wr.heap.size, 0, none⟩) (b.length + 1) (b.length + 1))) 3 0 (b.length + 1) (by omega) (by simpa using hsz)
        rw [Nat.mul_one, World.size_setCell] at O0
        rw [hW1]; exact O0
      have B1 : Below w.heap.size w W1 := by rw [hW1]; exact (hb.setCell (Nat.le_refl _) _).alloc (by simpa using hsz) _
      have S1 : W1.heap.size = wr.heap.size + 1 := by rw [hW1]; simp
      rw [← hW1] at hp1 ⊢
      clear hW1 hp old0 fz0 HH hb
      obtain ⟨q, hq⟩ : ∃ q, q = wr.heap.size := ⟨_, rfl⟩
      rw [← hq] at hp1 hne hv1 O1 S1 hsz ⊢
      obtain ⟨vs', hvs⟩ : ∃ u, u = (vs.set i (some ⟨q, 0, none⟩, b.length + 1, b.length + 1)) := ⟨_, rfl⟩
      rw [← hvs] at hp1 hne hv1
      have hgq : w.heap.size < q := by omega
      clear hvs hq y vs hb1 wr
      go_loopw [9] (fun v wx => ∃ (jj : Nat) (cur : List Int), jj ≤ b.length + 1 ∧ v = .int .i64 ((jj : Int) - 1) ∧ Part vs' wx w.heap.size w.heap.size (a.length + 1) (fun i' => i + 1 ≤ i') (pRow a b s) ∧ Owned intE 1 3 wx w.heap.size (some ⟨q, 0, none⟩) (b.length + 1) (b.length + 1) cur ∧ Hid (∀ j, jj ≤ j → j ≤ b.length → cur[j]? = some (pAt a b s i j)) ∧ Hid (∀ j, j < jj → cur[j]? = some 0) ∧ Below w.heap.size w wx ∧ q < wx.heap.size) (fun v _ => (intOf v + 1).toNat)
      case atStart => exact ⟨b.length + 1, _, Nat.le_refl _, by go_num, hp1, O1, Lib.hid (fun j h1 h2 => absurd h1 (by omega)), Lib.hid (fun j h1 => by rw [List.getElem?_replicate, if_pos h1]), B1, by omega⟩
      case round =>
        obtain ⟨jj, cur, hjj, rfl, hp2, HO, HC, HZ, hb2, hqx⟩ := hrel
        rename World => wo
        cases jj with
        | zero =>
          have hrow : cur = pRow a b s i := by
            refine eq_of_upto (k := b.length + 1) (fun j hj => ?_) HO.len (pRow_len _ _ _ _)
            rw [HC.out j (Nat.zero_le _) (by omega)]
            simp [pRow, hj]
          subst hrow
          have hp3 := hp2.add (F' := fun i' => i ≤ i') (i0 := i) (q := q) (by rw [pRow_len]; exact hv1.out) hgq (by rw [pRow_len]; exact HO) (fun i' h1 h2 _ => hne i' h1 h2) (fun i' h => by omega)
          go_wp2
          go_roundw
          case rel => exact ⟨i, vs', by omega, by go_num, hp3, hb2⟩
          case measure => simp [intOf]
        | succ j =>
          rw [show (((j + 1 : Nat) : Int) - 1) = (j : Int) by omega]
          obtain ⟨_, e1, _, _, hcq, hfq⟩ := HO.at_ (by omega)
          injection e1 with e1; injection e1 with e1; subst e1
          have old0 := hcq j 0 0 _ (HZ.out j (by omega)) rfl
          have fz0 := hfq (j * 1 + 0)
          obtain ⟨_, e1, _, _, hct, _⟩ := hp2.top.at_ (by omega)
          injection e1 with e1; injection e1 with e1; subst e1
          have ct := hct i _ 0 _ hv1.out rfl
          simp only [Nat.mul_one, Nat.add_zero] at old0 fz0 ct
          have bij := hP.out i j
          have carry : Hid (∀ u : World, Below wo.heap.size wo u → u.cell? ⟨w.heap.size, i, none⟩ = some (.slice (some ⟨q, 0, none⟩) (b.length + 1) (b.length + 1))) := Lib.hid (fun u hu => (hu.cell (p := ⟨w.heap.size, i, none⟩) (by show w.heap.size < wo.heap.size; omega)).trans ct)
          have O0 := Owned.empty (e := intE) (s := 1) (base := wo.heap.size) intE_len 3 wo (Nat.le_refl _)
          have B0 : Below wo.heap.size wo (wo.alloc (.cells #[] 3)) := (Below.refl _ _).alloc (Nat.le_refl _) _
          by_cases hi : i < a.length
          · have r0 : (pRow a b s (i + 1))[j]? = some (pAt a b s (i + 1) j) := by rw [pRow, List.getElem?_map, List.getElem?_range (by omega)]; rfl
            obtain ⟨t1, t2⟩ := hp2.at_ (i := i + 1) (Nat.le_refl _) (by omega) r0
            have lf := (hp2.row (i + 1) (Nat.le_refl _) (by omega)).2.2.1
            simp only [pRow_len] at t1
            have p1 := hP.out (i + 1) j
            by_cases hj : j < b.length
            · obtain ⟨b3, o3, x, rfl, hb3, hx, hcx⟩ := (h.below hb2 (Nat.le_refl _)).at_int hi
              obtain ⟨b4, o4, y', rfl, hb4, hy', hcy⟩ := (g.below hb2 (Nat.le_refl _)).at_int hj
              have E0 := Lib.hid (pAt_in (s := s) hx hy')
              have r1 : (pRow a b s (i + 1))[j + 1]? = some (pAt a b s (i + 1) (j + 1)) := by rw [pRow, List.getElem?_map, List.getElem?_range (by omega)]; rfl
              have t3 := (hp2.at_ (i := i + 1) (Nat.le_refl _) (by omega) r1).2
              have p3 := hP.out (i + 1) (j + 1)
              have t4 := hcq (j + 1) _ 0 _ (HC.out (j + 1) (Nat.le_refl _) (by omega)) rfl
              simp only [Nat.mul_one, Nat.add_zero] at t4
              have p2 := hP.out i (j + 1)
              have x1 := HA.out x (List.mem_of_getElem? hx); have y1 := HB.out y' (List.mem_of_getElem? hy')
              have za := absZ_bd (x - y')
              clear hcq hct hx hy' r0 r1
              obtain ⟨u1, hu1⟩ : ∃ u, u = pAt a b s (i + 1) j := ⟨_, rfl⟩
              obtain ⟨u2, hu2⟩ : ∃ u, u = pAt a b s i (j + 1) := ⟨_, rfl⟩
              obtain ⟨u3, hu3⟩ : ∃ u, u = pAt a b s (i + 1) (j + 1) := ⟨_, rfl⟩
              rw [← hu1, ← hu2, ← hu3] at E0
              rw [← hu1] at t2 p1
              rw [← hu2] at t4 p2
              rw [← hu3] at t3 p3
              clear hu1 hu2 hu3
              obtain ⟨f, hf⟩ : ∃ f, f = hBlk vs' (i + 1) := ⟨_, rfl⟩
              rw [← hf] at t1 t2 t3 lf
              clear hf
              have carry2 : Hid (∀ u : World, Below wo.heap.size wo u → u.cell? ⟨w.heap.size, i + 1, none⟩ = some (.slice (some ⟨f, 0, none⟩) (b.length + 1) (b.length + 1)) ∧ u.cell? ⟨q, j + 1, none⟩ = some (.int .i64 u2) ∧ u.cell? ⟨f, j + 1, none⟩ = some (.int .i64 u3) ∧ u.cell? ⟨b3, o3 + i, none⟩ = some (.int .i64 x) ∧ u.cell? ⟨b4, o4 + j, none⟩ = some (.int .i64 y')) := Lib.hid (fun u hu => ⟨(hu.cell (p := ⟨w.heap.size, i + 1, none⟩) (by show w.heap.size < wo.heap.size; omega)).trans t1, (hu.cell (p := ⟨q, j + 1, none⟩) hqx).trans t4, (hu.cell (p := ⟨f, j + 1, none⟩) lf).trans t3, (hu.cell (p := ⟨b3, o3 + i, none⟩) hb3).trans hcx, (hu.cell (p := ⟨b4, o4 + j, none⟩) hb4).trans hcy⟩)
              go_wp2_with (first | (at_builtin; (refine wpList_append_rec Try.elInt rfl (.tmp 41) (.tmp 52) rfl rfl (O0.alloc _) (s + u1) rfl (Box.at_ _ [.int .i64 (s + u1)] _ ?_) (intE_one _) ?_ (by decide) ?_ ?_; (focus (first | omega | (simp only [World.size_alloc]; done) | (simp only [World.size_alloc]; omega) | (simp; done) | (simp; omega))); (focus (first | omega | (simp only [World.size_alloc]; done) | (simp only [World.size_alloc]; omega) | (simp; done) | (simp; omega))); (focus (first | omega | (simp only [World.size_alloc]; done) | (simp only [World.size_alloc]; omega) | (simp; done) | (simp; omega))); intro A1 c1 w1 ho1 hg1 hb1; have BB1 := ((B0.alloc B0.size _).trans hb1); have zz1 := BB1.size; obtain ⟨d1, d2, d3, d4, d5⟩ := carry2.out _ BB1; have d6 := carry.out _ BB1)) | (at_builtin; go_must ((refine wpList_append_rec Try.elInt rfl (.tmp 58) (.tmp 69) rfl rfl (ho1.alloc _) (s + u2) rfl (Box.at_ _ [.int .i64 (s + u2)] _ ?_) (intE_one _) ?_ (by decide) ?_ ?_; (focus (first | omega | (simp only [World.size_alloc]; done) | (simp only [World.size_alloc]; omega) | (simp; done) | (simp; omega))); (focus (first | omega | (simp only [World.size_alloc]; done) | (simp only [World.size_alloc]; omega) | (simp; done) | (simp; omega))); (focus (first | omega | (simp only [World.size_alloc]; done) | (simp only [World.size_alloc]; omega) | (simp; done) | (simp; omega))); intro A2 c2 w2 ho2 hg2 hb2'; have BB2 := ((BB1.alloc BB1.size _).trans hb2'); have zz2 := BB2.size; clear d1 d2 d3 d4 d5 d6))))
              have hiI : (i : Int) < (a.length : Int) + 1 := by omega
              have hiJ : (i : Int) < (a.length : Int) := by omega
              have hjI : (j : Int) < (b.length : Int) + 1 := by omega
              have hjJ : (j : Int) < (b.length : Int) := by omega
              have hi0 : (0 : Int) ≤ (i : Int) + 1 := by omega
              have hj0 : (0 : Int) ≤ (j : Int) + 1 := by omega
              have ti : ((i : Int) + 1).toNat = i + 1 := by omega
              have tj : ((j : Int) + 1).toNat = j + 1 := by omega
              have g1 : IntKind.i64.wrap ((i : Int) + 1) = (i : Int) + 1 := wrap_id (by omega)
              have g2 : IntKind.i64.wrap ((j : Int) + 1) = (j : Int) + 1 := wrap_id (by omega)
              have g3 := wrap_id (x := x - y') (by omega)
              have g4 := wrap_id (x := absZ (x - y') + u3) (by omega)
              obtain ⟨d1, d2, d3, d4, d5⟩ := carry2.out _ BB2
              have d6 := carry.out _ BB2
              go_region_held3 (fun u => u.cell? ⟨w.heap.size, i + 1, none⟩ = some (.slice (some ⟨f, 0, none⟩) (b.length + 1) (b.length + 1)) ∧ u.cell? ⟨q, j + 1, none⟩ = some (.int .i64 u2) ∧ u.cell? ⟨f, j + 1, none⟩ = some (.int .i64 u3) ∧ u.cell? ⟨b3, o3 + i, none⟩ = some (.int .i64 x) ∧ u.cell? ⟨b4, o4 + j, none⟩ = some (.int .i64 y')) (first | exact carry2.out _ (((BB2.drew).alloc BB2.size _).trans hb3) | exact carry2.out _ (by (repeat' (first | (with_reducible exact Below.refl _ _) | (with_reducible assumption) | (with_reducible refine below_drewN ?_ _) | (with_reducible refine Below.drew ?_) | (with_reducible refine below_alloc ?_ _) | (with_reducible refine Below.alloc ?_ ?_ _) | (with_reducible refine Below.setCell ?_ ?_ _) | (with_reducible refine below_go ?_ (by with_reducible assumption)) | (with_reducible refine below_then (by with_reducible assumption) ?_ ?_) | go_size)))) (first | (go_at_call 46; refine (impl_abs _ _ (by omega)).mono ?_; rintro e w' ⟨rfl, rfl⟩) | ((refine step_append_rec Try.elInt (by rfl) _ _ (by rfl) (by rfl) ((ho2.alloc _).drew) (absZ (x - y') + u3) (by rfl) (Box.at_ _ [.int .i64 (absZ (x - y') + u3)] _ (by rfl)) (intE_one _) (by omega) (by decide) (by have := BB2.size; simp; omega) ?_; intro Ao co w3 ho3 hg3 hb3)))
              have BB3 := ((BB2.drew).alloc BB2.size _).trans hb3
              obtain ⟨wz, hwz⟩ : ∃ wz, wz = w3 := ⟨_, rfl⟩
              rw [← hwz] at ho3 BB3 ⊢
              have hbz := BB3
              have d6' := carry.out _ hbz
              clear hwz hg3 hb3 hb2' hb1 hg1 hg2 d1 d2 d3 d4 d5 d6 BB1 BB2 ho1 ho2
              obtain ⟨L, hL⟩ : ∃ L, L = ([s + u1, s + u2, absZ (x - y') + u3] : List Int) := ⟨_, rfl⟩
              have hoz : Owned intE 1 3 wz wo.heap.size Ao 3 co L := by rw [hL]; exact ho3
              have hmin : Hid (minL L = pAt a b s i j) := Lib.hid (by rw [hL]; exact (E0.out ▸ rfl))
              have hLb : ∀ x ∈ L, -100000000 ≤ x ∧ x ≤ 100000000 := by
                rw [hL]; intro x hx; simp only [List.mem_cons, List.not_mem_nil, or_false] at hx; omega
              have HLB := Lib.hid hLb
              have hpz := hp2.up hbz
              have HOz := HO.up hbz
              have Bz := hb2.trans (hbz.mono hb2.size)
              have szz := hbz.size
              clear hL hLb ho3 BB3
              go_wp2
              go_loopw [106] (fun v wr => ∃ (t : Nat) (cur' : List Int), t ≤ 3 ∧ v = .int .i64 t ∧ Hid (cur' = cur.set j (minL (L.take t))) ∧ Part vs' wr w.heap.size w.heap.size (a.length + 1) (fun i' => i + 1 ≤ i') (pRow a b s) ∧ Owned intE 1 3 wr w.heap.size (some ⟨q, 0, none⟩) (b.length + 1) (b.length + 1) cur' ∧ Owned intE 1 3 wr wo.heap.size Ao 3 co L ∧ Below w.heap.size w wr ∧ wz.heap.size ≤ wr.heap.size) (fun v _ => 3 - (intOf v).toNat)
              case atStart =>
                refine ⟨0, cur, Nat.zero_le _, rfl, Lib.hid ?_, hpz, HOz, hoz, Bz, Nat.le_refl _⟩
                have hz0 := HZ.out j (by omega)
                apply List.ext_getElem?
                intro z
                by_cases ez : z = j
                · subst ez; rw [List.getElem?_set_self (by rw [HO.len]; omega), hz0]; rfl
                · rw [List.getElem?_set_ne (fun e1 => ez e1.symm)]
              case round =>
                obtain ⟨t, cur', ht, rfl, HE, hpy, HOy, hoy, By, szy⟩ := hrel
                have ec : cur'[j]? = some (minL (L.take t)) := by rw [HE.out, List.getElem?_set_self (by rw [HO.len]; omega)]
                by_cases hlt : t < 3
                · obtain ⟨bo, oo, x, rfl, _, hx, hcx⟩ := hoy.recs.at_int (k := t) (by rw [hoy.len]; exact hlt)
                  have hxb := HLB.out x (List.mem_of_getElem? hx)
                  obtain ⟨_, e1, _, _, hcq, hfq⟩ := HOy.at_ (by omega)
                  injection e1 with e1; injection e1 with e1; subst e1
                  have old1 := hcq j _ 0 _ ec rfl
                  have fz1 := hfq (j * 1 + 0)
                  obtain ⟨_, e1, _, _, hct, _⟩ := hpy.top.at_ (by omega)
                  injection e1 with e1; injection e1 with e1; subst e1
                  have ct1 := hct i _ 0 _ hv1.out rfl
                  simp only [Nat.mul_one, Nat.add_zero] at old1 fz1 ct1
                  have st : Hid (∀ v, v = minL (L.take (t + 1)) → Hid (cur'.set j v = cur.set j (minL (L.take (t + 1)))) ∧ Part vs' (wr.setCell ⟨q, j, none⟩ (.int .i64 v)) w.heap.size w.heap.size (a.length + 1) (fun i' => i + 1 ≤ i') (pRow a b s) ∧ Owned intE 1 3 (wr.setCell ⟨q, j, none⟩ (.int .i64 v)) w.heap.size (some ⟨q, 0, none⟩) (b.length + 1) (b.length + 1) (cur'.set j v) ∧ Owned intE 1 3 (wr.setCell ⟨q, j, none⟩ (.int .i64 v)) wo.heap.size (some ⟨bo, oo, none⟩) 3 co L ∧ Below w.heap.size w (wr.setCell ⟨q, j, none⟩ (.int .i64 v)) ∧ wz.heap.size ≤ (wr.setCell ⟨q, j, none⟩ (.int .i64 v)).heap.size) := Lib.hid (fun v hv => by
                    have p0 := HOy.put (j := 0) (x := v) (u := .int .i64 v) ec (by decide) rfl
                    simp only [Nat.mul_one, Nat.add_zero] at p0
                    refine ⟨Lib.hid ?_, hpy.past p0.2 (by omega) (fun i' h1 h2 => hne i' h1 h2), p0.1, hoy.past p0.2 (by omega), By.setCell (by show w.heap.size ≤ q; omega) _, by simp; omega⟩
                    rw [hv, HE.out, List.set_set])
                  clear hcq hct ec old0 fz0 ct hmk hmk2
                  by_cases t0 : t = 0
                  · subst t0
                    have M := Lib.hid (minL_head hx)
                    rw [Nat.add_zero] at hcx
                    clear hx
                    go_wp2
                    go_roundw
                    case rel =>
                      obtain ⟨f1, f2, f3, f4, f5, f6⟩ := st.out x M.out.symm
                      exact ⟨1, _, by omega, by go_num, f1, f2, f3, f4, f5, f6⟩
                    case measure => simp [intOf]
                  · have M := Lib.hid (minL_step (Nat.pos_of_ne_zero t0) hx)
                    have t0' : ((t : Int) == 0) = false := by simp; omega
                    have Mx := Lib.hid hx
                    clear hx
                    obtain ⟨mm, hmm⟩ : ∃ mm, mm = minL (L.take t) := ⟨_, rfl⟩
                    rw [← hmm] at M old1
                    have HMM := Lib.hid hmm
                    clear hmm
                    by_cases hlx : x < mm
                    · go_wp2
                      go_roundw
                      case rel =>
                        obtain ⟨f1, f2, f3, f4, f5, f6⟩ := st.out x (by rw [M.out]; omega)
                        exact ⟨t + 1, _, by omega, by go_num, f1, f2, f3, f4, f5, f6⟩
                      case measure => simp [intOf]; omega
                    · go_wp2
                      go_roundw
                      case rel => exact ⟨t + 1, cur', by omega, by go_num, Lib.hid (by rw [HE.out, M.out, ← HMM.out]; congr 1; omega), hpy, HOy, hoy, By, szy⟩
                      case measure => simp [intOf]; omega
                · obtain rfl : t = 3 := by omega
                  rw [List.take_of_length_le (by rw [hoy.len]; exact Nat.le_refl _), hmin.out] at HE
                  have he := HE.out
                  subst he
                  go_wp2
                  go_roundw
                  case rel =>
                    refine ⟨j, _, by omega, by go_num, hpy, HOy, Lib.hid fun j' h1 h2 => ?_, Lib.hid fun j' h1 => ?_, By, by omega⟩
                    · by_cases e : j' = j
                      · subst e
                        rw [List.getElem?_set_self (by rw [HO.len]; omega)]
                      · rw [List.getElem?_set_ne (fun e1 => e e1.symm)]
                        exact HC.out j' (by omega) h2
                    · rw [List.getElem?_set_ne (by omega)]
                      exact HZ.out j' (by omega)
                  case measure => simp [intOf]
            · have E0 := Lib.hid (pAt_over a b s hi hj)
              clear hcq hct r0
              obtain ⟨u1, hu1⟩ : ∃ u, u = pAt a b s (i + 1) j := ⟨_, rfl⟩
              rw [← hu1] at E0 t2 p1
              clear hu1
              go_wp2_with (first | (at_builtin; go_must ((refine wpList_append_rec Try.elInt rfl (.tmp 41) (.tmp 52) rfl rfl (O0.alloc _) (s + u1) rfl (Box.at_ _ [.int .i64 (s + u1)] _ ?_) (intE_one _) ?_ (by decide) ?_ ?_; (focus (first | omega | (simp only [World.size_alloc]; done) | (simp only [World.size_alloc]; omega) | (simp; done) | (simp; omega))); (focus (first | omega | (simp only [World.size_alloc]; done) | (simp only [World.size_alloc]; omega) | (simp; done) | (simp; omega))); (focus (first | omega | (simp only [World.size_alloc]; done) | (simp only [World.size_alloc]; omega) | (simp; done) | (simp; omega))); intro Ao co w1 ho1 hg1 hb1; have BB1 := ((B0.alloc B0.size _).trans hb1)))))
              obtain ⟨wz, hwz⟩ : ∃ wz, wz = w1 := ⟨_, rfl⟩
              rw [← hwz] at ho1 BB1 ⊢
              have hbz := BB1
              have d6 := carry.out _ hbz
              clear hwz hg1 hb1
              obtain ⟨L, hL⟩ : ∃ L, L = ([s + u1] : List Int) := ⟨_, rfl⟩
              have hoz : Owned intE 1 3 wz wo.heap.size Ao 1 co L := by rw [hL]; exact ho1
              have hmin : Hid (minL L = pAt a b s i j) := Lib.hid (by rw [hL]; exact (E0.out ▸ rfl))
              have hLb : ∀ x ∈ L, -100000000 ≤ x ∧ x ≤ 100000000 := by
                rw [hL]; intro x hx; simp only [List.mem_cons, List.not_mem_nil, or_false] at hx; omega
              have HLB := Lib.hid hLb
              have hpz := hp2.up hbz
              have HOz := HO.up hbz
              have Bz := hb2.trans (hbz.mono hb2.size)
              have szz := hbz.size
              clear hL hLb ho1 BB1
              go_wp2
              go_loopw [106] (fun v wr => ∃ (t : Nat) (cur' : List Int), t ≤ 1 ∧ v = .int .i64 t ∧ Hid (cur' = cur.set j (minL (L.take t))) ∧ Part vs' wr w.heap.size w.heap.size (a.length + 1) (fun i' => i + 1 ≤ i') (pRow a b s) ∧ Owned intE 1 3 wr w.heap.size (some ⟨q, 0, none⟩) (b.length + 1) (b.length + 1) cur' ∧ Owned intE 1 3 wr wo.heap.size Ao 1 co L ∧ Below w.heap.size w wr ∧ wz.heap.size ≤ wr.heap.size) (fun v _ => 1 - (intOf v).toNat)
              case atStart =>
                refine ⟨0, cur, Nat.zero_le _, rfl, Lib.hid ?_, hpz, HOz, hoz, Bz, Nat.le_refl _⟩
                have hz0 := HZ.out j (by omega)
                apply List.ext_getElem?
                intro z
                by_cases ez : z = j
                · subst ez; rw [List.getElem?_set_self (by rw [HO.len]; omega), hz0]; rfl
                · rw [List.getElem?_set_ne (fun e1 => ez e1.symm)]
              case round =>
                obtain ⟨t, cur', ht, rfl, HE, hpy, HOy, hoy, By, szy⟩ := hrel
                have ec : cur'[j]? = some (minL (L.take t)) := by rw [HE.out, List.getElem?_set_self (by rw [HO.len]; omega)]
                by_cases hlt : t < 1
                · obtain ⟨bo, oo, x, rfl, _, hx, hcx⟩ := hoy.recs.at_int (k := t) (by rw [hoy.len]; exact hlt)
                  have hxb := HLB.out x (List.mem_of_getElem? hx)
                  obtain ⟨_, e1, _, _, hcq, hfq⟩ := HOy.at_ (by omega)
                  injection e1 with e1; injection e1 with e1; subst e1
                  have old1 := hcq j _ 0 _ ec rfl
                  have fz1 := hfq (j * 1 + 0)
                  obtain ⟨_, e1, _, _, hct, _⟩ := hpy.top.at_ (by omega)
                  injection e1 with e1; injection e1 with e1; subst e1
                  have ct1 := hct i _ 0 _ hv1.out rfl
                  simp only [Nat.mul_one, Nat.add_zero] at old1 fz1 ct1
                  have st : Hid (∀ v, v = minL (L.take (t + 1)) → Hid (cur'.set j v = cur.set j (minL (L.take (t + 1)))) ∧ Part vs' (wr.setCell ⟨q, j, none⟩ (.int .i64 v)) w.heap.size w.heap.size (a.length + 1) (fun i' => i + 1 ≤ i') (pRow a b s) ∧ Owned intE 1 3 (wr.setCell ⟨q, j, none⟩ (.int .i64 v)) w.heap.size (some ⟨q, 0, none⟩) (b.length + 1) (b.length + 1) (cur'.set j v) ∧ Owned intE 1 3 (wr.setCell ⟨q, j, none⟩ (.int .i64 v)) wo.heap.size (some ⟨bo, oo, none⟩) 1 co L ∧ Below w.heap.size w (wr.setCell ⟨q, j, none⟩ (.int .i64 v)) ∧ wz.heap.size ≤ (wr.setCell ⟨q, j, none⟩ (.int .i64 v)).heap.size) := Lib.hid (fun v hv => by
                    have p0 := HOy.put (j := 0) (x := v) (u := .int .i64 v) ec (by decide) rfl
                    simp only [Nat.mul_one, Nat.add_zero] at p0
                    refine ⟨Lib.hid ?_, hpy.past p0.2 (by omega) (fun i' h1 h2 => hne i' h1 h2), p0.1, hoy.past p0.2 (by omega), By.setCell (by show w.heap.size ≤ q; omega) _, by simp; omega⟩
                    rw [hv, HE.out, List.set_set])
                  clear hcq hct ec old0 fz0 ct hmk hmk2
                  by_cases t0 : t = 0
                  · subst t0
                    have M := Lib.hid (minL_head hx)
                    rw [Nat.add_zero] at hcx
                    clear hx
                    go_wp2
                    go_roundw
                    case rel =>
                      obtain ⟨f1, f2, f3, f4, f5, f6⟩ := st.out x M.out.symm
                      exact ⟨1, _, by omega, by go_num, f1, f2, f3, f4, f5, f6⟩
                    case measure => simp [intOf]
                  · omega
                · obtain rfl : t = 1 := by omega
                  rw [List.take_of_length_le (by rw [hoy.len]; exact Nat.le_refl _), hmin.out] at HE
                  have he := HE.out
                  subst he
                  go_wp2
                  go_roundw
                  case rel =>
                    refine ⟨j, _, by omega, by go_num, hpy, HOy, Lib.hid fun j' h1 h2 => ?_, Lib.hid fun j' h1 => ?_, By, by omega⟩
                    · by_cases e : j' = j
                      · subst e
                        rw [List.getElem?_set_self (by rw [HO.len]; omega)]
                      · rw [List.getElem?_set_ne (fun e1 => e e1.symm)]
                        exact HC.out j' (by omega) h2
                    · rw [List.getElem?_set_ne (by omega)]
                      exact HZ.out j' (by omega)
                  case measure => simp [intOf]
          · by_cases hj : j < b.length
            · have t4 := hcq (j + 1) _ 0 _ (HC.out (j + 1) (Nat.le_refl _) (by omega)) rfl
              simp only [Nat.mul_one, Nat.add_zero] at t4
              have p2 := hP.out i (j + 1)
              have E0 := Lib.hid (pAt_down a b s hi hj)
              clear hcq hct
              obtain ⟨u2, hu2⟩ : ∃ u, u = pAt a b s i (j + 1) := ⟨_, rfl⟩
              rw [← hu2] at E0 t4 p2
              clear hu2
              have t4' := fun u (hu : Below wo.heap.size wo u) => (hu.cell (p := ⟨q, j + 1, none⟩) hqx).trans t4
              go_wp2_with (first | (at_builtin; go_must ((refine wpList_append_rec Try.elInt rfl (.tmp 58) (.tmp 69) rfl rfl (O0.alloc _) (s + u2) rfl (Box.at_ _ [.int .i64 (s + u2)] _ ?_) (intE_one _) ?_ (by decide) ?_ ?_; (focus (first | omega | (simp only [World.size_alloc]; done) | (simp only [World.size_alloc]; omega) | (simp; done) | (simp; omega))); (focus (first | omega | (simp only [World.size_alloc]; done) | (simp only [World.size_alloc]; omega) | (simp; done) | (simp; omega))); (focus (first | omega | (simp only [World.size_alloc]; done) | (simp only [World.size_alloc]; omega) | (simp; done) | (simp; omega))); intro Ao co w1 ho1 hg1 hb1; have BB1 := ((B0.alloc B0.size _).trans hb1)))))
              obtain ⟨wz, hwz⟩ : ∃ wz, wz = w1 := ⟨_, rfl⟩
              rw [← hwz] at ho1 BB1 ⊢
              have hbz := BB1
              have d6 := carry.out _ hbz
              clear hwz hg1 hb1
              obtain ⟨L, hL⟩ : ∃ L, L = ([s + u2] : List Int) := ⟨_, rfl⟩
              have hoz : Owned intE 1 3 wz wo.heap.size Ao 1 co L := by rw [hL]; exact ho1
              have hmin : Hid (minL L = pAt a b s i j) := Lib.hid (by rw [hL]; exact (E0.out ▸ rfl))
              have hLb : ∀ x ∈ L, -100000000 ≤ x ∧ x ≤ 100000000 := by
                rw [hL]; intro x hx; simp only [List.mem_cons, List.not_mem_nil, or_false] at hx; omega
              have HLB := Lib.hid hLb
              have hpz := hp2.up hbz
              have HOz := HO.up hbz
              have Bz := hb2.trans (hbz.mono hb2.size)
              have szz := hbz.size
              clear hL hLb ho1 BB1
              go_wp2
              go_loopw [106] (fun v wr => ∃ (t : Nat) (cur' : List Int), t ≤ 1 ∧ v = .int .i64 t ∧ Hid (cur' = cur.set j (minL (L.take t))) ∧ Part vs' wr w.heap.size w.heap.size (a.length + 1) (fun i' => i + 1 ≤ i') (pRow a b s) ∧ Owned intE 1 3 wr w.heap.size (some ⟨q, 0, none⟩) (b.length + 1) (b.length + 1) cur' ∧ Owned intE 1 3 wr wo.heap.size Ao 1 co L ∧ Below w.heap.size w wr ∧ wz.heap.size ≤ wr.heap.size) (fun v _ => 1 - (intOf v).toNat)
              case atStart =>
                refine ⟨0, cur, Nat.zero_le _, rfl, Lib.hid ?_, hpz, HOz, hoz, Bz, Nat.le_refl _⟩
                have hz0 := HZ.out j (by omega)
                apply List.ext_getElem?
                intro z
                by_cases ez : z = j
                · subst ez; rw [List.getElem?_set_self (by rw [HO.len]; omega), hz0]; rfl
                · rw [List.getElem?_set_ne (fun e1 => ez e1.symm)]
              case round =>
                obtain ⟨t, cur', ht, rfl, HE, hpy, HOy, hoy, By, szy⟩ := hrel
                have ec : cur'[j]? = some (minL (L.take t)) := by rw [HE.out, List.getElem?_set_self (by rw [HO.len]; omega)]
                by_cases hlt : t < 1
                · obtain ⟨bo, oo, x, rfl, _, hx, hcx⟩ := hoy.recs.at_int (k := t) (by rw [hoy.len]; exact hlt)
                  have hxb := HLB.out x (List.mem_of_getElem? hx)
                  obtain ⟨_, e1, _, _, hcq, hfq⟩ := HOy.at_ (by omega)
                  injection e1 with e1; injection e1 with e1; subst e1
                  have old1 := hcq j _ 0 _ ec rfl
                  have fz1 := hfq (j * 1 + 0)
                  obtain ⟨_, e1, _, _, hct, _⟩ := hpy.top.at_ (by omega)
                  injection e1 with e1; injection e1 with e1; subst e1
                  have ct1 := hct i _ 0 _ hv1.out rfl
                  simp only [Nat.mul_one, Nat.add_zero] at old1 fz1 ct1
                  have st : Hid (∀ v, v = minL (L.take (t + 1)) → Hid (cur'.set j v = cur.set j (minL (L.take (t + 1)))) ∧ Part vs' (wr.setCell ⟨q, j, none⟩ (.int .i64 v)) w.heap.size w.heap.size (a.length + 1) (fun i' => i + 1 ≤ i') (pRow a b s) ∧ Owned intE 1 3 (wr.setCell ⟨q, j, none⟩ (.int .i64 v)) w.heap.size (some ⟨q, 0, none⟩) (b.length + 1) (b.length + 1) (cur'.set j v) ∧ Owned intE 1 3 (wr.setCell ⟨q, j, none⟩ (.int .i64 v)) wo.heap.size (some ⟨bo, oo, none⟩) 1 co L ∧ Below w.heap.size w (wr.setCell ⟨q, j, none⟩ (.int .i64 v)) ∧ wz.heap.size ≤ (wr.setCell ⟨q, j, none⟩ (.int .i64 v)).heap.size) := Lib.hid (fun v hv => by
                    have p0 := HOy.put (j := 0) (x := v) (u := .int .i64 v) ec (by decide) rfl
                    simp only [Nat.mul_one, Nat.add_zero] at p0
                    refine ⟨Lib.hid ?_, hpy.past p0.2 (by omega) (fun i' h1 h2 => hne i' h1 h2), p0.1, hoy.past p0.2 (by omega), By.setCell (by show w.heap.size ≤ q; omega) _, by simp; omega⟩
                    rw [hv, HE.out, List.set_set])
                  clear hcq hct ec old0 fz0 ct hmk hmk2
                  by_cases t0 : t = 0
                  · subst t0
                    have M := Lib.hid (minL_head hx)
                    rw [Nat.add_zero] at hcx
                    clear hx
                    go_wp2
                    go_roundw
                    case rel =>
                      obtain ⟨f1, f2, f3, f4, f5, f6⟩ := st.out x M.out.symm
                      exact ⟨1, _, by omega, by go_num, f1, f2, f3, f4, f5, f6⟩
                    case measure => simp [intOf]
                  · omega
                · obtain rfl : t = 1 := by omega
                  rw [List.take_of_length_le (by rw [hoy.len]; exact Nat.le_refl _), hmin.out] at HE
                  have he := HE.out
                  subst he
                  go_wp2
                  go_roundw
                  case rel =>
                    refine ⟨j, _, by omega, by go_num, hpy, HOy, Lib.hid fun j' h1 h2 => ?_, Lib.hid fun j' h1 => ?_, By, by omega⟩
                    · by_cases e : j' = j
                      · subst e
                        rw [List.getElem?_set_self (by rw [HO.len]; omega)]
                      · rw [List.getElem?_set_ne (fun e1 => e e1.symm)]
                        exact HC.out j' (by omega) h2
                    · rw [List.getElem?_set_ne (by omega)]
                      exact HZ.out j' (by omega)
                  case measure => simp [intOf]
            · have E0 := Lib.hid (pAt_corner a b s hi hj)
              clear hcq hct
              go_wp2
              obtain ⟨wz, hwz⟩ : ∃ wz, wz = wo.alloc (.cells #[] 3) := ⟨_, rfl⟩
              rw [← hwz] at O0 B0 ⊢
              have hbz := B0
              have d6 := carry.out _ hbz
              clear hwz
              obtain ⟨L, hL⟩ : ∃ L, L = ([] : List Int) := ⟨_, rfl⟩
              have hoz : Owned intE 1 3 wz wo.heap.size (some ⟨wo.heap.size, 0, none⟩) 0 0 L := by rw [hL]; exact O0
              have hmin : Hid (minL L = pAt a b s i j) := Lib.hid (by rw [hL]; exact E0.out.symm)
              have hLb : ∀ x ∈ L, -100000000 ≤ x ∧ x ≤ 100000000 := by
                rw [hL]; intro x hx; cases hx
              have HLB := Lib.hid hLb
              have hpz := hp2.up hbz
              have HOz := HO.up hbz
              have Bz := hb2.trans (hbz.mono hb2.size)
              have szz := hbz.size
              clear hL hLb O0 B0
              go_wp2
              go_loopw [106] (fun v wr => ∃ (t : Nat) (cur' : List Int), t ≤ 0 ∧ v = .int .i64 t ∧ Hid (cur' = cur.set j (minL (L.take t))) ∧ Part vs' wr w.heap.size w.heap.size (a.length + 1) (fun i' => i + 1 ≤ i') (pRow a b s) ∧ Owned intE 1 3 wr w.heap.size (some ⟨q, 0, none⟩) (b.length + 1) (b.length + 1) cur' ∧ Owned intE 1 3 wr wo.heap.size (some ⟨wo.heap.size, 0, none⟩) 0 0 L ∧ Below w.heap.size w wr ∧ wz.heap.size ≤ wr.heap.size) (fun v _ => 0 - (intOf v).toNat)
              case atStart =>
                refine ⟨0, cur, Nat.zero_le _, rfl, Lib.hid ?_, hpz, HOz, hoz, Bz, Nat.le_refl _⟩
                have hz0 := HZ.out j (by omega)
                apply List.ext_getElem?
                intro z
                by_cases ez : z = j
                · subst ez; rw [List.getElem?_set_self (by rw [HO.len]; omega), hz0]; rfl
                · rw [List.getElem?_set_ne (fun e1 => ez e1.symm)]
              case round =>
                obtain ⟨t, cur', ht, rfl, HE, hpy, HOy, hoy, By, szy⟩ := hrel
                have ec : cur'[j]? = some (minL (L.take t)) := by rw [HE.out, List.getElem?_set_self (by rw [HO.len]; omega)]
                obtain rfl : t = 0 := by omega
                rw [List.take_of_length_le (by rw [hoy.len]; exact Nat.le_refl _), hmin.out] at HE
                have he := HE.out
                subst he
                go_wp2
                go_roundw
                case rel =>
                  refine ⟨j, _, by omega, by go_num, hpy, HOy, Lib.hid fun j' h1 h2 => ?_, Lib.hid fun j' h1 => ?_, By, by omega⟩
                  · by_cases e : j' = j
                    · subst e
                      rw [List.getElem?_set_self (by rw [HO.len]; omega)]
                    · rw [List.getElem?_set_ne (fun e1 => e e1.symm)]
                      exact HC.out j' (by omega) h2
                  · rw [List.getElem?_set_ne (by omega)]
                    exact HZ.out j' (by omega)
                case measure => simp [intOf]
end Go.Proofs.Ytdnbdnfoogjcmaa
