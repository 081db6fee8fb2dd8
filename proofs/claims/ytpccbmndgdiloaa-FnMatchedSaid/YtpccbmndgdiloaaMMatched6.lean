/- Texts 6 of 7 that the claim leans on: plain laws and the walks' contracts, in order. -/
import Derived.Test.YtpccbmndgdiloaaMMatched5
/- The walk through the program's table of remaining costs. -/
namespace Go.Proofs.Ytpccbmndgdiloaa
set_option linter.unusedVariables false
set_option linter.unusedSimpArgs false
open Go.ChangeShapes Go.WideShapes Go.ChangeAt Go.RowKit Go.Deep
set_option maxHeartbeats 2000000 in
set_option maxRecDepth 100000 in
theorem impl_prices {A B : Option Addr} {n m c d : Nat} {a b : List Int} {s : Int} {w : World} (hn : a.length = n) (hm : b.length = m) (h : Ints w A a) (g : Ints w B b) (ha : askedM a b s = true) :
    Calls Try.prog 191 #[.slice A n c, .slice B m d, .int .i64 s] w fun e w' => ∃ vs g, e = .returned (.slice (some ⟨g, 0, none⟩) (n + 1) (n + 1)) ∧ Tab vs w' w.heap.size (some ⟨g, 0, none⟩) (n + 1) (n + 1) (pTab a b s) ∧ Below w.heap.size w w' := by
  subst hn hm
  obtain ⟨⟨a1, a2⟩, ⟨b1, b2⟩, s1, s2⟩ := askedM_t ha
  have HA := Lib.hid a2; have HB := Lib.hid b2
  have hP := Lib.hid (fun i j => pAt_bd ha i j)
  clear a2 b2
  have hmk := run_make_rec (e := slcE) Try.elInts (none, 0, 0) rfl (a.length + 1) (by omega) (by decide)
  have hmk2 := run_make_rec (e := intE) Try.elInt 0 rfl (b.length + 1) (by omega) (by decide)
  rw [show ((a.length + 1 : Nat) : Int) = (a.length : Int) + 1 by omega] at hmk
  rw [show ((b.length + 1 : Nat) : Int) = (b.length : Int) + 1 by omega] at hmk2
  simp only [Nat.mul_one] at hmk hmk2
  go_in
  go_wp2
  go_loopw [8] (fun i wr => ∃ (k : Nat) (vs : List Hd), k ≤ a.length + 1 ∧ i = .int .i64 ((k : Int) - 1) ∧ Part vs wr w.heap.size w.heap.size (a.length + 1) (fun i => k ≤ i) (pRow a b s) ∧ Below w.heap.size w wr) (fun i _ => (intOf i + 1).toNat)
  case atStart =>
    refine ⟨a.length + 1, List.replicate (a.length + 1) (none, 0, 0), Nat.le_refl _, by go_num, ⟨Nat.le_refl _, ?_, fun i hi hn => absurd hi (by omega), fun i j hi _ hn => absurd hi (by omega)⟩, by (repeat' (first | (with_reducible exact Below.refl _ _) | (with_reducible assumption) | (with_reducible refine below_drewN ?_ _) | (with_reducible refine Below.drew ?_) | (with_reducible refine below_alloc ?_ _) | (with_reducible refine Below.alloc ?_ ?_ _) | (with_reducible refine Below.setCell ?_ ?_ _) | (with_reducible refine below_go ?_ (by with_reducible assumption)) | (with_reducible refine below_then (by with_reducible assumption) ?_ ?_) | go_size))⟩
    have q := Owned.made (e := slcE) (s := 1) (base := w.heap.size) slcE_len w 60 ((none, 0, 0) : Hd) (a.length + 1) (by omega) (Nat.le_refl _)
    rw [Nat.mul_one] at q
    exact q
  case round =>
    obtain ⟨k, vs, hk, rfl, hp, hb⟩ := hrel
    cases k with
    | zero =>
      have hT := hp.tab (fun i _ => Nat.zero_le i)
      go_wp2
      go_ret
      exact ⟨vs, _, rfl, hT, hb⟩
    | succ i =>
      have hsz := hb.size
      rw [show (((i + 1 : Nat) : Int) - 1) = (i : Int) by omega]
      obtain ⟨y, hy⟩ := some_of_lt (l := vs) (k := i) (by rw [hp.top.len]; omega)
      obtain ⟨b1, e1, _, hb1, hc, hfz⟩ := hp.top.at_ (by omega)
      injection e1 with e1; injection e1 with e1; subst e1
      have old0 := hc i y 0 _ hy rfl
      have fz0 := hfz (i * 1 + 0)
      simp only [Nat.mul_one, Nat.add_zero] at old0 fz0
      have hiL : i < a.length + 1 := by omega
      have hp1 := (hp.head (i0 := i) (q := wr.heap.size) (m := b.length + 1) (c := b.length + 1) (by omega) hiL).up ((Below.refl _ _).alloc (Nat.le_refl _) (.cells (madeCells (intE 0).toArray (b.length + 1)) 3))
      have HH := Lib.hid hc
      clear hc hfz hy
      go_wp2
      have hne : ∀ i', i + 1 ≤ i' → i' < a.length + 1 → hBlk (vs.set i (some ⟨wr.heap.size, 0, none⟩, b.length + 1, b.length + 1)) i' ≠ wr.heap.size := fun i' h1 h2 => by
        rw [hb_set (by omega)]; have := (hp.row i' h1 h2).2.2.1; omega
      have hv1 : Hid ((vs.set i (some ⟨wr.heap.size, 0, none⟩, b.length + 1, b.length + 1))[i]? = some ((some ⟨wr.heap.size, 0, none⟩, b.length + 1, b.length + 1) : Hd)) := Lib.hid (List.getElem?_set_self (by rw [hp.top.len]; omega))
      obtain ⟨W1, hW1⟩ : ∃ u, u = ((wr.setCell ⟨w.heap.size, i, none⟩ (.slice (some ⟨wr.heap.size, 0, none⟩) (b.length + 1) (b.length + 1))).alloc (.cells (madeCells (intE 0).toArray (b.length + 1)) 3)) := ⟨_, rfl⟩
      have O1 : Owned intE 1 3 W1 w.heap.size (some ⟨wr.heap.size, 0, none⟩) (b.length + 1) (b.length + 1) (List.replicate (b.length + 1) 0) := by
        have O0 := Owned.made (e := intE) (s := 1) (base := w.heap.size) intE_len (wr.setCell ⟨w.heap.size, i, none⟩ (.slice (some ⟨wr.heap.size, 0, none⟩) (b.length + 1) (b.length + 1))) 3 0 (b.length + 1) (by omega) (by simpa using hsz)
        rw [Nat.mul_one, World.size_setCell] at O0
        rw [hW1]; exact O0
      have B1 : Below w.heap.size w W1 := by rw [hW1]; exact (hb.setCell (Nat.le_refl _) _).alloc (by simpa using hsz) _
      have S1 : W1.heap.size = wr.heap.size + 1 := by rw [hW1]; simp
      rw [← hW1] at hp1 ⊢
      clear hW1 hp old0 fz0 HH hb
      obtain ⟨q, hq⟩ : ∃ q, q = wr.heap.size := ⟨_, rfl⟩
      rw [← hq] at hp1 hne hv1 O1 S1 hsz ⊢
      obtain ⟨vs', hvs⟩ : ∃ u, u = (vs.set i (some ⟨q, 0, none⟩, b.length + 1, b.length + 1)) := ⟨_, rfl⟩
      rw [← hvs] at hp1 hne hv1
      have hgq : w.heap.size < q := by omega
      clear hvs hq y vs hb1 wr
      go_loopw [9] (fun v wx => ∃ (jj : Nat) (cur : List Int), jj ≤ b.length + 1 ∧ v = .int .i64 ((jj : Int) - 1) ∧ Part vs' wx w.heap.size w.heap.size (a.length + 1) (fun i' => i + 1 ≤ i') (pRow a b s) ∧ Owned intE 1 3 wx w.heap.size (some ⟨q, 0, none⟩) (b.length + 1) (b.length + 1) cur ∧ Hid (∀ j, jj ≤ j → j ≤ b.length → cur[j]? = some (pAt a b s i j)) ∧ Hid (∀ j, j < jj → cur[j]? = some 0) ∧ Below w.heap.size w wx ∧ q < wx.heap.size) (fun v _ => (intOf v + 1).toNat)
      case atStart => exact ⟨b.length + 1, _, Nat.le_refl _, by go_num, hp1, O1, Lib.hid (fun j h1 h2 => absurd h1 (by omega)), Lib.hid (fun j h1 => by rw [List.getElem?_replicate, if_pos h1]), B1, by omega⟩
      case round =>
        obtain ⟨jj, cur, hjj, rfl, hp2, HO, HC, HZ, hb2, hqx⟩ := hrel
        rename World => wo
        cases jj with
        | zero =>
          have hrow : cur = pRow a b s i := by
            refine eq_of_upto (k := b.length + 1) (fun j hj => ?_) HO.len (pRow_len _ _ _ _)
            rw [HC.out j (Nat.zero_le _) (by omega)]
            simp [pRow, hj]
          subst hrow
          have hp3 := hp2.add (F' := fun i' => i ≤ i') (i0 := i) (q := q) (by rw [pRow_len]; exact hv1.out) hgq (by rw [pRow_len]; exact HO) (fun i' h1 h2 _ => hne i' h1 h2) (fun i' h => by omega)
          go_wp2
          go_roundw
          case rel => exact ⟨i, vs', by omega, by go_num, hp3, hb2⟩
          case measure => simp [intOf]
        | succ j =>
          rw [show (((j + 1 : Nat) : Int) - 1) = (j : Int) by omega]
          obtain ⟨_, e1, _, _, hcq, hfq⟩ := HO.at_ (by omega)
          injection e1 with e1; injection e1 with e1; subst e1
          have old0 := hcq j 0 0 _ (HZ.out j (by omega)) rfl
          have fz0 := hfq (j * 1 + 0)
          obtain ⟨_, e1, _, _, hct, _⟩ := hp2.top.at_ (by omega)
          injection e1 with e1; injection e1 with e1; subst e1
          have ct := hct i _ 0 _ hv1.out rfl
          simp only [Nat.mul_one, Nat.add_zero] at old0 fz0 ct
          have bij := hP.out i j
          have carry : Hid (∀ u : World, Below wo.heap.size wo u → u.cell? ⟨w.heap.size, i, none⟩ = some (.slice (some ⟨q, 0, none⟩) (b.length + 1) (b.length + 1))) := Lib.hid (fun u hu => (hu.cell (p := ⟨w.heap.size, i, none⟩) (by show w.heap.size < wo.heap.size; omega)).trans ct)
          have O0 := Owned.empty (e := intE) (s := 1) (base := wo.heap.size) intE_len 3 wo (Nat.le_refl _)
          have B0 : Below wo.heap.size wo (wo.alloc (.cells #[] 3)) := (Below.refl _ _).alloc (Nat.le_refl _) _
          by_cases hi : i < a.length
          · have r0 : (pRow a b s (i + 1))[j]? = some (pAt a b s (i + 1) j) := by rw [pRow, List.getElem?_map, List.getElem?_range (by omega)]; rfl
            obtain ⟨t1, t2⟩ := hp2.at_ (i := i + 1) (Nat.le_refl _) (by omega) r0
            have lf := (hp2.row (i + 1) (Nat.le_refl _) (by omega)).2.2.1
            simp only [pRow_len] at t1
            have p1 := hP.out (i + 1) j
            by_cases hj : j < b.length
            · obtain ⟨b3, o3, x, rfl, hb3, hx, hcx⟩ := (h.below hb2 (Nat.le_refl _)).at_int hi
              obtain ⟨b4, o4, y', rfl, hb4, hy', hcy⟩ := (g.below hb2 (Nat.le_refl _)).at_int hj
              have E0 := Lib.hid (pAt_in (s := s) hx hy')
              have r1 : (pRow a b s (i + 1))[j + 1]? = some (pAt a b s (i + 1) (j + 1)) := by rw [pRow, List.getElem?_map, List.getElem?_range (by omega)]; rfl
              have t3 := (hp2.at_ (i := i + 1) (Nat.le_refl _) (by omega) r1).2
              have p3 := hP.out (i + 1) (j + 1)
              have t4 := hcq (j + 1) _ 0 _ (HC.out (j + 1) (Nat.le_refl _) (by omega)) rfl
              simp only [Nat.mul_one, Nat.add_zero] at t4
              have p2 := hP.out i (j + 1)
              have x1 := HA.out x (List.mem_of_getElem? hx); have y1 := HB.out y' (List.mem_of_getElem? hy')
              have za := absZ_bd (x - y')
              clear hcq hct hx hy' r0 r1
              obtain ⟨u1, hu1⟩ : ∃ u, u = pAt a b s (i + 1) j := ⟨_, rfl⟩
              obtain ⟨u2, hu2⟩ : ∃ u, u = pAt a b s i (j + 1) := ⟨_, rfl⟩
              obtain ⟨u3, hu3⟩ : ∃ u, u = pAt a b s (i + 1) (j + 1) := ⟨_, rfl⟩
              rw [← hu1, ← hu2, ← hu3] at E0
              rw [← hu1] at t2 p1
              rw [← hu2] at t4 p2
              rw [← hu3] at t3 p3
              clear hu1 hu2 hu3
              obtain ⟨f, hf⟩ : ∃ f, f = hBlk vs' (i + 1) := ⟨_, rfl⟩
              rw [← hf] at t1 t2 t3 lf
              clear hf
              have carry2 : Hid (∀ u : World, Below wo.heap.size wo u → u.cell? ⟨w.heap.size, i + 1, none⟩ = some (.slice (some ⟨f, 0, none⟩) (b.length + 1) (b.length + 1)) ∧ u.cell? ⟨q, j + 1, none⟩ = some (.int .i64 u2) ∧ u.cell? ⟨f, j + 1, none⟩ = some (.int .i64 u3) ∧ u.cell? ⟨b3, o3 + i, none⟩ = some (.int .i64 x) ∧ u.cell? ⟨b4, o4 + j, none⟩ = some (.int .i64 y')) := Lib.hid (fun u hu => ⟨(hu.cell (p := ⟨w.heap.size, i + 1, none⟩) (by show w.heap.size < wo.heap.size; omega)).trans t1, (hu.cell (p := ⟨q, j + 1, none⟩) hqx).trans t4, (hu.cell (p := ⟨f, j + 1, none⟩) lf).trans t3, (hu.cell (p := ⟨b3, o3 + i, none⟩) hb3).trans hcx, (hu.cell (p := ⟨b4, o4 + j, none⟩) hb4).trans hcy⟩)
              go_wp2_with (first | (at_builtin; (refine wpList_append_rec Try.elInt rfl (.tmp 41) (.tmp 52) rfl rfl (O0.alloc _) (s + u1) rfl (Box.at_ _ [.int .i64 (s + u1)] _ ?_) (intE_one _) ?_ (by decide) ?_ ?_; (focus (first | omega | (simp only [World.size_alloc]; done) | (simp only [World.size_alloc]; omega) | (simp; done) | (simp; omega))); (focus (first | omega | (simp only [World.size_alloc]; done) | (simp only [World.size_alloc]; omega) | (simp; done) | (simp; omega))); (focus (first | omega | (simp only [World.size_alloc]; done) | (simp only [World.size_alloc]; omega) | (simp; done) | (simp; omega))); intro A1 c1 w1 ho1 hg1 hb1; have BB1 := ((B0.alloc B0.size _).trans hb1); have zz1 := BB1.size; obtain ⟨d1, d2, d3, d4, d5⟩ := carry2.out _ BB1; have d6 := carry.out _ BB1)) | (at_builtin; go_must ((refine wpList_append_rec Try.elInt rfl (.tmp 58) (.tmp 69) rfl rfl (ho1.alloc _) (s + u2) rfl (Box.at_ _ [.int .i64 (s + u2)] _ ?_) (intE_one _) ?_ (by decide) ?_ ?_; (focus (first | omega | (simp only [World.size_alloc]; done) | (simp only [World.size_alloc]; omega) | (simp; done) | (simp; omega))); (focus (first | omega | (simp only [World.size_alloc]; done) | (simp only [World.size_alloc]; omega) | (simp; done) | (simp; omega))); (focus (first | omega | (simp only [World.size_alloc]; done) | (simp only [World.size_alloc]; omega) | (simp; done) | (simp; omega))); intro A2 c2 w2 ho2 hg2 hb2'; have BB2 := ((BB1.alloc BB1.size _).trans hb2'); have zz2 := BB2.size; clear d1 d2 d3 d4 d5 d6))))
              have hiI : (i : Int) < (a.length : Int) + 1 := by omega
              have hiJ : (i : Int) < (a.length : Int) := by omega
              have hjI : (j : Int) < (b.length : Int) + 1 := by omega
              have hjJ : (j : Int) < (b.length : Int) := by omega
              have hi0 : (0 : Int) ≤ (i : Int) + 1 := by omega
              have hj0 : (0 : Int) ≤ (j : Int) + 1 := by omega
              have ti : ((i : Int) + 1).toNat = i + 1 := by omega
              have tj : ((j : Int) + 1).toNat = j + 1 := by omega
              have g1 : IntKind.i64.wrap ((i : Int) + 1) = (i : Int) + 1 := wrap_id (by omega)
              have g2 : IntKind.i64.wrap ((j : Int) + 1) = (j : Int) + 1 := wrap_id (by omega)
              have g3 := wrap_id (x := x - y') (by omega)
              have g4 := wrap_id (x := absZ (x - y') + u3) (by omega)
              obtain ⟨d1, d2, d3, d4, d5⟩ := carry2.out _ BB2
              have d6 := carry.out _ BB2
              go_region_held3 (fun u => u.cell? ⟨w.heap.size, i + 1, none⟩ = some (.slice (some ⟨f, 0, none⟩) (b.length + 1) (b.length + 1)) ∧ u.cell? ⟨q, j + 1, none⟩ = some (.int .i64 u2) ∧ u.cell? ⟨f, j + 1, none⟩ = some (.int .i64 u3) ∧ u.cell? ⟨b3, o3 + i, none⟩ = some (.int .i64 x) ∧ u.cell? ⟨b4, o4 + j, none⟩ = some (.int .i64 y')) (first | exact carry2.out _ (((BB2.drew).alloc BB2.size _).trans hb3) | exact carry2.out _ (by (repeat' (first | (with_reducible exact Below.refl _ _) | (with_reducible assumption) | (with_reducible refine below_drewN ?_ _) | (with_reducible refine Below.drew ?_) | (with_reducible refine below_alloc ?_ _) | (with_reducible refine Below.alloc ?_ ?_ _) | (with_reducible refine Below.setCell ?_ ?_ _) | (with_reducible refine below_go ?_ (by with_reducible assumption)) | (with_reducible refine below_then (by with_reducible assumption) ?_ ?_) | go_size)))) (first | (go_at_call 192; refine (impl_abs _ _ (by omega)).mono ?_; rintro e w' ⟨rfl, rfl⟩) | ((refine step_append_rec Try.elInt (by rfl) _ _ (by rfl) (by rfl) ((ho2.alloc _).drew) (absZ (x - y') + u3) (by rfl) (Box.at_ _ [.int .i64 (absZ (x - y') + u3)] _ (by rfl)) (intE_one _) (by omega) (by decide) (by have := BB2.size; simp; omega) ?_; intro Ao co w3 ho3 hg3 hb3)))
              have BB3 := ((BB2.drew).alloc BB2.size _).trans hb3
              obtain ⟨wz, hwz⟩ : ∃ wz, wz = w3 := ⟨_, rfl⟩
              rw [← hwz] at ho3 BB3 ⊢
              have hbz := BB3
              have d6' := carry.out _ hbz
              clear hwz hg3 hb3 hb2' hb1 hg1 hg2 d1 d2 d3 d4 d5 d6 BB1 BB2 ho1 ho2
              obtain ⟨L, hL⟩ : ∃ L, L = ([s + u1, s + u2, absZ (x - y') + u3] : List Int) := ⟨_, rfl⟩
              have hoz : Owned intE 1 3 wz wo.heap.size Ao 3 co L := by rw [hL]; exact ho3
              have hmin : Hid (minL L = pAt a b s i j) := Lib.hid (by rw [hL]; exact (E0.out ▸ rfl))
              have hLb : ∀ x ∈ L, -100000000 ≤ x ∧ x ≤ 100000000 := by
                rw [hL]; intro x hx; simp only [List.mem_cons, List.not_mem_nil, or_false] at hx; omega
              have HLB := Lib.hid hLb
              have hpz := hp2.up hbz
              have HOz := HO.up hbz
              have Bz := hb2.trans (hbz.mono hb2.size)
              have szz := hbz.size
              clear hL hLb ho3 BB3
              go_wp2
              go_loopw [106] (fun v wr => ∃ (t : Nat) (cur' : List Int), t ≤ 3 ∧ v = .int .i64 t ∧ Hid (cur' = cur.set j (minL (L.take t))) ∧ Part vs' wr w.heap.size w.heap.size (a.length + 1) (fun i' => i + 1 ≤ i') (pRow a b s) ∧ Owned intE 1 3 wr w.heap.size (some ⟨q, 0, none⟩) (b.length + 1) (b.length + 1) cur' ∧ Owned intE 1 3 wr wo.heap.size Ao 3 co L ∧ Below w.heap.size w wr ∧ wz.heap.size ≤ wr.heap.size) (fun v _ => 3 - (intOf v).toNat)
              case atStart =>
                refine ⟨0, cur, Nat.zero_le _, rfl, Lib.hid ?_, hpz, HOz, hoz, Bz, Nat.le_refl _⟩
                have hz0 := HZ.out j (by omega)
                apply List.ext_getElem?
                intro z
                by_cases ez : z = j
                · subst ez; rw [List.getElem?_set_self (by rw [HO.len]; omega), hz0]; rfl
                · rw [List.getElem?_set_ne (fun e1 => ez e1.symm)]
              case round =>
                obtain ⟨t, cur', ht, rfl, HE, hpy, HOy, hoy, By, szy⟩ := hrel
                have ec : cur'[j]? = some (minL (L.take t)) := by rw [HE.out, List.getElem?_set_self (by rw [HO.len]; omega)]
                by_cases hlt : t < 3
                · obtain ⟨bo, oo, x, rfl, _, hx, hcx⟩ := hoy.recs.at_int (k := t) (by rw [hoy.len]; exact hlt)
                  have hxb := HLB.out x (List.mem_of_getElem? hx)
                  obtain ⟨_, e1, _, _, hcq, hfq⟩ := HOy.at_ (by omega)
                  injection e1 with e1; injection e1 with e1; subst e1
                  have old1 := hcq j _ 0 _ ec rfl
                  have fz1 := hfq (j * 1 + 0)
                  obtain ⟨_, e1, _, _, hct, _⟩ := hpy.top.at_ (by omega)
                  injection e1 with e1; injection e1 with e1; subst e1
                  have ct1 := hct i _ 0 _ hv1.out rfl
                  simp only [Nat.mul_one, Nat.add_zero] at old1 fz1 ct1
                  have st : Hid (∀ v, v = minL (L.take (t + 1)) → Hid (cur'.set j v = cur.set j (minL (L.take (t + 1)))) ∧ Part vs' (wr.setCell ⟨q, j, none⟩ (.int .i64 v)) w.heap.size w.heap.size (a.length + 1) (fun i' => i + 1 ≤ i') (pRow a b s) ∧ Owned intE 1 3 (wr.setCell ⟨q, j, none⟩ (.int .i64 v)) w.heap.size (some ⟨q, 0, none⟩) (b.length + 1) (b.length + 1) (cur'.set j v) ∧ Owned intE 1 3 (wr.setCell ⟨q, j, none⟩ (.int .i64 v)) wo.heap.size (some ⟨bo, oo, none⟩) 3 co L ∧ Below w.heap.size w (wr.setCell ⟨q, j, none⟩ (.int .i64 v)) ∧ wz.heap.size ≤ (wr.setCell ⟨q, j, none⟩ (.int .i64 v)).heap.size) := Lib.hid (fun v hv => by
                    have p0 := HOy.put (j := 0) (x := v) (u := .int .i64 v) ec (by decide) rfl
                    simp only [Nat.mul_one, Nat.add_zero] at p0
                    refine ⟨Lib.hid ?_, hpy.past p0.2 (by omega) (fun i' h1 h2 => hne i' h1 h2), p0.1, hoy.past p0.2 (by omega), By.setCell (by show w.heap.size ≤ q; omega) _, by simp; omega⟩
                    rw [hv, HE.out, List.set_set])
                  clear hcq hct ec old0 fz0 ct hmk hmk2
                  by_cases t0 : t = 0
                  · subst t0
                    have M := Lib.hid (minL_head hx)
                    rw [Nat.add_zero] at hcx
                    clear hx
                    go_wp2
                    go_roundw
                    case rel =>
                      obtain ⟨f1, f2, f3, f4, f5, f6⟩ := st.out x M.out.symm
                      exact ⟨1, _, by omega, by go_num, f1, f2, f3, f4, f5, f6⟩
                    case measure => simp [intOf]
                  · have M := Lib.hid (minL_step (Nat.pos_of_ne_zero t0) hx)
                    have t0' : ((t : Int) == 0) = false := by simp; omega
                    have Mx := Lib.hid hx
                    clear hx
                    obtain ⟨mm, hmm⟩ : ∃ mm, mm = minL (L.take t) := ⟨_, rfl⟩
                    rw [← hmm] at M old1
                    have HMM := Lib.hid hmm
                    clear hmm
                    by_cases hlx : x < mm
                    · go_wp2
                      go_roundw
                      case rel =>
                        obtain ⟨f1, f2, f3, f4, f5, f6⟩ := st.out x (by rw [M.out]; omega)
                        exact ⟨t + 1, _, by omega, by go_num, f1, f2, f3, f4, f5, f6⟩
                      case measure => simp [intOf]; omega
                    · go_wp2
                      go_roundw
                      case rel => exact ⟨t + 1, cur', by omega, by go_num, Lib.hid (by rw [HE.out, M.out, ← HMM.out]; congr 1; omega), hpy, HOy, hoy, By, szy⟩
                      case measure => simp [intOf]; omega
                · obtain rfl : t = 3 := by omega
                  rw [List.take_of_length_le (by rw [hoy.len]; exact Nat.le_refl _), hmin.out] at HE
                  have he := HE.out
                  subst he
                  go_wp2
                  go_roundw
                  case rel =>
                    refine ⟨j, _, by omega, by go_num, hpy, HOy, Lib.hid fun j' h1 h2 => ?_, Lib.hid fun j' h1 => ?_, By, by omega⟩
                    · by_cases e : j' = j
                      · subst e
                        rw [List.getElem?_set_self (by rw [HO.len]; omega)]
                      · rw [List.getElem?_set_ne (fun e1 => e e1.symm)]
                        exact HC.out j' (by omega) h2
                    · rw [List.getElem?_set_ne (by omega)]
                      exact HZ.out j' (by omega)
                  case measure => simp [intOf]
            · have E0 := Lib.hid (pAt_over a b s hi hj)
              clear hcq hct r0
              obtain ⟨u1, hu1⟩ : ∃ u, u = pAt a b s (i + 1) j := ⟨_, rfl⟩
              rw [← hu1] at E0 t2 p1
              clear hu1
              go_wp2_with (first | (at_builtin; go_must ((refine wpList_append_rec Try.elInt rfl (.tmp 41) (.tmp 52) rfl rfl (O0.alloc _) (s + u1) rfl (Box.at_ _ [.int .i64 (s + u1)] _ ?_) (intE_one _) ?_ (by decide) ?_ ?_; (focus (first | omega | (simp only [World.size_alloc]; done) | (simp only [World.size_alloc]; omega) | (simp; done) | (simp; omega))); (focus (first | omega | (simp only [World.size_alloc]; done) | (simp only [World.size_alloc]; omega) | (simp; done) | (simp; omega))); (focus (first | omega | (simp only [World.size_alloc]; done) | (simp only [World.size_alloc]; omega) | (simp; done) | (simp; omega))); intro Ao co w1 ho1 hg1 hb1; have BB1 := ((B0.alloc B0.size _).trans hb1)))))
              obtain ⟨wz, hwz⟩ : ∃ wz, wz = w1 := ⟨_, rfl⟩
              rw [← hwz] at ho1 BB1 ⊢
              have hbz := BB1
              have d6 := carry.out _ hbz
              clear hwz hg1 hb1
              obtain ⟨L, hL⟩ : ∃ L, L = ([s + u1] : List Int) := ⟨_, rfl⟩
              have hoz : Owned intE 1 3 wz wo.heap.size Ao 1 co L := by rw [hL]; exact ho1
              have hmin : Hid (minL L = pAt a b s i j) := Lib.hid (by rw [hL]; exact (E0.out ▸ rfl))
              have hLb : ∀ x ∈ L, -100000000 ≤ x ∧ x ≤ 100000000 := by
                rw [hL]; intro x hx; simp only [List.mem_cons, List.not_mem_nil, or_false] at hx; omega
              have HLB := Lib.hid hLb
              have hpz := hp2.up hbz
              have HOz := HO.up hbz
              have Bz := hb2.trans (hbz.mono hb2.size)
              have szz := hbz.size
              clear hL hLb ho1 BB1
              go_wp2
              go_loopw [106] (fun v wr => ∃ (t : Nat) (cur' : List Int), t ≤ 1 ∧ v = .int .i64 t ∧ Hid (cur' = cur.set j (minL (L.take t))) ∧ Part vs' wr w.heap.size w.heap.size (a.length + 1) (fun i' => i + 1 ≤ i') (pRow a b s) ∧ Owned intE 1 3 wr w.heap.size (some ⟨q, 0, none⟩) (b.length + 1) (b.length + 1) cur' ∧ Owned intE 1 3 wr wo.heap.size Ao 1 co L ∧ Below w.heap.size w wr ∧ wz.heap.size ≤ wr.heap.size) (fun v _ => 1 - (intOf v).toNat)
              case atStart =>
                refine ⟨0, cur, Nat.zero_le _, rfl, Lib.hid ?_, hpz, HOz, hoz, Bz, Nat.le_refl _⟩
                have hz0 := HZ.out j (by omega)
                apply List.ext_getElem?
                intro z
                by_cases ez : z = j
                · subst ez; rw [List.getElem?_set_self (by rw [HO.len]; omega), hz0]; rfl
                · rw [List.getElem?_set_ne (fun e1 => ez e1.symm)]
              case round =>
                obtain ⟨t, cur', ht, rfl, HE, hpy, HOy, hoy, By, szy⟩ := hrel
                have ec : cur'[j]? = some (minL (L.take t)) := by rw [HE.out, List.getElem?_set_self (by rw [HO.len]; omega)]
                by_cases hlt : t < 1
                · obtain ⟨bo, oo, x, rfl, _, hx, hcx⟩ := hoy.recs.at_int (k := t) (by rw [hoy.len]; exact hlt)
                  have hxb := HLB.out x (List.mem_of_getElem? hx)
                  obtain ⟨_, e1, _, _, hcq, hfq⟩ := HOy.at_ (by omega)
                  injection e1 with e1; injection e1 with e1; subst e1
                  have old1 := hcq j _ 0 _ ec rfl
                  have fz1 := hfq (j * 1 + 0)
                  obtain ⟨_, e1, _, _, hct, _⟩ := hpy.top.at_ (by omega)
                  injection e1 with e1; injection e1 with e1; subst e1
                  have ct1 := hct i _ 0 _ hv1.out rfl
                  simp only [Nat.mul_one, Nat.add_zero] at old1 fz1 ct1
                  have st : Hid (∀ v, v = minL (L.take (t + 1)) → Hid (cur'.set j v = cur.set j (minL (L.take (t + 1)))) ∧ Part vs' (wr.setCell ⟨q, j, none⟩ (.int .i64 v)) w.heap.size w.heap.size (a.length + 1) (fun i' => i + 1 ≤ i') (pRow a b s) ∧ Owned intE 1 3 (wr.setCell ⟨q, j, none⟩ (.int .i64 v)) w.heap.size (some ⟨q, 0, none⟩) (b.length + 1) (b.length + 1) (cur'.set j v) ∧ Owned intE 1 3 (wr.setCell ⟨q, j, none⟩ (.int .i64 v)) wo.heap.size (some ⟨bo, oo, none⟩) 1 co L ∧ Below w.heap.size w (wr.setCell ⟨q, j, none⟩ (.int .i64 v)) ∧ wz.heap.size ≤ (wr.setCell ⟨q, j, none⟩ (.int .i64 v)).heap.size) := Lib.hid (fun v hv => by
                    have p0 := HOy.put (j := 0) (x := v) (u := .int .i64 v) ec (by decide) rfl
                    simp only [Nat.mul_one, Nat.add_zero] at p0
                    refine ⟨Lib.hid ?_, hpy.past p0.2 (by omega) (fun i' h1 h2 => hne i' h1 h2), p0.1, hoy.past p0.2 (by omega), By.setCell (by show w.heap.size ≤ q; omega) _, by simp; omega⟩
                    rw [hv, HE.out, List.set_set])
                  clear hcq hct ec old0 fz0 ct hmk hmk2
                  by_cases t0 : t = 0
                  · subst t0
                    have M := Lib.hid (minL_head hx)
                    rw [Nat.add_zero] at hcx
                    clear hx
                    go_wp2
                    go_roundw
                    case rel =>
                      obtain ⟨f1, f2, f3, f4, f5, f6⟩ := st.out x M.out.symm
                      exact ⟨1, _, by omega, by go_num, f1, f2, f3, f4, f5, f6⟩
                    case measure => simp [intOf]
                  · omega
                · obtain rfl : t = 1 := by omega
                  rw [List.take_of_length_le (by rw [hoy.len]; exact Nat.le_refl _), hmin.out] at HE
                  have he := HE.out
                  subst he
                  go_wp2
                  go_roundw
                  case rel =>
                    refine ⟨j, _, by omega, by go_num, hpy, HOy, Lib.hid fun j' h1 h2 => ?_, Lib.hid fun j' h1 => ?_, By, by omega⟩
                    · by_cases e : j' = j
                      · subst e
                        rw [List.getElem?_set_self (by rw [HO.len]; omega)]
                      · rw [List.getElem?_set_ne (fun e1 => e e1.symm)]
                        exact HC.out j' (by omega) h2
                    · rw [List.getElem?_set_ne (by omega)]
                      exact HZ.out j' (by omega)
                  case measure => simp [intOf]
          · by_cases hj : j < b.length
            · have t4 := hcq (j + 1) _ 0 _ (HC.out (j + 1) (Nat.le_refl _) (by omega)) rfl
              simp only [Nat.mul_one, Nat.add_zero] at t4
              have p2 := hP.out i (j + 1)
              have E0 := Lib.hid (pAt_down a b s hi hj)
              clear hcq hct
              obtain ⟨u2, hu2⟩ : ∃ u, u = pAt a b s i (j + 1) := ⟨_, rfl⟩
              rw [← hu2] at E0 t4 p2
              clear hu2
              have t4' := fun u (hu : Below wo.heap.size wo u) => (hu.cell (p := ⟨q, j + 1, none⟩) hqx).trans t4
              go_wp2_with (first | (at_builtin; go_must ((refine wpList_append_rec Try.elInt rfl (.tmp 58) (.tmp 69) rfl rfl (O0.alloc _) (s + u2) rfl (Box.at_ _ [.int .i64 (s + u2)] _ ?_) (intE_one _) ?_ (by decide) ?_ ?_; (focus (first | omega | (simp only [World.size_alloc]; done) | (simp only [World.size_alloc]; omega) | (simp; done) | (simp; omega))); (focus (first | omega | (simp only [World.size_alloc]; done) | (simp only [World.size_alloc]; omega) | (simp; done) | (simp; omega))); (focus (first | omega | (simp only [World.size_alloc]; done) | (simp only [World.size_alloc]; omega) | (simp; done) | (simp; omega))); intro Ao co w1 ho1 hg1 hb1; have BB1 := ((B0.alloc B0.size _).trans hb1)))))
              obtain ⟨wz, hwz⟩ : ∃ wz, wz = w1 := ⟨_, rfl⟩
              rw [← hwz] at ho1 BB1 ⊢
              have hbz := BB1
              have d6 := carry.out _ hbz
              clear hwz hg1 hb1
              obtain ⟨L, hL⟩ : ∃ L, L = ([s + u2] : List Int) := ⟨_, rfl⟩
              have hoz : Owned intE 1 3 wz wo.heap.size Ao 1 co L := by rw [hL]; exact ho1
              have hmin : Hid (minL L = pAt a b s i j) := Lib.hid (by rw [hL]; exact (E0.out ▸ rfl))
              have hLb : ∀ x ∈ L, -100000000 ≤ x ∧ x ≤ 100000000 := by
                rw [hL]; intro x hx; simp only [List.mem_cons, List.not_mem_nil, or_false] at hx; omega
              have HLB := Lib.hid hLb
              have hpz := hp2.up hbz
              have HOz := HO.up hbz
              have Bz := hb2.trans (hbz.mono hb2.size)
              have szz := hbz.size
              clear hL hLb ho1 BB1
              go_wp2
              go_loopw [106] (fun v wr => ∃ (t : Nat) (cur' : List Int), t ≤ 1 ∧ v = .int .i64 t ∧ Hid (cur' = cur.set j (minL (L.take t))) ∧ Part vs' wr w.heap.size w.heap.size (a.length + 1) (fun i' => i + 1 ≤ i') (pRow a b s) ∧ Owned intE 1 3 wr w.heap.size (some ⟨q, 0, none⟩) (b.length + 1) (b.length + 1) cur' ∧ Owned intE 1 3 wr wo.heap.size Ao 1 co L ∧ Below w.heap.size w wr ∧ wz.heap.size ≤ wr.heap.size) (fun v _ => 1 - (intOf v).toNat)
              case atStart =>
                refine ⟨0, cur, Nat.zero_le _, rfl, Lib.hid ?_, hpz, HOz, hoz, Bz, Nat.le_refl _⟩
                have hz0 := HZ.out j (by omega)
                apply List.ext_getElem?
                intro z
                by_cases ez : z = j
                · subst ez; rw [List.getElem?_set_self (by rw [HO.len]; omega), hz0]; rfl
                · rw [List.getElem?_set_ne (fun e1 => ez e1.symm)]
              case round =>
                obtain ⟨t, cur', ht, rfl, HE, hpy, HOy, hoy, By, szy⟩ := hrel
                have ec : cur'[j]? = some (minL (L.take t)) := by rw [HE.out, List.getElem?_set_self (by rw [HO.len]; omega)]
                by_cases hlt : t < 1
                · obtain ⟨bo, oo, x, rfl, _, hx, hcx⟩ := hoy.recs.at_int (k := t) (by rw [hoy.len]; exact hlt)
                  have hxb := HLB.out x (List.mem_of_getElem? hx)
                  obtain ⟨_, e1, _, _, hcq, hfq⟩ := HOy.at_ (by omega)
                  injection e1 with e1; injection e1 with e1; subst e1
                  have old1 := hcq j _ 0 _ ec rfl
                  have fz1 := hfq (j * 1 + 0)
                  obtain ⟨_, e1, _, _, hct, _⟩ := hpy.top.at_ (by omega)
                  injection e1 with e1; injection e1 with e1; subst e1
                  have ct1 := hct i _ 0 _ hv1.out rfl
                  simp only [Nat.mul_one, Nat.add_zero] at old1 fz1 ct1
                  have st : Hid (∀ v, v = minL (L.take (t + 1)) → Hid (cur'.set j v = cur.set j (minL (L.take (t + 1)))) ∧ Part vs' (wr.setCell ⟨q, j, none⟩ (.int .i64 v)) w.heap.size w.heap.size (a.length + 1) (fun i' => i + 1 ≤ i') (pRow a b s) ∧ Owned intE 1 3 (wr.setCell ⟨q, j, none⟩ (.int .i64 v)) w.heap.size (some ⟨q, 0, none⟩) (b.length + 1) (b.length + 1) (cur'.set j v) ∧ Owned intE 1 3 (wr.setCell ⟨q, j, none⟩ (.int .i64 v)) wo.heap.size (some ⟨bo, oo, none⟩) 1 co L ∧ Below w.heap.size w (wr.setCell ⟨q, j, none⟩ (.int .i64 v)) ∧ wz.heap.size ≤ (wr.setCell ⟨q, j, none⟩ (.int .i64 v)).heap.size) := Lib.hid (fun v hv => by
                    have p0 := HOy.put (j := 0) (x := v) (u := .int .i64 v) ec (by decide) rfl
                    simp only [Nat.mul_one, Nat.add_zero] at p0
                    refine ⟨Lib.hid ?_, hpy.past p0.2 (by omega) (fun i' h1 h2 => hne i' h1 h2), p0.1, hoy.past p0.2 (by omega), By.setCell (by show w.heap.size ≤ q; omega) _, by simp; omega⟩
                    rw [hv, HE.out, List.set_set])
                  clear hcq hct ec old0 fz0 ct hmk hmk2
                  by_cases t0 : t = 0
                  · subst t0
                    have M := Lib.hid (minL_head hx)
                    rw [Nat.add_zero] at hcx
                    clear hx
                    go_wp2
                    go_roundw
                    case rel =>
                      obtain ⟨f1, f2, f3, f4, f5, f6⟩ := st.out x M.out.symm
                      exact ⟨1, _, by omega, by go_num, f1, f2, f3, f4, f5, f6⟩
                    case measure => simp [intOf]
                  · omega
                · obtain rfl : t = 1 := by omega
                  rw [List.take_of_length_le (by rw [hoy.len]; exact Nat.le_refl _), hmin.out] at HE
                  have he := HE.out
                  subst he
                  go_wp2
                  go_roundw
                  case rel =>
                    refine ⟨j, _, by omega, by go_num, hpy, HOy, Lib.hid fun j' h1 h2 => ?_, Lib.hid fun j' h1 => ?_, By, by omega⟩
                    · by_cases e : j' = j
                      · subst e
                        rw [List.getElem?_set_self (by rw [HO.len]; omega)]
                      · rw [List.getElem?_set_ne (fun e1 => e e1.symm)]
                        exact HC.out j' (by omega) h2
                    · rw [List.getElem?_set_ne (by omega)]
                      exact HZ.out j' (by omega)
                  case measure => simp [intOf]
            · have E0 := Lib.hid (pAt_corner a b s hi hj)
              clear hcq hct
              go_wp2
              obtain ⟨wz, hwz⟩ : ∃ wz, wz = wo.alloc (.cells #[] 3) := ⟨_, rfl⟩
              rw [← hwz] at O0 B0 ⊢
              have hbz := B0
              have d6 := carry.out _ hbz
              clear hwz
              obtain ⟨L, hL⟩ : ∃ L, L = ([] : List Int) := ⟨_, rfl⟩
              have hoz : Owned intE 1 3 wz wo.heap.size (some ⟨wo.heap.size, 0, none⟩) 0 0 L := by rw [hL]; exact O0
              have hmin : Hid (minL L = pAt a b s i j) := Lib.hid (by rw [hL]; exact E0.out.symm)
              have hLb : ∀ x ∈ L, -100000000 ≤ x ∧ x ≤ 100000000 := by
                rw [hL]; intro x hx; cases hx
              have HLB := Lib.hid hLb
              have hpz := hp2.up hbz
              have HOz := HO.up hbz
              have Bz := hb2.trans (hbz.mono hb2.size)
              have szz := hbz.size
              clear hL hLb O0 B0
              go_wp2
              go_loopw [106] (fun v wr => ∃ (t : Nat) (cur' : List Int), t ≤ 0 ∧ v = .int .i64 t ∧ Hid (cur' = cur.set j (minL (L.take t))) ∧ Part vs' wr w.heap.size w.heap.size (a.length + 1) (fun i' => i + 1 ≤ i') (pRow a b s) ∧ Owned intE 1 3 wr w.heap.size (some ⟨q, 0, none⟩) (b.length + 1) (b.length + 1) cur' ∧ Owned intE 1 3 wr wo.heap.size (some ⟨wo.heap.size, 0, none⟩) 0 0 L ∧ Below w.heap.size w wr ∧ wz.heap.size ≤ wr.heap.size) (fun v _ => 0 - (intOf v).toNat)
              case atStart =>
                refine ⟨0, cur, Nat.zero_le _, rfl, Lib.hid ?_, hpz, HOz, hoz, Bz, Nat.le_refl _⟩
                have hz0 := HZ.out j (by omega)
                apply List.ext_getElem?
                intro z
                by_cases ez : z = j
                · subst ez; rw [List.getElem?_set_self (by rw [HO.len]; omega), hz0]; rfl
                · rw [List.getElem?_set_ne (fun e1 => ez e1.symm)]
              case round =>
                obtain ⟨t, cur', ht, rfl, HE, hpy, HOy, hoy, By, szy⟩ := hrel
                have ec : cur'[j]? = some (minL (L.take t)) := by rw [HE.out, List.getElem?_set_self (by rw [HO.len]; omega)]
                obtain rfl : t = 0 := by omega
                rw [List.take_of_length_le (by rw [hoy.len]; exact Nat.le_refl _), hmin.out] at HE
                have he := HE.out
                subst he
                go_wp2
                go_roundw
                case rel =>
                  refine ⟨j, _, by omega, by go_num, hpy, HOy, Lib.hid fun j' h1 h2 => ?_, Lib.hid fun j' h1 => ?_, By, by omega⟩
                  · by_cases e : j' = j
                    · subst e
                      rw [List.getElem?_set_self (by rw [HO.len]; omega)]
                    · rw [List.getElem?_set_ne (fun e1 => e e1.symm)]
                      exact HC.out j' (by omega) h2
                  · rw [List.getElem?_set_ne (by omega)]
                    exact HZ.out j' (by omega)
                case measure => simp [intOf]
end Go.Proofs.Ytpccbmndgdiloaa
/- The walks through PricesOf, both sides. -/
namespace Go.Proofs.Ytpccbmndgdiloaa
set_option linter.unusedVariables false
set_option linter.unusedSimpArgs false
open Go.ChangeShapes Go.WideShapes Go.ChangeAt Go.RowKit Go.Deep
end Go.Proofs.Ytpccbmndgdiloaa
/- The walks through the best match, both sides. -/
namespace Go.Proofs.Ytpccbmndgdiloaa
set_option linter.unusedVariables false
set_option linter.unusedSimpArgs false
open Go.ChangeShapes Go.WideShapes Go.ChangeAt Go.RowKit Go.Deep
theorem mul_bd {s : Int} {x j : Nat} (h0 : 0 ≤ s) (h1 : s ≤ 10000) (h2 : j ≤ x) (h3 : x ≤ 60) : 0 ≤ s * ((x : Int) - (j : Int)) ∧ s * ((x : Int) - (j : Int)) ≤ 600000 := by
  refine ⟨Int.mul_nonneg h0 (by omega), ?_⟩
  exact Int.le_trans (Int.mul_le_mul h1 (show (x : Int) - (j : Int) ≤ 60 by omega) (by omega) (by omega)) (by decide)
set_option maxHeartbeats 2000000 in
set_option maxRecDepth 100000 in
theorem impl_bestMatch {A B : Option Addr} {n m c d : Nat} {a b : List Int} {s : Int} {w : World} (hn : a.length = n) (hm : b.length = m) (h : Ints w A a) (g : Ints w B b) (ha : askedM a b s = true) :
    Calls Try.prog 130 #[.slice A n c, .slice B m d, .int .i64 s] w fun e w' => ∃ A' c', e = .returned (.agg #[.slice A' n c', .int .i64 (pAt a b s 0 0)]) ∧ Owned intE 1 3 w' w.heap.size A' n c' (bestGo a b s a.length 0 0) ∧ Below w.heap.size w w' := by
  subst hn hm
  obtain ⟨⟨a1, a2⟩, ⟨b1, b2⟩, s1, s2⟩ := askedM_t ha
  have HA := Lib.hid a2; have HB := Lib.hid b2
  have hP := Lib.hid (fun i j => pAt_bd ha i j)
  clear a2 b2
  have b0 : Below w.heap.size w (w.alloc (.cells #[.slice none 0 0, .int .i64 0] 64)) := by (repeat' (first | (with_reducible exact Below.refl _ _) | (with_reducible assumption) | (with_reducible refine below_drewN ?_ _) | (with_reducible refine Below.drew ?_) | (with_reducible refine below_alloc ?_ _) | (with_reducible refine Below.alloc ?_ ?_ _) | (with_reducible refine Below.setCell ?_ ?_ _) | (with_reducible refine below_go ?_ (by with_reducible assumption)) | (with_reducible refine below_then (by with_reducible assumption) ?_ ?_) | go_size))
  go_in
  go_wp2_with (first | (go_at_call 191; refine (impl_prices rfl rfl (h.up b0) (g.up b0) ha).mono ?_; rintro e w1 ⟨vs, gg, rfl, hT, hb1⟩))
  have hb1w : Below w.heap.size w w1 := below_go b0 hb1
  have hszr := hb1.size
  simp only [World.size_alloc] at hszr
  go_loopw [8, 9, 19] (fun v q ix wr => ∃ (i j : Nat) (A' : Option Addr) (c' : Nat) (acc : List Int), i ≤ a.length ∧ j ≤ b.length ∧ ix = .int .i64 i ∧ q = .int .i64 j ∧ v = .slice A' i c' ∧ Owned intE 1 3 wr w1.heap.size A' i c' acc ∧ Hid (bestGo a b s a.length 0 0 = acc ++ bestGo a b s (a.length - i) i j) ∧ Below w1.heap.size w1 wr) (fun _ _ ix _ => a.length - (intOf ix).toNat)
  case atStart => exact ⟨0, 0, _, _, [], Nat.zero_le _, Nat.zero_le _, rfl, rfl, rfl, Owned.empty intE_len _ _ (Nat.le_refl _), Lib.hid rfl, by (repeat' (first | (with_reducible exact Below.refl _ _) | (with_reducible assumption) | (with_reducible refine below_drewN ?_ _) | (with_reducible refine Below.drew ?_) | (with_reducible refine below_alloc ?_ _) | (with_reducible refine Below.alloc ?_ ?_ _) | (with_reducible refine Below.setCell ?_ ?_ _) | (with_reducible refine below_go ?_ (by with_reducible assumption)) | (with_reducible refine below_then (by with_reducible assumption) ?_ ?_) | go_size))⟩
  case round =>
    obtain ⟨i, j, A', c', acc, hi, hj, rfl, rfl, rfl, ho, HG, hb⟩ := hrel
    rename World => wo
    have hTr := hT.recs.below hb (Nat.le_refl _)
    by_cases hlt : i < a.length
    · have hoi := Lib.hid ho
      clear ho
      obtain ⟨g0, q0, f0, o0, c0, e0, _, lf0, ct0, cr0⟩ := hTr.rowc (pTab_at a b s (i := i) (by omega)) (by rw [pRow_len]; omega)
      injection e0 with e0; injection e0 with e0 e0'; subst e0 e0'
      obtain ⟨g0, q0, f1, o1, c1, e0, lgg, lf1, ct1, cr1⟩ := hTr.rowc (pTab_at a b s (i := i + 1) (by omega)) (by rw [pRow_len]; omega)
      injection e0 with e0; injection e0 with e0 e0'; subst e0 e0'
      simp only [pRow_len, Nat.zero_add] at ct0 ct1
      have cj0 := cr0 j _ (pRow_at a b s i (by omega))
      have cj1 := cr1 j _ (pRow_at a b s (i + 1) (by omega))
      have p0 := hP.out i j; have p1 := hP.out (i + 1) j
      have CR1 := Lib.hid cr1
      clear cr0 cr1 hTr
      by_cases heq : pAt a b s i j = s + pAt a b s (i + 1) j
      · have HE := Lib.hid heq
        obtain ⟨u0, hu0⟩ : ∃ u, u = pAt a b s i j := ⟨_, rfl⟩
        obtain ⟨u1, hu1⟩ : ∃ u, u = pAt a b s (i + 1) j := ⟨_, rfl⟩
        rw [← hu0] at cj0 p0 heq; rw [← hu1] at cj1 p1 heq
        clear hu0 hu1
        have hbq : (s + u1 == u0) = true := by rw [heq]; simp
        clear heq
        go_wp2
        go_quiet (fail)
        go_wp2_with (first | (at_builtin; go_must ((refine wpList_append_rec Try.elInt rfl (.tmp 40) (.tmp 41) rfl rfl ((hoi.out.drewN _).alloc _) (-1) rfl (Box.at_ _ [.int .i64 (-1)] _ ?_) (intE_one _) ?_ (by decide) ?_ ?_; (focus (first | omega | (simp only [World.size_alloc]; done) | (simp only [World.size_alloc]; omega) | (simp; done) | (simp; omega))); (focus (first | omega | (simp only [World.size_alloc]; done) | (simp only [World.size_alloc]; omega) | (simp; done) | (simp; omega))); (have := hb.size; (focus (first | omega | (simp only [World.size_alloc]; done) | (simp only [World.size_alloc]; omega) | (simp; done) | (simp; omega)))); intro A2 c2 w2 ho2 hg2 hb2))))
        go_roundw
        case rel =>
          refine ⟨i + 1, j, A2, c2, acc ++ [-1], by omega, hj, by go_num, rfl, by go_num, ho2, Lib.hid ?_, (((below_drewN hb _).alloc hb.size _).trans hb2)⟩
          rw [HG.out, bestGo_skip HE.out (by omega), List.append_assoc, show a.length - (i + 1) = a.length - i - 1 by omega]; rfl
        case measure => simp [intOf]; omega
      · have HE := Lib.hid heq
        obtain ⟨nx, n1, n2, n3⟩ := hit_some s1 hlt heq
        have HX := Lib.hid (show ∃ n, j ≤ n ∧ n < b.length ∧ hitB a b s i j n = true from ⟨nx, n1, n2, n3⟩)
        clear n3
        obtain ⟨u0, hu0⟩ : ∃ u, u = pAt a b s i j := ⟨_, rfl⟩
        obtain ⟨u1, hu1⟩ : ∃ u, u = pAt a b s (i + 1) j := ⟨_, rfl⟩
        rw [← hu0] at cj0 p0 heq; rw [← hu1] at cj1 p1 heq
        have U0 := Lib.hid hu0
        clear hu0 hu1
        have hbq : (s + u1 == u0) = false := by simp; omega
        clear heq
        go_wp2
        go_quiet (fail)
        go_wp2
        go_loopw [11] (fun v wy => ∃ x : Nat, j ≤ x ∧ x < b.length ∧ v = .int .i64 x ∧ Hid (hitFrom (hitB a b s i j) (b.length - j) j = hitFrom (hitB a b s i j) (b.length - x) x) ∧ Hid (∃ n, x ≤ n ∧ n < b.length ∧ hitB a b s i j n = true) ∧ Below wo.heap.size wo wy) (fun v _ => b.length - (intOf v).toNat)
        case atStart => exact ⟨j, Nat.le_refl _, by omega, rfl, Lib.hid rfl, HX, by (repeat' (first | (with_reducible exact Below.refl _ _) | (with_reducible assumption) | (with_reducible refine below_drewN ?_ _) | (with_reducible refine Below.drew ?_) | (with_reducible refine below_alloc ?_ _) | (with_reducible refine Below.alloc ?_ ?_ _) | (with_reducible refine Below.setCell ?_ ?_ _) | (with_reducible refine below_go ?_ (by with_reducible assumption)) | (with_reducible refine below_then (by with_reducible assumption) ?_ ?_) | go_size))⟩
        case round =>
          obtain ⟨x, hjx, hxb, rfl, HF, HN, hby⟩ := hrel
          have hwy := hb1w.trans ((hb.trans (hby.mono hb.size)).mono (by omega))
          obtain ⟨b3, o3, xa, rfl, hb3, hxa, hcx⟩ := (h.below hwy (Nat.le_refl _)).at_int hlt
          obtain ⟨b4, o4, yb, rfl, hb4, hyb, hcy⟩ := (g.below hwy (Nat.le_refl _)).at_int hxb
          have EH := Lib.hid (hitB_eq (s := s) (j := j) hxa hyb)
          have x1 := HA.out xa (List.mem_of_getElem? hxa); have y1 := HB.out yb (List.mem_of_getElem? hyb)
          have za := absZ_bd (xa - yb)
          have ct0' := (hby.cell (p := ⟨gg, i, none⟩) (by show gg < wo.heap.size; omega)).trans ct0
          have ct1' := (hby.cell (p := ⟨gg, i + 1, none⟩) (by show gg < wo.heap.size; omega)).trans ct1
          have cj0' := (hby.cell (p := ⟨f0, o0 + j, none⟩) (by show f0 < wo.heap.size; omega)).trans cj0
          have cx1 := (hby.cell (p := ⟨f1, o1 + (x + 1), none⟩) (by show f1 < wo.heap.size; omega)).trans (CR1.out (x + 1) _ (pRow_at a b s (i + 1) (by omega)))
          have p2 := hP.out (i + 1) (x + 1)
          obtain ⟨u2, hu2⟩ : ∃ u, u = pAt a b s (i + 1) (x + 1) := ⟨_, rfl⟩
          rw [← hu2] at cx1 p2 EH
          rw [← U0.out] at EH
          clear hu2
          have mb := mul_bd (x := x) (j := j) s1 s2 hjx (by omega)
          have g0 := wrap_id (x := (x : Int) - (j : Int)) (by omega)
          have g1 := wrap_id (x := s * ((x : Int) - (j : Int))) (by omega)
          have g2 := wrap_id (x := xa - yb) (by omega)
          have g3 := wrap_id (x := s * ((x : Int) - (j : Int)) + absZ (xa - yb)) (by omega)
          have g4 := wrap_id (x := s * ((x : Int) - (j : Int)) + absZ (xa - yb) + u2) (by omega)
          have hbs := hb.size
          clear hxa hyb ct0 ct1 cj0 cj1 h g
          rcases hp : hitB a b s i j x
          · have hcond : (s * ((x : Int) - (j : Int)) + absZ (xa - yb) + u2 != u0) = true := by
              have := EH.out; rw [hp] at this; have := of_decide_eq_false this.symm; simp; omega
            go_wp2
            go_quiet ((go_at_call 192; exact quiet_left (impl_abs _ _ (by omega))))
            go_wp2
            go_roundw
            case rel =>
              obtain ⟨n', m1, m2, m3⟩ := HN.out
              have hnx : n' ≠ x := fun e => by rw [e, hp] at m3; cases m3
              exact ⟨x + 1, by omega, by omega, by go_num, Lib.hid (by rw [HF.out, hitFrom_f hp (by omega), show b.length - (x + 1) = b.length - x - 1 by omega]), Lib.hid ⟨n', by omega, m2, m3⟩, by (repeat' (first | (with_reducible exact Below.refl _ _) | (with_reducible assumption) | (with_reducible refine below_drewN ?_ _) | (with_reducible refine Below.drew ?_) | (with_reducible refine below_alloc ?_ _) | (with_reducible refine Below.alloc ?_ ?_ _) | (with_reducible refine Below.setCell ?_ ?_ _) | (with_reducible refine below_go ?_ (by with_reducible assumption)) | (with_reducible refine below_then (by with_reducible assumption) ?_ ?_) | go_size))⟩
            case measure => simp [intOf]; omega
          · have hcond : (s * ((x : Int) - (j : Int)) + absZ (xa - yb) + u2 != u0) = false := by
              have := EH.out; rw [hp] at this; have := of_decide_eq_true this.symm; simp; omega
            go_wp2
            go_quiet ((go_at_call 192; exact quiet_left (impl_abs _ _ (by omega))))
            go_wp2_with (first | (at_builtin; go_must ((refine wpList_append_rec Try.elInt rfl (.tmp 80) (.tmp 82) rfl rfl (((hoi.out.up hby).drewN _).alloc _) (x : Int) rfl (Box.at_ _ [.int .i64 (x : Int)] _ ?_) (intE_one _) ?_ (by decide) ?_ ?_; (focus (first | omega | (simp only [World.size_alloc]; done) | (simp only [World.size_alloc]; omega) | (simp; done) | (simp; omega))); (focus (first | omega | (simp only [World.size_alloc]; done) | (simp only [World.size_alloc]; omega) | (simp; done) | (simp; omega))); (have := hby.size; (focus (first | omega | (simp only [World.size_alloc]; done) | (simp only [World.size_alloc]; omega) | (simp; done) | (simp; omega)))); intro A2 c2 w2 ho2 hg2 hb2))))
            go_roundw
            case rel =>
              refine ⟨i + 1, x + 1, A2, c2, acc ++ [(x : Int)], by omega, by omega, by go_num, by go_num, by go_num, ho2, Lib.hid ?_, (((below_drewN (hb.trans (hby.mono hb.size)) _).alloc (by have := hby.size; simp; omega) _).trans hb2)⟩
              rw [HG.out, bestGo_hit HE.out (by omega) (HF.out.trans (hitFrom_t hp)), List.append_assoc, show a.length - (i + 1) = a.length - i - 1 by omega]; rfl
            case measure => simp [intOf]; omega
    · obtain rfl : i = a.length := by omega
      obtain ⟨g0, q0, f0, o0, c0, e0, _, lf0, ct0, cr0⟩ := hTr.rowc (pTab_at a b s (i := 0) (by omega)) (by rw [pRow_len]; omega)
      injection e0 with e0; injection e0 with e0 e0'; subst e0 e0'
      have cj0 := cr0 0 _ (pRow_at a b s 0 (by omega))
      simp only [pRow_len, Nat.zero_add, Nat.add_zero] at ct0 cj0
      have hres := HG.out
      rw [Nat.sub_self, bestGo_zero, List.append_nil] at hres
      subst hres
      have K0 := (Blk.at_ w 64 [.slice none 0 0, .int .i64 0] (b := w.heap.size) rfl).up (hb1.trans (hb.mono hb1.size))
      have f0' := K0.frozen 0; have f1' := K0.frozen 1
      have d0' := K0.cell 0; have d1' := K0.cell 1
      simp only [List.getElem?_cons_zero, List.getElem?_cons_succ] at d0' d1'
      have HK := Lib.hid K0
      have HO := Lib.hid ho
      have hsz := hb.size
      clear cr0 K0 ho
      go_wp2
      have Z := (HK.out.set_ 0 (.slice A' a.length c')).set_ 1 (.int .i64 (pAt a b s 0 0))
      have z0 := Z.cell 0; have z1 := Z.cell 1
      simp only [List.set_cons_zero, List.set_cons_succ, List.getElem?_cons_zero, List.getElem?_cons_succ] at z0 z1
      refine bodyPost_ret (v := .agg #[.slice A' a.length c', .int .i64 (pAt a b s 0 0)]) (by simp [results, Try.results130, go_sem, z0, z1]) rfl ?_
      have k1 := HO.out.kept (only_set wo (p := ⟨w.heap.size, 0, none⟩) (.slice A' a.length c')) (fun k hk e => by have := (HO.out.blk hk).1; simp at e; omega)
      have k2 := k1.kept (only_set _ (p := ⟨w.heap.size, 1, none⟩) (.int .i64 (pAt a b s 0 0))) (fun k hk e => by have := (HO.out.blk hk).1; simp at e; omega)
      exact ⟨A', c', rfl, k2.base_le (by omega), ((hb1w.trans (hb.mono (by omega))).setCell (by simp) _).setCell (by simp) _⟩
end Go.Proofs.Ytpccbmndgdiloaa
/- The walk through the reference's best match. -/
namespace Go.Proofs.Ytpccbmndgdiloaa
set_option linter.unusedVariables false
set_option linter.unusedSimpArgs false
open Go.ChangeShapes Go.WideShapes Go.ChangeAt Go.RowKit Go.Deep
set_option maxHeartbeats 2000000 in
set_option maxRecDepth 100000 in
theorem spec_l22Best {A B : Option Addr} {n m c d : Nat} {a b : List Int} {s : Int} {w : World} (hn : a.length = n) (hm : b.length = m) (h : Ints w A a) (g : Ints w B b) (ha : askedM a b s = true) :
    Calls Try.prog 132 #[.slice A n c, .slice B m d, .int .i64 s] w fun e w' => ∃ A' c', e = .returned (.agg #[.slice A' n c', .int .i64 (pAt a b s 0 0)]) ∧ Owned intE 1 3 w' w.heap.size A' n c' (bestGo a b s a.length 0 0) ∧ Below w.heap.size w w' := by
  subst hn hm
  obtain ⟨⟨a1, a2⟩, ⟨b1, b2⟩, s1, s2⟩ := askedM_t ha
  have HA := Lib.hid a2; have HB := Lib.hid b2
  have hP := Lib.hid (fun i j => pAt_bd ha i j)
  clear a2 b2
  have b0 : Below w.heap.size w (w.alloc (.cells #[.slice none 0 0, .int .i64 0] 64)) := by (repeat' (first | (with_reducible exact Below.refl _ _) | (with_reducible assumption) | (with_reducible refine below_drewN ?_ _) | (with_reducible refine Below.drew ?_) | (with_reducible refine below_alloc ?_ _) | (with_reducible refine Below.alloc ?_ ?_ _) | (with_reducible refine Below.setCell ?_ ?_ _) | (with_reducible refine below_go ?_ (by with_reducible assumption)) | (with_reducible refine below_then (by with_reducible assumption) ?_ ?_) | go_size))
  go_in
  go_wp2_with fail
  refine (spec_l22Prices rfl rfl (h.up b0) (g.up b0) ha).mono ?_; rintro e w1 ⟨vs, gg, rfl, hT, hb1⟩
  have hb1w : Below w.heap.size w w1 := below_go b0 hb1
  have hszr := hb1.size
  simp only [World.size_alloc] at hszr
  obtain ⟨g0, q0, f0, o0, c0, e0, lgg0, lf0, ct0, cr0⟩ := hT.recs.rowc (pTab_at a b s (i := 0) (by omega)) (by rw [pRow_len]; omega)
  injection e0 with e0; injection e0 with e0 e0'; subst e0 e0'
  have cj0 := cr0 0 _ (pRow_at a b s 0 (by omega))
  simp only [pRow_len, Nat.zero_add, Nat.add_zero] at ct0 cj0
  have K1 := Blk.at_ w1 64 [.slice none 0 0, .int .i64 (pAt a b s 0 0)] (b := w1.heap.size) rfl
  clear cr0
  go_wp2
  clear ct0 cj0
  go_loopw [9, 24] (fun q ix wr => ∃ (i j : Nat) (A' : Option Addr) (c' : Nat) (acc : List Int), i ≤ a.length ∧ j ≤ b.length ∧ ix = .int .i64 i ∧ q = .int .i64 j ∧ Blk wr w1.heap.size 64 [.slice A' i c', .int .i64 (pAt a b s 0 0)] ∧ Owned intE 1 3 wr (w1.heap.size + 1) A' i c' acc ∧ Hid (bestGo a b s a.length 0 0 = acc ++ bestGo a b s (a.length - i) i j) ∧ Below w1.heap.size w1 wr ∧ w1.heap.size < wr.heap.size) (fun _ ix _ => a.length - (intOf ix).toNat)
  case atStart => exact ⟨0, 0, none, 0, [], Nat.zero_le _, Nat.zero_le _, rfl, rfl, K1, Owned.nil intE_len _ _ _, Lib.hid rfl, by (repeat' (first | (with_reducible exact Below.refl _ _) | (with_reducible assumption) | (with_reducible refine below_drewN ?_ _) | (with_reducible refine Below.drew ?_) | (with_reducible refine below_alloc ?_ _) | (with_reducible refine Below.alloc ?_ ?_ _) | (with_reducible refine Below.setCell ?_ ?_ _) | (with_reducible refine below_go ?_ (by with_reducible assumption)) | (with_reducible refine below_then (by with_reducible assumption) ?_ ?_) | go_size)), by simp⟩
  case round =>
    obtain ⟨i, j, A', c', acc, hi, hj, rfl, rfl, hK, ho, HG, hb, hbl⟩ := hrel
    rename World => wo
    have hTr := hT.recs.below hb (Nat.le_refl _)
    by_cases hlt : i < a.length
    · have hoi := Lib.hid ho
      clear ho
      obtain ⟨g0, q0, f0, o0, c0, e0, _, lf0, ct0, cr0⟩ := hTr.rowc (pTab_at a b s (i := i) (by omega)) (by rw [pRow_len]; omega)
      injection e0 with e0; injection e0 with e0 e0'; subst e0 e0'
      obtain ⟨g0, q0, f1, o1, c1, e0, lgg, lf1, ct1, cr1⟩ := hTr.rowc (pTab_at a b s (i := i + 1) (by omega)) (by rw [pRow_len]; omega)
      injection e0 with e0; injection e0 with e0 e0'; subst e0 e0'
      simp only [pRow_len, Nat.zero_add] at ct0 ct1
      have k0 := hK.cell 0
      simp only [List.getElem?_cons_zero] at k0
      have HK := Lib.hid hK
      clear hK
      have cj0 := cr0 j _ (pRow_at a b s i (by omega))
      have cj1 := cr1 j _ (pRow_at a b s (i + 1) (by omega))
      have p0 := hP.out i j; have p1 := hP.out (i + 1) j
      have CR1 := Lib.hid cr1
      clear cr0 cr1 hTr
      by_cases heq : pAt a b s i j = s + pAt a b s (i + 1) j
      · have HE := Lib.hid heq
        obtain ⟨u0, hu0⟩ : ∃ u, u = pAt a b s i j := ⟨_, rfl⟩
        obtain ⟨u1, hu1⟩ : ∃ u, u = pAt a b s (i + 1) j := ⟨_, rfl⟩
        rw [← hu0] at cj0 p0 heq; rw [← hu1] at cj1 p1 heq
        clear hu0 hu1
        have hbq : (u0 == s + u1) = true := by rw [heq]; simp
        clear heq
        go_wp2
        go_quiet (fail)
        go_wp2_with (first | (at_builtin; go_must ((refine wpList_append_rec Try.elInt rfl (.tmp 46) (.tmp 47) rfl rfl ((hoi.out.drewN _).alloc _) (-1) rfl (Box.at_ _ [.int .i64 (-1)] _ ?_) (intE_one _) ?_ (by decide) ?_ ?_; (focus (first | omega | (simp only [World.size_alloc]; done) | (simp only [World.size_alloc]; omega) | (simp; done) | (simp; omega))); (focus (first | omega | (simp only [World.size_alloc]; done) | (simp only [World.size_alloc]; omega) | (simp; done) | (simp; omega))); (focus (first | omega | (simp only [World.size_alloc]; done) | (simp only [World.size_alloc]; omega) | (simp; done) | (simp; omega))); intro A2 c2 w2 ho2 hg2 hb2; have KB := ((HK.out.drewN _).alloc _).grown hg2 (fun e => by have := hoi.out.blk e.symm; omega); have kc := KB.cell 0; have kf := KB.frozen 0; simp only [List.getElem?_cons_zero] at kc; have HKB := Lib.hid KB; clear KB))))
        go_roundw
        case rel =>
          refine ⟨i + 1, j, A2, c2, acc ++ [-1], by omega, hj, by go_num, rfl, HKB.out.set_ 0 (.slice A2 (i + 1) c2), ho2.past (only_set _ _) (by simp), Lib.hid ?_, ((((below_drewN hb _).alloc hb.size _).trans (hb2.mono (by omega))).setCell (by simp) _), by have := hb2.size; simp at this ⊢; omega⟩
          rw [HG.out, bestGo_skip HE.out (by omega), List.append_assoc, show a.length - (i + 1) = a.length - i - 1 by omega]; rfl
        case measure => simp [intOf]; omega
      · have HE := Lib.hid heq
        obtain ⟨nx, n1, n2, n3⟩ := hit_some s1 hlt heq
        have HX := Lib.hid (show ∃ n, j ≤ n ∧ n < b.length ∧ hitB a b s i j n = true from ⟨nx, n1, n2, n3⟩)
        clear n3
        obtain ⟨u0, hu0⟩ : ∃ u, u = pAt a b s i j := ⟨_, rfl⟩
        obtain ⟨u1, hu1⟩ : ∃ u, u = pAt a b s (i + 1) j := ⟨_, rfl⟩
        rw [← hu0] at cj0 p0 heq; rw [← hu1] at cj1 p1 heq
        have U0 := Lib.hid hu0
        clear hu0 hu1
        have hbq : (u0 == s + u1) = false := by simp; omega
        clear heq
        go_wp2
        go_quiet (fail)
        go_wp2
        go_loopw [11, 9] (fun v q wy => ∃ x : Nat, j ≤ x ∧ x < b.length ∧ v = .int .i64 x ∧ q = .int .i64 j ∧ Hid (hitFrom (hitB a b s i j) (b.length - j) j = hitFrom (hitB a b s i j) (b.length - x) x) ∧ Hid (∃ n, x ≤ n ∧ n < b.length ∧ hitB a b s i j n = true) ∧ Below wo.heap.size wo wy) (fun v _ _ => b.length - (intOf v).toNat)
        case atStart => exact ⟨j, Nat.le_refl _, by omega, rfl, rfl, Lib.hid rfl, HX, by (repeat' (first | (with_reducible exact Below.refl _ _) | (with_reducible assumption) | (with_reducible refine below_drewN ?_ _) | (with_reducible refine Below.drew ?_) | (with_reducible refine below_alloc ?_ _) | (with_reducible refine Below.alloc ?_ ?_ _) | (with_reducible refine Below.setCell ?_ ?_ _) | (with_reducible refine below_go ?_ (by with_reducible assumption)) | (with_reducible refine below_then (by with_reducible assumption) ?_ ?_) | go_size))⟩
        case round =>
          obtain ⟨x, hjx, hxb, rfl, rfl, HF, HN, hby⟩ := hrel
          have hwy := hb1w.trans ((hb.trans (hby.mono hb.size)).mono (by omega))
          obtain ⟨b3, o3, xa, rfl, hb3, hxa, hcx⟩ := (h.below hwy (Nat.le_refl _)).at_int hlt
          obtain ⟨b4, o4, yb, rfl, hb4, hyb, hcy⟩ := (g.below hwy (Nat.le_refl _)).at_int hxb
          have EH := Lib.hid (hitB_eq (s := s) (j := j) hxa hyb)
          have x1 := HA.out xa (List.mem_of_getElem? hxa); have y1 := HB.out yb (List.mem_of_getElem? hyb)
          have za := absZ_bd (xa - yb)
          have ct0' := (hby.cell (p := ⟨gg, i, none⟩) (by show gg < wo.heap.size; omega)).trans ct0
          have ct1' := (hby.cell (p := ⟨gg, i + 1, none⟩) (by show gg < wo.heap.size; omega)).trans ct1
          have cj0' := (hby.cell (p := ⟨f0, o0 + j, none⟩) (by show f0 < wo.heap.size; omega)).trans cj0
          have kx := (hby.cell (p := ⟨w1.heap.size, 0, none⟩) hbl).trans k0
          have cx1 := (hby.cell (p := ⟨f1, o1 + (x + 1), none⟩) (by show f1 < wo.heap.size; omega)).trans (CR1.out (x + 1) _ (pRow_at a b s (i + 1) (by omega)))
          have p2 := hP.out (i + 1) (x + 1)
          obtain ⟨u2, hu2⟩ : ∃ u, u = pAt a b s (i + 1) (x + 1) := ⟨_, rfl⟩
          rw [← hu2] at cx1 p2 EH
          rw [← U0.out] at EH
          clear hu2
          have mb := mul_bd (x := x) (j := j) s1 s2 hjx (by omega)
          have g0 := wrap_id (x := (x : Int) - (j : Int)) (by omega)
          have g1 := wrap_id (x := s * ((x : Int) - (j : Int))) (by omega)
          have g2 := wrap_id (x := xa - yb) (by omega)
          have g3 := wrap_id (x := s * ((x : Int) - (j : Int)) + absZ (xa - yb)) (by omega)
          have g4 := wrap_id (x := s * ((x : Int) - (j : Int)) + absZ (xa - yb) + u2) (by omega)
          have hbs := hb.size
          have hiN : i < a.length + 1 := by omega
          have hjN : j < b.length + 1 := by omega
          have hiI : (i : Int) < (a.length : Int) + 1 := by omega
          have hjI : (j : Int) < (b.length : Int) + 1 := by omega
          clear hxa hyb ct0 ct1 cj0 cj1 h g
          rcases hp : hitB a b s i j x
          · have hcond : (u0 == s * ((x : Int) - (j : Int)) + absZ (xa - yb) + u2) = false := by
              have := EH.out; rw [hp] at this; have := of_decide_eq_false this.symm; simp; omega
            go_wp2
            go_quiet ((go_at_call 194; exact quiet_left (spec_l22Far _ _ _ (by omega))))
            go_wp2
            go_roundw
            case rel =>
              obtain ⟨n', m1, m2, m3⟩ := HN.out
              have hnx : n' ≠ x := fun e => by rw [e, hp] at m3; cases m3
              exact ⟨x + 1, by omega, by omega, by go_num, rfl, Lib.hid (by rw [HF.out, hitFrom_f hp (by omega), show b.length - (x + 1) = b.length - x - 1 by omega]), Lib.hid ⟨n', by omega, m2, m3⟩, by (repeat' (first | (with_reducible exact Below.refl _ _) | (with_reducible assumption) | (with_reducible refine below_drewN ?_ _) | (with_reducible refine Below.drew ?_) | (with_reducible refine below_alloc ?_ _) | (with_reducible refine Below.alloc ?_ ?_ _) | (with_reducible refine Below.setCell ?_ ?_ _) | (with_reducible refine below_go ?_ (by with_reducible assumption)) | (with_reducible refine below_then (by with_reducible assumption) ?_ ?_) | go_size))⟩
            case measure => simp [intOf]; omega
          · have hcond : (u0 == s * ((x : Int) - (j : Int)) + absZ (xa - yb) + u2) = true := by
              have := EH.out; rw [hp] at this; have := of_decide_eq_true this.symm; simp; omega
            go_wp2
            go_quiet ((go_at_call 194; exact quiet_left (spec_l22Far _ _ _ (by omega))))
            go_wp2_with (first | (at_builtin; go_must ((refine wpList_append_rec Try.elInt rfl (.tmp 91) (.tmp 93) rfl rfl (((hoi.out.up hby).drewN _).alloc _) (x : Int) rfl (Box.at_ _ [.int .i64 (x : Int)] _ ?_) (intE_one _) ?_ (by decide) ?_ ?_; (focus (first | omega | (simp only [World.size_alloc]; done) | (simp only [World.size_alloc]; omega) | (simp; done) | (simp; omega))); (focus (first | omega | (simp only [World.size_alloc]; done) | (simp only [World.size_alloc]; omega) | (simp; done) | (simp; omega))); (have := hby.size; (focus (first | omega | (simp only [World.size_alloc]; done) | (simp only [World.size_alloc]; omega) | (simp; done) | (simp; omega)))); intro A2 c2 w2 ho2 hg2 hb2; have KB := (((HK.out.up hby).drewN _).alloc _).grown hg2 (fun e => by have := hoi.out.blk e.symm; omega); have kc := KB.cell 0; have kf := KB.frozen 0; simp only [List.getElem?_cons_zero] at kc; have HKB := Lib.hid KB; clear KB))))
            go_roundw
            case rel =>
              refine ⟨i + 1, x + 1, A2, c2, acc ++ [(x : Int)], by omega, by omega, by go_num, by go_num, HKB.out.set_ 0 (.slice A2 (i + 1) c2), ho2.past (only_set _ _) (by simp), Lib.hid ?_, ((((below_drewN (hb.trans (hby.mono hb.size)) _).alloc (by have := hby.size; simp; omega) _).trans (hb2.mono (by omega))).setCell (by simp) _), by have := hb2.size; have := hby.size; simp at *; omega⟩
              rw [HG.out, bestGo_hit HE.out (by omega) (HF.out.trans (hitFrom_t hp)), List.append_assoc, show a.length - (i + 1) = a.length - i - 1 by omega]; rfl
            case measure => simp [intOf]; omega
    · obtain rfl : i = a.length := by omega
      have hres := HG.out
      rw [Nat.sub_self, bestGo_zero, List.append_nil] at hres
      subst hres
      have K0 := (Blk.at_ w 64 [.slice none 0 0, .int .i64 0] (b := w.heap.size) rfl).up (hb1.trans (hb.mono hb1.size))
      have f0' := K0.frozen 0; have f1' := K0.frozen 1
      have d0' := K0.cell 0; have d1' := K0.cell 1
      have k0 := hK.cell 0; have k1 := hK.cell 1
      simp only [List.getElem?_cons_zero, List.getElem?_cons_succ] at d0' d1' k0 k1
      have HK := Lib.hid K0
      have HO := Lib.hid ho
      have hsz := hb.size
      clear K0 ho hTr
      go_wp2
      have Z := (HK.out.set_ 0 (.slice A' a.length c')).set_ 1 (.int .i64 (pAt a b s 0 0))
      have z0 := Z.cell 0; have z1 := Z.cell 1
      simp only [List.set_cons_zero, List.set_cons_succ, List.getElem?_cons_zero, List.getElem?_cons_succ] at z0 z1
      refine bodyPost_ret (v := .agg #[.slice A' a.length c', .int .i64 (pAt a b s 0 0)]) (by simp [results, Try.results132, go_sem, z0, z1]) rfl ?_
      have k1 := HO.out.kept (only_set wo (p := ⟨w.heap.size, 0, none⟩) (.slice A' a.length c')) (fun k hk e => by have := (HO.out.blk hk).1; simp at e; omega)
      have k2 := k1.kept (only_set _ (p := ⟨w.heap.size, 1, none⟩) (.int .i64 (pAt a b s 0 0))) (fun k hk e => by have := (HO.out.blk hk).1; simp at e; omega)
      exact ⟨A', c', rfl, k2.base_le (by omega), ((hb1w.trans (hb.mono (by omega))).setCell (by simp) _).setCell (by simp) _⟩
end Go.Proofs.Ytpccbmndgdiloaa
/- The walks through BestMatch, both sides. -/
namespace Go.Proofs.Ytpccbmndgdiloaa
set_option linter.unusedVariables false
set_option linter.unusedSimpArgs false
open Go.ChangeShapes Go.WideShapes Go.ChangeAt Go.RowKit Go.Deep
theorem impl_BestMatch {A B : Option Addr} {n m c d : Nat} {a b : List Int} {s : Int} {w : World} (hn : a.length = n) (h : Ints w A a) (hz : n ≤ 1048576) (hm : b.length = m) (g : Ints w B b) (hz' : m ≤ 1048576) :
    Calls Try.prog 43 #[.slice A n c, .slice B m d, .int .i64 s] w fun e w' => ∃ A' c', e = .returned (.tuple #[.agg #[.slice A' (bestOf a b s).length c', .int .i64 (bestCost a b s)], .bool (askedM a b s)]) ∧ Owned intE 1 3 w' w.heap.size A' (bestOf a b s).length c' (bestOf a b s) ∧ (bestOf a b s).length ≤ 16777216 ∧ Below w.heap.size w w' := by
  subst hn hm
  have b0 : Below w.heap.size w (w.alloc (.cells #[.slice none 0 0, .int .i64 0] 64)) := by (repeat' (first | (with_reducible exact Below.refl _ _) | (with_reducible assumption) | (with_reducible refine below_drewN ?_ _) | (with_reducible refine Below.drew ?_) | (with_reducible refine below_alloc ?_ _) | (with_reducible refine Below.alloc ?_ ?_ _) | (with_reducible refine Below.setCell ?_ ?_ _) | (with_reducible refine below_go ?_ (by with_reducible assumption)) | (with_reducible refine below_then (by with_reducible assumption) ?_ ?_) | go_size))
  have K0 := Blk.at_ w 64 [.slice none 0 0, .int .i64 0] (b := w.heap.size) rfl
  rcases h1 : askedM a b s
  · have e1 := (best_f h1).1
    have e2 := (best_f h1).2
    rw [e1, e2]
    have f0 := K0.frozen 0; have f1 := K0.frozen 1; have d0 := K0.cell 0; have d1 := K0.cell 1
    simp only [List.getElem?_cons_zero, List.getElem?_cons_succ] at d0 d1
    have HK := Lib.hid K0
    clear K0 e1 e2
    go_in
    go_wp2_with (first | (go_at_call 129; refine (impl_goodMatching rfl rfl (h.up b0) (g.up b0) (by omega) (by omega)).mono ?_; rintro e w' ⟨rfl, rfl⟩; rw [h1]))
    have Z := (HK.out.set_ 0 (.slice none 0 0)).set_ 1 (.int .i64 0)
    have z0 := Z.cell 0; have z1 := Z.cell 1
    simp only [List.set_cons_zero, List.set_cons_succ, List.getElem?_cons_zero, List.getElem?_cons_succ] at z0 z1
    refine bodyPost_ret (v := .tuple #[.agg #[.slice none 0 0, .int .i64 0], .bool false]) (by simp [results, Try.results43, go_sem, z0, z1]) rfl ?_
    exact ⟨none, 0, rfl, Owned.nil intE_len _ _ _, by decide, b0⟩
  · have e1 := (best_t h1).1
    have e2 := (best_t h1).2
    rw [e1, e2]
    have hl := bestGo_len a b s a.length 0 0
    have ha := (askedM_t h1).1.1
    rw [hl]
    clear e1 e2
    go_in
    go_wp2_with (first | (go_at_call 129; refine (impl_goodMatching rfl rfl (h.up b0) (g.up b0) (by omega) (by omega)).mono ?_; rintro e w' ⟨rfl, rfl⟩; rw [h1]) | (go_at_call 130; refine (impl_bestMatch rfl rfl (h.up b0) (g.up b0) h1).mono ?_; rintro e w1 ⟨A', c', rfl, ho, hb1⟩; have KB := K0.up hb1; have f0 := KB.frozen 0; have f1 := KB.frozen 1; have d0 := KB.cell 0; have d1 := KB.cell 1; simp only [List.getElem?_cons_zero, List.getElem?_cons_succ] at d0 d1; have HK := Lib.hid KB; have HO := Lib.hid ho; clear K0 KB ho))
    have hsz := hb1.size
    simp only [World.size_alloc] at hsz
    have Z := (HK.out.set_ 0 (.slice A' a.length c')).set_ 1 (.int .i64 (pAt a b s 0 0))
    have z0 := Z.cell 0; have z1 := Z.cell 1
    simp only [List.set_cons_zero, List.set_cons_succ, List.getElem?_cons_zero, List.getElem?_cons_succ] at z0 z1
    refine bodyPost_ret (v := .tuple #[.agg #[.slice A' a.length c', .int .i64 (pAt a b s 0 0)], .bool true]) (by simp [results, Try.results43, go_sem, z0, z1]) rfl ?_
    have k1 := HO.out.kept (only_set w1 (p := ⟨w.heap.size, 0, none⟩) (.slice A' a.length c')) (fun k hk e => by have := (HO.out.blk hk).1; simp at e this; omega)
    have k2 := k1.kept (only_set _ (p := ⟨w.heap.size, 1, none⟩) (.int .i64 (pAt a b s 0 0))) (fun k hk e => by have := (HO.out.blk hk).1; simp at e this; omega)
    exact ⟨A', c', rfl, k2.base_le (by simp), by omega, ((below_go b0 hb1).setCell (by simp) _).setCell (by simp) _⟩
theorem spec_BestMatch {A B : Option Addr} {n m c d : Nat} {a b : List Int} {s : Int} {w : World} (hn : a.length = n) (h : Ints w A a) (hz : n ≤ 1048576) (hm : b.length = m) (g : Ints w B b) (hz' : m ≤ 1048576) :
    Calls Try.prog 44 #[.slice A n c, .slice B m d, .int .i64 s] w fun e w' => ∃ A' c', e = .returned (.tuple #[.agg #[.slice A' (bestOf a b s).length c', .int .i64 (bestCost a b s)], .bool (askedM a b s)]) ∧ Owned intE 1 3 w' w.heap.size A' (bestOf a b s).length c' (bestOf a b s) ∧ (bestOf a b s).length ≤ 16777216 ∧ Below w.heap.size w w' := by
  subst hn hm
  have b0 : Below w.heap.size w (w.alloc (.cells #[.slice none 0 0, .int .i64 0] 64)) := by (repeat' (first | (with_reducible exact Below.refl _ _) | (with_reducible assumption) | (with_reducible refine below_drewN ?_ _) | (with_reducible refine Below.drew ?_) | (with_reducible refine below_alloc ?_ _) | (with_reducible refine Below.alloc ?_ ?_ _) | (with_reducible refine Below.setCell ?_ ?_ _) | (with_reducible refine below_go ?_ (by with_reducible assumption)) | (with_reducible refine below_then (by with_reducible assumption) ?_ ?_) | go_size))
  have K0 := Blk.at_ w 64 [.slice none 0 0, .int .i64 0] (b := w.heap.size) rfl
  rcases h1 : askedM a b s
  · have e1 := (best_f h1).1
    have e2 := (best_f h1).2
    rw [e1, e2]
    have f0 := K0.frozen 0; have f1 := K0.frozen 1; have d0 := K0.cell 0; have d1 := K0.cell 1
    simp only [List.getElem?_cons_zero, List.getElem?_cons_succ] at d0 d1
    have HK := Lib.hid K0
    clear K0 e1 e2
    go_in
    go_wp2_with (first | (go_at_call 131; refine (spec_l22Asked rfl rfl (h.up b0) (g.up b0) (by omega) (by omega)).mono ?_; rintro e w' ⟨rfl, rfl⟩; rw [h1]))
    have Z := (HK.out.set_ 0 (.slice none 0 0)).set_ 1 (.int .i64 0)
    have z0 := Z.cell 0; have z1 := Z.cell 1
    simp only [List.set_cons_zero, List.set_cons_succ, List.getElem?_cons_zero, List.getElem?_cons_succ] at z0 z1
    refine bodyPost_ret (v := .tuple #[.agg #[.slice none 0 0, .int .i64 0], .bool false]) (by simp [results, Try.results44, go_sem, z0, z1]) rfl ?_
    exact ⟨none, 0, rfl, Owned.nil intE_len _ _ _, by decide, b0⟩
  · have e1 := (best_t h1).1
    have e2 := (best_t h1).2
    rw [e1, e2]
    have hl := bestGo_len a b s a.length 0 0
    have ha := (askedM_t h1).1.1
    rw [hl]
    clear e1 e2
    go_in
    go_wp2_with (first | (go_at_call 131; refine (spec_l22Asked rfl rfl (h.up b0) (g.up b0) (by omega) (by omega)).mono ?_; rintro e w' ⟨rfl, rfl⟩; rw [h1]) | (go_at_call 132; refine (spec_l22Best rfl rfl (h.up b0) (g.up b0) h1).mono ?_; rintro e w1 ⟨A', c', rfl, ho, hb1⟩; have KB := K0.up hb1; have f0 := KB.frozen 0; have f1 := KB.frozen 1; have d0 := KB.cell 0; have d1 := KB.cell 1; simp only [List.getElem?_cons_zero, List.getElem?_cons_succ] at d0 d1; have HK := Lib.hid KB; have HO := Lib.hid ho; clear K0 KB ho))
    have hsz := hb1.size
    simp only [World.size_alloc] at hsz
    have Z := (HK.out.set_ 0 (.slice A' a.length c')).set_ 1 (.int .i64 (pAt a b s 0 0))
    have z0 := Z.cell 0; have z1 := Z.cell 1
    simp only [List.set_cons_zero, List.set_cons_succ, List.getElem?_cons_zero, List.getElem?_cons_succ] at z0 z1
    refine bodyPost_ret (v := .tuple #[.agg #[.slice A' a.length c', .int .i64 (pAt a b s 0 0)], .bool true]) (by simp [results, Try.results44, go_sem, z0, z1]) rfl ?_
    have k1 := HO.out.kept (only_set w1 (p := ⟨w.heap.size, 0, none⟩) (.slice A' a.length c')) (fun k hk e => by have := (HO.out.blk hk).1; simp at e this; omega)
    have k2 := k1.kept (only_set _ (p := ⟨w.heap.size, 1, none⟩) (.int .i64 (pAt a b s 0 0))) (fun k hk e => by have := (HO.out.blk hk).1; simp at e this; omega)
    exact ⟨A', c', rfl, k2.base_le (by simp), by omega, ((below_go b0 hb1).setCell (by simp) _).setCell (by simp) _⟩
end Go.Proofs.Ytpccbmndgdiloaa
/- What the check of a table of remaining costs computes, as plain functions. -/
namespace Go.Proofs.Ytpccbmndgdiloaa
set_option linter.unusedVariables false
set_option linter.unusedSimpArgs false
def rowB (m : Nat) (r : List Int) : Bool := decide (r.length = m + 1) && allIn r 0 100000000
def okRowB (m : Nat) (T : List (List Int)) (i : Nat) : Bool := rowB m (T.getD i [])
def shapeB (n m : Nat) (T : List (List Int)) : Bool := (List.range T.length).all (okRowB m T) && decide (T.length = n + 1)
theorem okRowB_at {m : Nat} {T : List (List Int)} {i : Nat} {r : List Int} (h : T[i]? = some r) : okRowB m T i = rowB m r := by simp [okRowB, List.getD, h]
def tc (T : List (List Int)) (i j : Nat) : Int := (T.getD i []).getD j 0
theorem tc_at {T : List (List Int)} {i j : Nat} {r : List Int} {x : Int} (h : T[i]? = some r) (hx : r[j]? = some x) : tc T i j = x := by simp [tc, List.getD, h, hx]
theorem shapeB_t {n m : Nat} {T : List (List Int)} (h : shapeB n m T = true) : T.length = n + 1 ∧ ∀ i, i < n + 1 → ∃ r, T[i]? = some r ∧ r.length = m + 1 ∧ ∀ j, j < m + 1 → r[j]? = some (tc T i j) ∧ 0 ≤ tc T i j ∧ tc T i j ≤ 100000000 := by
  simp only [shapeB, Bool.and_eq_true, decide_eq_true_eq, List.all_eq_true, List.mem_range] at h
  refine ⟨h.2, fun i hi => ?_⟩
  have hT : T[i]? = some (T[i]'(by omega)) := List.getElem?_eq_getElem (by omega)
  have h1 := h.1 i (by omega)
  rw [okRowB_at hT, rowB, Bool.and_eq_true, decide_eq_true_eq] at h1
  refine ⟨_, hT, h1.1, fun j hj => ?_⟩
  have hr : (T[i]'(by omega))[j]? = some ((T[i]'(by omega))[j]'(by omega)) := List.getElem?_eq_getElem (by omega)
  rw [tc_at hT hr]
  exact ⟨hr, allIn_t h1.2 hr⟩
/-- Each of the three steps. -/
def badA (s : Int) (T : List (List Int)) (i j : Nat) : Bool := decide (tc T i j > s + tc T (i + 1) j)
def badB (s : Int) (T : List (List Int)) (i j : Nat) : Bool := decide (tc T i j > s + tc T i (j + 1))
def badC (a b : List Int) (T : List (List Int)) (i j : Nat) : Bool := decide (tc T i j > absZ (a.getD i 0 - b.getD j 0) + tc T (i + 1) (j + 1))
def okCell (a b : List Int) (s : Int) (T : List (List Int)) (i j : Nat) : Bool :=
  !((decide (i < a.length) && badA s T i j) || (decide (j < b.length) && badB s T i j) || ((decide (i < a.length) && decide (j < b.length)) && badC a b T i j))
theorem okCell_A {a b : List Int} {s : Int} {T : List (List Int)} {i j : Nat} (hi : i < a.length) (q : s + tc T (i + 1) j < tc T i j) : okCell a b s T i j = false := by
  have : badA s T i j = true := decide_eq_true q
  simp [okCell, hi, this]
theorem okCell_B {a b : List Int} {s : Int} {T : List (List Int)} {i j : Nat} (hj : j < b.length) (q : s + tc T i (j + 1) < tc T i j) : okCell a b s T i j = false := by
  have : badB s T i j = true := decide_eq_true q
  simp [okCell, hj, this]
theorem okCell_C {a b : List Int} {s x y : Int} {T : List (List Int)} {i j : Nat} (hx : a[i]? = some x) (hy : b[j]? = some y) (q : absZ (x - y) + tc T (i + 1) (j + 1) < tc T i j) : okCell a b s T i j = false := by
  have hi := (List.getElem?_eq_some_iff.1 hx).1
  have hj := (List.getElem?_eq_some_iff.1 hy).1
  have : badC a b T i j = true := by
    rw [badC, List.getD, List.getD, hx, hy]; exact decide_eq_true q
  simp [okCell, hi, hj, this]
theorem okCell_ok {a b : List Int} {s : Int} {T : List (List Int)} {i j : Nat} (h1 : i < a.length → ¬ s + tc T (i + 1) j < tc T i j) (h2 : j < b.length → ¬ s + tc T i (j + 1) < tc T i j)
    (h3 : ∀ x y, a[i]? = some x → b[j]? = some y → ¬ absZ (x - y) + tc T (i + 1) (j + 1) < tc T i j) : okCell a b s T i j = true := by
  rw [okCell]
  have e1 : (decide (i < a.length) && badA s T i j) = false := by
    by_cases hi : i < a.length
    · have : badA s T i j = false := decide_eq_false (h1 hi)
      rw [this, Bool.and_false]
    · rw [decide_eq_false hi, Bool.false_and]
  have e2 : (decide (j < b.length) && badB s T i j) = false := by
    by_cases hj : j < b.length
    · have : badB s T i j = false := decide_eq_false (h2 hj)
      rw [this, Bool.and_false]
    · rw [decide_eq_false hj, Bool.false_and]
  have e3 : ((decide (i < a.length) && decide (j < b.length)) && badC a b T i j) = false := by
    by_cases hi : i < a.length
    · by_cases hj : j < b.length
      · have hx := List.getElem?_eq_getElem hi
        have hy := List.getElem?_eq_getElem hj
        have : badC a b T i j = false := by rw [badC, List.getD, List.getD, hx, hy]; exact decide_eq_false (h3 _ _ hx hy)
        rw [this, Bool.and_false]
      · rw [decide_eq_false hj, Bool.and_false, Bool.false_and]
    · rw [decide_eq_false hi, Bool.false_and, Bool.false_and]
  rw [e1, e2, e3]; rfl
def okLine (a b : List Int) (s : Int) (T : List (List Int)) (i : Nat) : Bool := (List.range (b.length + 1)).all (okCell a b s T i)
def boundB (a b : List Int) (s : Int) (T : List (List Int)) : Bool := (List.range (a.length + 1)).all (okLine a b s T)
theorem boundB_bad {a b : List Int} {s : Int} {T : List (List Int)} {i j : Nat} (hi : i < a.length + 1) (hj : j < b.length + 1) (h : okCell a b s T i j = false) : boundB a b s T = false := by
  have h1 : okLine a b s T i = false := by
    rw [Bool.eq_false_iff]; intro ha
    rw [okLine, List.all_eq_true] at ha
    rw [ha j (List.mem_range.2 hj)] at h; cases h
  rw [Bool.eq_false_iff]; intro ha
  rw [boundB, List.all_eq_true] at ha
  rw [ha i (List.mem_range.2 hi)] at h1; cases h1
theorem okLine_t {a b : List Int} {s : Int} {T : List (List Int)} {i : Nat} (h : ∀ j, j < b.length + 1 → okCell a b s T i j = true) : okLine a b s T i = true := by
  rw [okLine, List.all_eq_true]; exact fun j hj => h j (List.mem_range.1 hj)
theorem boundB_t {a b : List Int} {s : Int} {T : List (List Int)} (h : ∀ i, i < a.length + 1 → okLine a b s T i = true) : boundB a b s T = true := by
  rw [boundB, List.all_eq_true]; exact fun j hj => h j (List.mem_range.1 hj)
def cpOk (a b : List Int) (s : Int) (T : List (List Int)) : Bool := askedM a b s && shapeB a.length b.length T
def cpV (a b : List Int) (s : Int) (T : List (List Int)) (of : List Int) (cost : Int) : Bool :=
  boundB a b s T && ((tc T a.length b.length == 0) && (wayB a.length b.length of && ((cost == tc T 0 0) && (cost == costZ a b of s))))
def cpR (a b : List Int) (s : Int) (T : List (List Int)) (of : List Int) (cost : Int) : Bool := cpOk a b s T && cpV a b s T of cost
theorem cpV_b {a b : List Int} {s : Int} {T : List (List Int)} {of : List Int} {cost : Int} (h : boundB a b s T = false) : cpV a b s T of cost = false := by simp [cpV, h]
theorem cp_f {a b : List Int} {s : Int} {T : List (List Int)} {of : List Int} {cost : Int} (h : cpOk a b s T = false) : cpR a b s T of cost = false := by simp [cpR, h]
theorem cp_t {a b : List Int} {s : Int} {T : List (List Int)} {of : List Int} {cost : Int} (h : cpOk a b s T = true) : cpR a b s T of cost = cpV a b s T of cost := by simp [cpR, h]
end Go.Proofs.Ytpccbmndgdiloaa
/- The table's corner is the least cost: every alignment costs at least as much, the best match costs just so; a table that bounds itself lies below. -/
namespace Go.Proofs.Ytpccbmndgdiloaa
set_option linter.unusedVariables false
set_option linter.unusedSimpArgs false
theorem pAt_skip {a b : List Int} {s : Int} {i j : Nat} (hi : i < a.length) (hs : 0 ≤ s) : pAt a b s i j ≤ s + pAt a b s (i + 1) j := by
  by_cases hj : j < b.length
  · rw [pAt_in (List.getElem?_eq_getElem hi) (List.getElem?_eq_getElem hj)]; omega
  · rw [pAt_over a b s hi hj]; exact Int.le_refl _
theorem pAt_far {a b : List Int} {s x : Int} {i : Nat} (hx : a[i]? = some x) (hs : 0 ≤ s) : ∀ (d j : Nat) {y : Int}, b[j + d]? = some y → pAt a b s i j ≤ s * (d : Int) + absZ (x - y) + pAt a b s (i + 1) (j + d + 1)
  | 0, j, y, hy => by
    rw [Nat.add_zero] at hy ⊢
    rw [pAt_in hx hy]
    simp only [Int.natCast_zero, Int.mul_zero, Int.zero_add]
    rw [show j + 0 + 1 = j + 1 from rfl]
    omega
  | d + 1, j, y, hy => by
    have hj : j < b.length := by have := (List.getElem?_eq_some_iff.1 hy).1; omega
    have h1 := pAt_far hx hs d (j + 1) (y := y) (by rw [← hy]; congr 1; omega)
    have h2 := pAt_in (s := s) hx (List.getElem?_eq_getElem hj)
    rw [mul_succ_len]
    rw [show j + 1 + d + 1 = j + (d + 1) + 1 by omega] at h1
    omega
/-- The cost of what an alignment still holds, j struck times used up. -/
def goCost (a b : List Int) (s : Int) : Nat → Nat → List Int → Int
  | _, j, [] => s * ((b.length : Int) - (j : Int))
  | i, j, k :: r => if k < 0 then s + goCost a b s (i + 1) j r else s * (k - (j : Int)) + absZ (a.getD i 0 - b.getD k.toNat 0) + goCost a b s (i + 1) (k.toNat + 1) r
theorem goCost_nil (a b : List Int) (s : Int) (i j : Nat) : goCost a b s i j [] = s * ((b.length : Int) - (j : Int)) := rfl
theorem goCost_neg {a b : List Int} {s k : Int} {i j : Nat} {r : List Int} (h : k < 0) : goCost a b s i j (k :: r) = s + goCost a b s (i + 1) j r := by rw [goCost, if_pos h]
theorem goCost_pos {a b : List Int} {s k : Int} {i j : Nat} {r : List Int} (h : ¬ k < 0) : goCost a b s i j (k :: r) = s * (k - (j : Int)) + absZ (a.getD i 0 - b.getD k.toNat 0) + goCost a b s (i + 1) (k.toNat + 1) r := by rw [goCost, if_neg h]
theorem wayGo_tail {m last k : Int} {r : List Int} (h : wayGo m last (k :: r) = true) : (k = -1 ∧ wayGo m last r = true) ∨ (k ≠ -1 ∧ last < k ∧ k < m ∧ wayGo m k r = true) := by
  by_cases h1 : k = -1
  · exact .inl ⟨h1, by rw [wayGo_skip h1] at h; exact h⟩
  · by_cases h2 : k ≤ last ∨ m ≤ k
    · rw [wayGo_bad h1 h2] at h; cases h
    · rw [wayGo_go h1 h2] at h
      exact .inr ⟨h1, by omega, by omega, h⟩
theorem goCost_least {a b : List Int} {s : Int} (hs : 0 ≤ s) : ∀ (of : List Int) (i j : Nat), i + of.length = a.length → j ≤ b.length → wayGo (b.length : Int) ((j : Int) - 1) of = true → pAt a b s i j ≤ goCost a b s i j of
  | [], i, j, hi, hj, _ => by
    rw [goCost_nil, pAt_bottom a b s (by simp at hi; omega) hj]; exact Int.le_refl _
  | k :: r, i, j, hi, hj, hw => by
    simp only [List.length_cons] at hi
    rcases wayGo_tail hw with ⟨rfl, h2⟩ | ⟨h1, h2, h3, h4⟩
    · rw [goCost_neg (by omega)]
      have q1 := goCost_least (a := a) (b := b) hs r (i + 1) j (by omega) hj h2
      have q2 := pAt_skip (a := a) (b := b) (s := s) (i := i) (j := j) (by omega) hs
      omega
    · obtain ⟨n, rfl⟩ := Int.eq_ofNat_of_zero_le (show 0 ≤ k by omega)
      rw [goCost_pos (by omega), Int.toNat_natCast]
      have hx : a[i]? = some (a[i]'(by omega)) := List.getElem?_eq_getElem (by omega)
      have hy : b[j + (n - j)]? = some (b[n]'(by omega)) := by rw [show j + (n - j) = n by omega]; exact List.getElem?_eq_getElem (by omega)
      have q1 := pAt_far hx hs (n - j) j hy
      have q2 := goCost_least (a := a) (b := b) hs r (i + 1) (n + 1) (by omega) (by omega) (by rw [show (((n + 1 : Nat) : Int) - 1) = (n : Int) by omega]; exact h4)
      rw [show j + (n - j) + 1 = n + 1 by omega, show ((n - j : Nat) : Int) = (n : Int) - (j : Int) by omega] at q1
      rw [List.getD, List.getD, hx, List.getElem?_eq_getElem (show n < b.length by omega)]
      simp only [Option.getD_some]
      omega
theorem goCost_sum (a b : List Int) (s : Int) (of : List Int) : ∀ (d i j : Nat), i + d = of.length → goCost a b s i j (of.drop i) = (sumTo (costAt a b of s) of.length - sumTo (costAt a b of s) i) + s * ((b.length : Int) - (j : Int) - (sumTo (hitAt of) of.length - sumTo (hitAt of) i))
  | 0, i, j, h => by
    obtain rfl : i = of.length := by omega
    rw [List.drop_length, goCost_nil, Int.sub_self, Int.sub_self, Int.sub_zero, Int.zero_add]
  | d + 1, i, j, h => by
    have hk : of[i]? = some (of[i]'(by omega)) := List.getElem?_eq_getElem (by omega)
    rw [drop_some hk]
    by_cases h0 : of[i]'(by omega) < 0
    · have hc := costAt_neg (ideal := a) (struck := b) (skip := s) hk h0
      rw [goCost_neg h0, goCost_sum a b s of d (i + 1) j (by omega), sumTo, sumTo, hc.1, hc.2, Int.add_zero]
      omega
    · have hc1 : costAt a b of s i = absZ (a.getD i 0 - b.getD (of[i]'(by omega)).toNat 0) := by simp only [costAt, List.getD, hk, Option.getD_some, if_neg h0]
      have hc2 : hitAt of i = 1 := by simp only [hitAt, List.getD, hk, Option.getD_some, if_neg h0]
      rw [goCost_pos h0, goCost_sum a b s of d (i + 1) _ (by omega), sumTo, sumTo, hc1, hc2]
      obtain ⟨n, hn⟩ := Int.eq_ofNat_of_zero_le (show 0 ≤ of[i]'(by omega) by omega)
      rw [hn, Int.toNat_natCast]
      have e1 : s * ((b.length : Int) - (j : Int) - (sumTo (hitAt of) of.length - sumTo (hitAt of) i)) = s * ((n : Int) - (j : Int)) + s * ((b.length : Int) - ((n + 1 : Nat) : Int) - (sumTo (hitAt of) of.length - (sumTo (hitAt of) i + 1))) := by
        rw [← Int.mul_add]; congr 1; omega
      rw [e1]
      omega
theorem costZ_go (a b : List Int) (s : Int) (of : List Int) : costZ a b of s = goCost a b s 0 0 of := by
  have h := goCost_sum a b s of of.length 0 0 (by omega)
  rw [List.drop_zero] at h
  rw [h, costZ]
  simp only [sumTo, Int.sub_zero, Int.natCast_zero]
  rw [Int.mul_comm]
theorem least_cost {a b of : List Int} {s : Int} (hs : 0 ≤ s) (h : wayB a.length b.length of = true) : pAt a b s 0 0 ≤ costZ a b of s := by
  have h1 := (wayB_t h).1
  simp only [wayB, Bool.and_eq_true] at h
  rw [costZ_go]
  exact goCost_least hs of 0 0 (by omega) (Nat.zero_le _) (by simpa using h.1)
/-! the best match -/
theorem hitFrom_in {p : Nat → Bool} : ∀ (k j : Nat), (∃ n, j ≤ n ∧ n < j + k ∧ p n = true) → p (hitFrom p k j) = true ∧ j ≤ hitFrom p k j ∧ hitFrom p k j < j + k
  | 0, j, h => by obtain ⟨n, h1, h2, _⟩ := h; omega
  | k + 1, j, h => by
    rcases hp : p j
    · rw [hitFrom_f hp (by omega)]
      obtain ⟨n, h1, h2, h3⟩ := h
      have hne : n ≠ j := fun e => by rw [e, hp] at h3; cases h3
      have q := hitFrom_in k (j + 1) ⟨n, by omega, by omega, h3⟩
      exact ⟨q.1, by have := q.2.1; simp only [Nat.add_sub_cancel] at *; omega, by have := q.2.2; simp only [Nat.add_sub_cancel] at *; omega⟩
    · rw [hitFrom_t hp]
      exact ⟨hp, Nat.le_refl _, by omega⟩
theorem best_ok {a b : List Int} {s : Int} (hs : 0 ≤ s) : ∀ (k i j : Nat), i + k = a.length → j ≤ b.length → wayGo b.length ((j : Int) - 1) (bestGo a b s k i j) = true ∧ goCost a b s i j (bestGo a b s k i j) = pAt a b s i j
  | 0, i, j, hi, hj => by
    rw [bestGo_zero]
    exact ⟨rfl, by rw [goCost_nil, pAt_bottom a b s (by omega) hj]⟩
  | k + 1, i, j, hi, hj => by
    by_cases h : pAt a b s i j = s + pAt a b s (i + 1) j
    · rw [bestGo_skip h (by omega)]
      have q := best_ok (a := a) (b := b) hs k (i + 1) j (by omega) hj
      exact ⟨by rw [wayGo_skip rfl]; exact q.1, by rw [goCost_neg (by omega), Nat.add_sub_cancel, q.2, h]⟩
    · obtain ⟨n0, h1, h2, h3⟩ := hit_some hs (show i < a.length by omega) h
      have q0 := hitFrom_in (p := hitB a b s i j) (b.length - j) j ⟨n0, h1, by omega, h3⟩
      obtain ⟨n, hn⟩ : ∃ n, n = hitFrom (hitB a b s i j) (b.length - j) j := ⟨_, rfl⟩
      rw [← hn] at q0
      rw [bestGo_hit h (by omega) hn.symm]
      have q := best_ok (a := a) (b := b) hs k (i + 1) (n + 1) (by omega) (by omega)
      rw [show (((n + 1 : Nat) : Int) - 1) = (n : Int) by omega] at q
      refine ⟨?_, ?_⟩
      · rw [wayGo_go (by omega) (by omega)]; exact q.1
      · rw [goCost_pos (by omega), Int.toNat_natCast, Nat.add_sub_cancel, q.2]
        have := of_decide_eq_true q0.1
        omega
theorem best_way {a b : List Int} {s : Int} (h : askedM a b s = true) : wayB a.length b.length (bestOf a b s) = true ∧ costZ a b (bestOf a b s) s = bestCost a b s := by
  have hs := (askedM_t h).2.2.1
  have q := best_ok (a := a) (b := b) hs a.length 0 0 (by omega) (Nat.zero_le _)
  rw [(best_t h).1, (best_t h).2]
  refine ⟨?_, ?_⟩
  · rw [wayB, bestGo_len]
    have := q.1
    simp only [Int.natCast_zero, Int.zero_sub] at this
    rw [this]; simp
  · rw [costZ_go]; exact q.2
/-! tables -/
theorem tc_pTab {a b : List Int} {s : Int} {i j : Nat} (hi : i < a.length + 1) (hj : j < b.length + 1) : tc (pTab a b s) i j = pAt a b s i j := tc_at (pTab_at a b s hi) (pRow_at a b s i hj)
theorem cp_best {a b : List Int} {s : Int} (h : askedM a b s = true) : cpOk a b s (pTabR a b s) = true ∧ cpR a b s (pTabR a b s) (bestOf a b s) (bestCost a b s) = true := by
  have hs := (askedM_t h).2.2.1
  rw [pTabR_t h]
  have h1 : shapeB a.length b.length (pTab a b s) = true := by
    simp only [shapeB, Bool.and_eq_true, decide_eq_true_eq, List.all_eq_true, List.mem_range]
    refine ⟨fun i hi => ?_, pTab_len a b s⟩
    rw [pTab_len] at hi
    rw [okRowB_at (pTab_at a b s hi), rowB, pRow_len, decide_eq_true (rfl : b.length + 1 = b.length + 1), Bool.true_and, allIn, List.all_eq_true]
    intro x hx
    obtain ⟨j, _, rfl⟩ := List.mem_map.1 hx
    have := pAt_bd h i j
    rw [inB, decide_eq_true_iff]; omega
  have h2 : boundB a b s (pTab a b s) = true := by
    refine boundB_t fun i hi => okLine_t fun j hj => ?_
    refine okCell_ok (fun q => ?_) (fun q => ?_) (fun x y hx hy => ?_)
    · rw [tc_pTab hi hj, tc_pTab (by omega) hj]
      have := pAt_skip (b := b) (j := j) q hs
      omega
    · rw [tc_pTab hi hj, tc_pTab hi (by omega)]
      by_cases hia : i < a.length
      · have := pAt_in (s := s) (List.getElem?_eq_getElem hia) (List.getElem?_eq_getElem q)
        omega
      · have := pAt_down a b s hia q
        omega
    · have hia := (List.getElem?_eq_some_iff.1 hx).1
      have hjb := (List.getElem?_eq_some_iff.1 hy).1
      rw [tc_pTab hi hj, tc_pTab (by omega) (by omega)]
      have := pAt_in (s := s) hx hy
      omega
  have h3 : cpOk a b s (pTab a b s) = true := by rw [cpOk, h, h1]; rfl
  refine ⟨h3, ?_⟩
  rw [cp_t h3, cpV, h2, tc_pTab (by omega) (by omega), tc_pTab (by omega) (by omega), pAt_corner a b s (by omega) (by omega), (best_way h).1, (best_way h).2, (best_t h).2]
  simp
theorem tc_below {a b : List Int} {s : Int} {T : List (List Int)} (hb : boundB a b s T = true) (hc : tc T a.length b.length = 0) : ∀ (d i j : Nat), a.length + b.length - i - j = d → i ≤ a.length → j ≤ b.length → tc T i j ≤ pAt a b s i j := by
  have hcell : ∀ i j, i < a.length + 1 → j < b.length + 1 → okCell a b s T i j = true := fun i j hi hj => by
    rw [boundB, List.all_eq_true] at hb
    have := hb i (List.mem_range.2 hi)
    rw [okLine, List.all_eq_true] at this
    exact this j (List.mem_range.2 hj)
  intro d
  induction d using Nat.strongRecOn with
  | ind d ih =>
    intro i j hd hi hj
    have hok := hcell i j (by omega) (by omega)
    have nA : ¬ (i < a.length ∧ s + tc T (i + 1) j < tc T i j) := fun q => by rw [okCell_A q.1 q.2] at hok; cases hok
    have nB : ¬ (j < b.length ∧ s + tc T i (j + 1) < tc T i j) := fun q => by rw [okCell_B q.1 q.2] at hok; cases hok
    by_cases hia : i < a.length
    · have q1 := ih (a.length + b.length - (i + 1) - j) (by omega) (i + 1) j rfl (by omega) hj
      by_cases hjb : j < b.length
      · have q2 := ih (a.length + b.length - i - (j + 1)) (by omega) i (j + 1) rfl hi (by omega)
        have q3 := ih (a.length + b.length - (i + 1) - (j + 1)) (by omega) (i + 1) (j + 1) rfl (by omega) (by omega)
        have hx := List.getElem?_eq_getElem hia
        have hy := List.getElem?_eq_getElem hjb
        have nC : ¬ absZ (a[i] - b[j]) + tc T (i + 1) (j + 1) < tc T i j := fun q => by rw [okCell_C hx hy q] at hok; cases hok
        have := pAt_in (s := s) hx hy
        omega
      · have := pAt_over a b s hia hjb
        omega
    · by_cases hjb : j < b.length
      · have q2 := ih (a.length + b.length - i - (j + 1)) (by omega) i (j + 1) rfl hi (by omega)
        have := pAt_down a b s hia hjb
        omega
      · obtain rfl : i = a.length := by omega
        obtain rfl : j = b.length := by omega
        rw [hc, pAt_corner a b s (by omega) (by omega)]; exact Int.le_refl _
theorem cp_least {a b of : List Int} {s x : Int} {T : List (List Int)} (h1 : cpOk a b s T = true) (h2 : cpR a b s T of x = true) : askedM a b s = true ∧ bestCost a b s = x := by
  have hA : askedM a b s = true ∧ shapeB a.length b.length T = true := by simpa [cpOk] using h1
  have hV : boundB a b s T = true ∧ tc T a.length b.length = 0 ∧ wayB a.length b.length of = true ∧ x = tc T 0 0 ∧ x = costZ a b of s := by simpa [cpR, cpV, h1] using h2
  refine ⟨hA.1, ?_⟩
  rw [(best_t hA.1).2]
  have q1 := least_cost (askedM_t hA.1).2.2.1 hV.2.2.1
  have q2 := tc_below hV.1 hV.2.1 _ 0 0 rfl (Nat.zero_le _) (Nat.zero_le _)
  have e1 := hV.2.2.2.1
  have e2 := hV.2.2.2.2
  omega
end Go.Proofs.Ytpccbmndgdiloaa
/- The walks through the generators of alignments and of arguments for the best match. -/
namespace Go.Proofs.Ytpccbmndgdiloaa
set_option linter.unusedVariables false
set_option linter.unusedSimpArgs false
open Go.ChangeShapes Go.WideShapes Go.ChangeAt Go.RowKit Go.Deep
set_option maxHeartbeats 2000000 in
set_option maxRecDepth 100000 in
theorem cur_way {A : Option Addr} {n c a p N M : Nat} {w0 w : World} (hS : Src w0 A n) (hb : Below w0.heap.size w0 w) (hp : w0.heap.size ≤ p) (hc : Cur w p A n c a) (ha : a ≤ 1000000) (hN : N ≤ 1000) (hM : M ≤ 1000) :
    Calls Try.prog 195 #[.pointer (some ⟨p, 0, none⟩), .int .i64 N, .int .i64 M] w fun e w' => ∃ A1 n1 c1 l1, e = .returned (.slice A1 n1 c1) ∧ n1 ≤ 1000 ∧ (∀ x ∈ l1, -1000 ≤ x ∧ x ≤ 2000) ∧ TL w w' p A1 n1 c1 l1 none 0 0 [] ∧ Cur w' p A n c (a + 10000) := by
  have hpw := hc.lt
  have T0 : TL w w p none 0 0 [] none 0 0 [] := ⟨Owned.nil intE_len _ _ _, Owned.nil intE_len _ _ _, fun k hk => (by cases hk), grown_any (Below.refl _ _) _⟩
  have G : Hid (∀ u : World, w.grownBy u (some p) → Below w0.heap.size w0 u) := Lib.hid (fun u hg => grown_below hb hp hg)
  go_in
  go_wp2
  go_loopw [7, 8, 9] (fun va vl vk wr => ∃ (k : Nat) (last : Int) (A1 : Option Addr) (c1 : Nat) (l1 : List Int), k ≤ N ∧ vk = .int .i64 k ∧ vl = .int .i64 last ∧ -1 ≤ last ∧ last ≤ 1000 ∧ va = .slice A1 k c1 ∧ Hid (∀ x ∈ l1, -1000 ≤ x ∧ x ≤ 2000) ∧ TL w wr p A1 k c1 l1 none 0 0 [] ∧ Cur wr p A n c (a + 3 * k)) (fun _ _ vk _ => N - (intOf vk).toNat)
  case atStart => exact ⟨0, -1, none, 0, [], Nat.zero_le _, rfl, rfl, by omega, by omega, rfl, Lib.hid (fun x hx => by cases hx), T0, hc.mono (by omega)⟩
  case round =>
    obtain ⟨k, last, A1, c1, l1, hk, rfl, rfl, hl0, hl1, rfl, HL, T3, hc3⟩ := hrel
    rename World => wo
    by_cases hlt : k < N
    · have hI : (k : Int) < (N : Int) := by omega
      go_wp2_with fail
      refine (cur_pick hS (G.out _ T3.gr) hp hc3 (by omega) (by omega) (by omega)).mono ?_; rintro e w4 ⟨d, rfl, ⟨d0, d1⟩, hc4, hg4⟩
      have T4 := T3.grown hpw hg4
      have sz4 := T4.gr.size
      obtain ⟨t', ht'⟩ : ∃ t', t' = last + 1 + d := ⟨_, rfl⟩
      have td : 0 ≤ t' ∧ t' ≤ 1003 := by omega
      by_cases hge : (M : Int) ≤ last + 1 + d
      · go_wp2_with (first | (at_builtin; go_must ((refine wpList_append_rec2 Try.elInt rfl (.tmp 28) (.tmp 29) rfl rfl (T4.own1.alloc _) (-1) rfl (Box.at_ _ [.int .i64 (-1)] _ ?_) (intE_one _) ?_ (by decide) ?_ ?_; (focus (first | omega | (simp only [World.size_alloc]; done) | (simp only [World.size_alloc]; omega) | (simp; done) | (simp; omega))); (focus (first | omega | (simp only [World.size_alloc]; done) | (simp only [World.size_alloc]; omega) | (simp; done) | (simp; omega))); (focus (first | omega | (simp only [World.size_alloc]; done) | (simp only [World.size_alloc]; omega) | (simp; done) | (simp; omega))); intro A5 c5 w5 ho5 hg5 hl5))))
        have T5 := (T4.alloc (.cells #[.int .i64 (-1)] 3)).app1 ho5 hg5 hl5
        have hc5 := (hc4.up ((Below.refl _ _).alloc (Nat.le_refl _) (.cells #[.int .i64 (-1)] 3))).app (T4.alloc (.cells #[.int .i64 (-1)] 3)).own1 hpw hg5
        go_roundw
        case rel => exact ⟨k + 1, last, A5, c5, _, by omega, by go_num, rfl, hl0, hl1, by go_num, Lib.hid (fun x hx => by
          rcases List.mem_append.1 hx with hx | hx
          · exact HL.out x hx
          · rw [List.mem_singleton.1 hx]; omega), T5, hc5.mono (by omega)⟩
        case measure => simp [intOf]; omega
      · go_wp2_with fail
        refine (cur_one hS (G.out _ T4.gr) hp hc4 (by omega) (by omega) (by omega)).mono ?_; rintro e w6 ⟨b1, rfl, hc6, hg6⟩
        have T6 := T4.grown hpw hg6
        have sz6 := T6.gr.size
        rcases b1
        · go_wp2_with (first | (at_builtin; go_must ((refine wpList_append_rec2 Try.elInt rfl (.tmp 31) (.tmp 33) rfl rfl (T6.own1.alloc _) (last + 1 + d) rfl (Box.at_ _ [.int .i64 (last + 1 + d)] _ ?_) (intE_one _) ?_ (by decide) ?_ ?_; (focus (first | omega | (simp only [World.size_alloc]; done) | (simp only [World.size_alloc]; omega) | (simp; done) | (simp; omega))); (focus (first | omega | (simp only [World.size_alloc]; done) | (simp only [World.size_alloc]; omega) | (simp; done) | (simp; omega))); (focus (first | omega | (simp only [World.size_alloc]; done) | (simp only [World.size_alloc]; omega) | (simp; done) | (simp; omega))); intro A5 c5 w5 ho5 hg5 hl5))))
          have T5 := (T6.alloc (.cells #[.int .i64 (last + 1 + d)] 3)).app1 ho5 hg5 hl5
          have hc5 := (hc6.up ((Below.refl _ _).alloc (Nat.le_refl _) (.cells #[.int .i64 (last + 1 + d)] 3))).app (T6.alloc (.cells #[.int .i64 (last + 1 + d)] 3)).own1 hpw hg5
          go_roundw
          case rel => exact ⟨k + 1, last + 1 + d, A5, c5, _, by omega, by go_num, rfl, by omega, by omega, by go_num, Lib.hid (fun x hx => by
            rcases List.mem_append.1 hx with hx | hx
            · exact HL.out x hx
            · rw [List.mem_singleton.1 hx]; omega), T5, hc5.mono (by omega)⟩
          case measure => simp [intOf]; omega
        · go_wp2_with (first | (at_builtin; go_must ((refine wpList_append_rec2 Try.elInt rfl (.tmp 28) (.tmp 29) rfl rfl (T6.own1.alloc _) (-1) rfl (Box.at_ _ [.int .i64 (-1)] _ ?_) (intE_one _) ?_ (by decide) ?_ ?_; (focus (first | omega | (simp only [World.size_alloc]; done) | (simp only [World.size_alloc]; omega) | (simp; done) | (simp; omega))); (focus (first | omega | (simp only [World.size_alloc]; done) | (simp only [World.size_alloc]; omega) | (simp; done) | (simp; omega))); (focus (first | omega | (simp only [World.size_alloc]; done) | (simp only [World.size_alloc]; omega) | (simp; done) | (simp; omega))); intro A5 c5 w5 ho5 hg5 hl5))))
          have T5 := (T6.alloc (.cells #[.int .i64 (-1)] 3)).app1 ho5 hg5 hl5
          have hc5 := (hc6.up ((Below.refl _ _).alloc (Nat.le_refl _) (.cells #[.int .i64 (-1)] 3))).app (T6.alloc (.cells #[.int .i64 (-1)] 3)).own1 hpw hg5
          go_roundw
          case rel => exact ⟨k + 1, last, A5, c5, _, by omega, by go_num, rfl, hl0, hl1, by go_num, Lib.hid (fun x hx => by
            rcases List.mem_append.1 hx with hx | hx
            · exact HL.out x hx
            · rw [List.mem_singleton.1 hx]; omega), T5, hc5.mono (by omega)⟩
          case measure => simp [intOf]; omega
    · obtain rfl : k = N := by omega
      by_cases hn : 0 < k
      · have hnI : (0 : Int) < (k : Int) := by omega
        go_wp2_with fail
        refine (cur_one hS (G.out _ T3.gr) hp hc3 (by omega) (by omega) (by omega)).mono ?_; rintro e w4 ⟨b1, rfl, hc4, hg4⟩
        have T4 := T3.grown hpw hg4
        have lt4 := hc4.lt
        rcases b1
        · go_wp2
          go_ret
          exact ⟨A1, k, c1, l1, rfl, by omega, HL.out, T4, hc4.mono (by omega)⟩
        · have hlit := lit_ints w4 3 [-2, 60, (M : Int)]
          have T5 := T4.alloc (.cells ⟨[-2, 60, (M : Int)].map fun x => Value.int .i64 x⟩ 3)
          have hc5 := hc4.up ((Below.refl _ _).alloc (Nat.le_refl _) (.cells ⟨[-2, 60, (M : Int)].map fun x => Value.int .i64 x⟩ 3))
          go_wp2_with fail
          refine (cur_among hS (G.out _ T5.gr) hp hc5 (by omega) rfl hlit (by simp) (by simp) (fun b o e => by injection e with e; injection e with e; omega)).mono ?_; rintro e w6 ⟨x, hx, rfl, hc6, hg6⟩
          have T6 := T5.grown hpw hg6
          have xb : -1000 ≤ x ∧ x ≤ 2000 := by
            simp only [List.mem_cons, List.not_mem_nil, or_false] at hx; omega
          obtain ⟨y, hy⟩ := some_of_lt (l := l1) (k := 0) (by rw [T6.own1.len]; exact hn)
          obtain ⟨g, rfl, _, lg, hcell, hfz⟩ := T6.own1.at_ hn
          have old0 := hcell 0 y 0 _ hy rfl
          have fz0 := hfz (0 * 1 + 0)
          simp only [Nat.mul_one, Nat.add_zero, Nat.zero_mul] at old0 fz0
          have pt := T6.own1.put (j := 0) (x := x) (u := .int .i64 x) hy (by decide) rfl
          simp only [Nat.mul_one, Nat.add_zero, Nat.zero_mul] at pt
          have lb := (T6.own1.blk (k := g) rfl)
          have T7 : TL w (w6.setCell ⟨g, 0, none⟩ (.int .i64 x)) p (some ⟨g, 0, none⟩) k c1 (l1.set 0 x) none 0 0 [] := ⟨pt.1, T6.own2.kept pt.2 (fun k hk e => (by cases hk)), T6.two, grow_own T6.gr pt.2 (fun k e => by injection e with e; omega)⟩
          have hc7 := hc6.grown pt.2 (fun e => by injection e with e; omega)
          clear hcell hfz hy hlit hx pt
          go_wp2
          go_ret
          refine ⟨_, k, c1, _, rfl, by omega, fun z hz => ?_, T7, hc7.mono (by omega)⟩
          rcases List.mem_or_eq_of_mem_set hz with hz | rfl
          · exact HL.out z hz
          · exact xb
      · obtain rfl : k = 0 := by omega
        go_wp2
        go_ret
        exact ⟨A1, 0, c1, l1, rfl, by omega, HL.out, T3, hc3.mono (by omega)⟩
theorem cur_new (w : World) (A : Option Addr) (n c : Nat) : Cur (w.alloc (.cells #[.slice A n c, .int .i64 0, .int .u64 0] 104)) w.heap.size A n c 0 :=
  ⟨0, 0, Blk.at_ w 104 [.slice A n c, .int .i64 0, .int .u64 0] rfl, Nat.le_refl _, by omega, by omega⟩
theorem draw_BestMatch {A : Option Addr} {n c : Nat} {w : World} (hS : Src w A n) :
    Calls Try.prog 42 #[.slice A n c] w fun e w' => ∃ A1 n1 c1 l1 A2 n2 c2 l2 s, e = .returned (.tuple #[.slice A1 n1 c1, .slice A2 n2 c2, .int .i64 s]) ∧ l1.length = n1 ∧ l2.length = n2 ∧ n1 ≤ 7 ∧ n2 ≤ 14 ∧ Owned intE 1 3 w' w.heap.size A1 n1 c1 l1 ∧ Owned intE 1 3 w' w.heap.size A2 n2 c2 l2 ∧ 0 ≤ s ∧ s ≤ 10001 ∧ Below w.heap.size w w' := by
  have b0 : Below w.heap.size w (w.alloc (.cells #[.slice A n c, .int .i64 0, .int .u64 0] 104)) := by (repeat' (first | (with_reducible exact Below.refl _ _) | (with_reducible assumption) | (with_reducible refine below_drewN ?_ _) | (with_reducible refine Below.drew ?_) | (with_reducible refine below_alloc ?_ _) | (with_reducible refine Below.alloc ?_ ?_ _) | (with_reducible refine Below.setCell ?_ ?_ _) | (with_reducible refine below_go ?_ (by with_reducible assumption)) | (with_reducible refine below_then (by with_reducible assumption) ?_ ?_) | go_size))
  have c0 := cur_new w A n c
  go_in
  go_wp2_with fail
  refine (cur_times hS b0 (Nat.le_refl _) c0 (by omega)).mono ?_; rintro e w1 ⟨A1, n1, c1, l1, A2, n2, c2, l2, rfl, h1, h2, T, hc1⟩
  have hB1 := grown_below b0 (Nat.le_refl _) T.gr
  go_wp2_with fail
  refine (cur_skip hS hB1 (Nat.le_refl _) hc1 (by omega)).mono ?_; rintro e w2 ⟨s, rfl, s0, s1, hc2, hg2⟩
  have T2 := T.grown c0.lt hg2
  go_wp2
  refine bodyPost_ret (v := .tuple #[.slice A1 n1 c1, .slice A2 n2 c2, .int .i64 s]) (by simp [results, Try.results42, go_sem]) rfl ?_
  exact ⟨A1, n1, c1, l1, A2, n2, c2, l2, s, rfl, T2.own1.len, T2.own2.len, h1, h2, T2.own1.base_le b0.size, T2.own2.base_le b0.size, s0, s1, grown_below hB1 (Nat.le_refl _) hg2⟩
end Go.Proofs.Ytpccbmndgdiloaa
/- The laws' own conversions of impl.Match: copying, comparing, counting, marking. -/
namespace Go.Proofs.Ytpccbmndgdiloaa
set_option linter.unusedVariables false
set_option linter.unusedSimpArgs false
open Go.ChangeShapes Go.WideShapes Go.ChangeAt Go.RowKit Go.Deep
end Go.Proofs.Ytpccbmndgdiloaa
/- The walks through the draws of matches, of clipped strikes and of a bell's match. -/
namespace Go.Proofs.Ytpccbmndgdiloaa
set_option linter.unusedVariables false
set_option linter.unusedSimpArgs false
open Go.ChangeShapes Go.WideShapes Go.ChangeAt Go.RowKit Go.Deep
theorem best_len (a b : List Int) (s : Int) : (bestOf a b s).length ≤ a.length := by
  rcases h : askedM a b s
  · rw [(best_f h).1]; exact Nat.zero_le _
  · rw [(best_t h).1, bestGo_len]; exact Nat.le_refl _
set_option maxHeartbeats 1000000 in
set_option maxRecDepth 100000 in
theorem cur_match {A : Option Addr} {n c a p : Nat} {w0 w : World} (hS : Src w0 A n) (hb : Below w0.heap.size w0 w) (hp : w0.heap.size ≤ p) (hc : Cur w p A n c a) (ha : a ≤ 900000) :
    Calls Try.prog 134 #[.pointer (some ⟨p, 0, none⟩)] w fun e w' => ∃ (A' : Option Addr) (m c' : Nat) (L : List Int) (x : Int) (N : Nat), e = .returned (.tuple #[.agg #[.slice A' m c', .int .i64 x], .int .i64 (N : Int)]) ∧ m ≤ 1000 ∧ N ≤ 14 ∧ Owned intE 1 3 w' w.heap.size A' m c' L ∧ Cur w' p A n c (a + 20000) ∧ w.grownBy w' (some p) := by
  have hpw := hc.lt
  have G : Hid (∀ u : World, w.grownBy u (some p) → Below w0.heap.size w0 u) := Lib.hid (fun u hg => grown_below hb hp hg)
  have HS := Lib.hid hS
  have R0 := Blk.at_ w 64 [.slice none 0 0, .int .i64 0] (b := w.heap.size) rfl
  have a0 : Below w.heap.size w (w.alloc (.cells #[.slice none 0 0, .int .i64 0] 64)) := by (repeat' (first | (with_reducible exact Below.refl _ _) | (with_reducible assumption) | (with_reducible refine below_drewN ?_ _) | (with_reducible refine Below.drew ?_) | (with_reducible refine below_alloc ?_ _) | (with_reducible refine Below.alloc ?_ ?_ _) | (with_reducible refine Below.setCell ?_ ?_ _) | (with_reducible refine below_go ?_ (by with_reducible assumption)) | (with_reducible refine below_then (by with_reducible assumption) ?_ ?_) | go_size))
  clear hS hb
  go_in
  go_upto_region 1 with fail
  obtain ⟨v0, hv0⟩ : ∃ u, u = w.alloc (.cells #[.slice none 0 0, .int .i64 0] 64) := ⟨_, rfl⟩
  have z0 : w.heap.size < v0.heap.size := by rw [hv0]; simp
  rw [← hv0] at R0 a0 ⊢
  clear hv0
  have hcv := hc.up a0
  have hgv : w.grownBy v0 (some p) := grown_any a0 _
  have hpv : p < v0.heap.size := by omega
  go_wp2_with fail
  refine (cur_times HS.out (G.out _ hgv) hp hcv (by omega)).mono ?_; rintro e w1 ⟨A1, n1, c1, l1, A2, n2, c2, l2, rfl, h7, h14, T1, hc1⟩
  have HO1 := Lib.hid T1.own1
  have HO2 := Lib.hid T1.own2
  have HG1 := Lib.hid (grownBy_trans hgv T1.gr)
  have R1 := R0.grown T1.gr (fun e => by injection e with e; omega)
  have HC1 := Lib.hid hc1
  have s1 := T1.gr.size
  clear T1 hc1 hcv hgv R0 hc a0
  go_wp2_with fail
  refine (spec_BestMatch HO1.out.len HO1.out.recs (by omega) HO2.out.len HO2.out.recs (by omega)).mono ?_; rintro e w2 ⟨A3, c3, rfl, ho3, _, hb3⟩
  have hbl := best_len l1 l2 50
  rw [HO1.out.len] at hbl
  obtain ⟨L3, hL3⟩ : ∃ L3, L3 = bestOf l1 l2 50 := ⟨_, rfl⟩
  obtain ⟨X3, hX3⟩ : ∃ X3, X3 = bestCost l1 l2 50 := ⟨_, rfl⟩
  rw [← hL3] at ho3 hbl
  rw [← hL3, ← hX3]
  obtain ⟨m3, hm3⟩ : ∃ m3, m3 = L3.length := ⟨_, rfl⟩
  rw [← hm3] at ho3 hbl ⊢
  clear hL3 hX3 hm3
  have s2 := hb3.size
  have K2 := Blk.at_ w2 64 [.slice A3 m3 c3, .int .i64 X3] (b := w2.heap.size) rfl
  have a2 : Below w2.heap.size w2 (w2.alloc (.cells #[.slice A3 m3 c3, .int .i64 X3] 64)) := by (repeat' (first | (with_reducible exact Below.refl _ _) | (with_reducible assumption) | (with_reducible refine below_drewN ?_ _) | (with_reducible refine Below.drew ?_) | (with_reducible refine below_alloc ?_ _) | (with_reducible refine Below.alloc ?_ ?_ _) | (with_reducible refine Below.setCell ?_ ?_ _) | (with_reducible refine below_go ?_ (by with_reducible assumption)) | (with_reducible refine below_then (by with_reducible assumption) ?_ ?_) | go_size))
  have hb3' := below_go hb3 a2
  have R3 := R1.up hb3'
  have HO3 := Lib.hid (ho3.up a2)
  have HC3 := Lib.hid (HC1.out.up hb3')
  have HG3 := Lib.hid (grownBy_trans HG1.out (grown_any hb3' (some p)))
  clear ho3 hb3 hb3' HC1 HG1 R1 a2
  go_upto_region 3 with fail
  obtain ⟨v3, hv3⟩ : ∃ u, u = w2.alloc (.cells #[.slice A3 m3 c3, .int .i64 X3] 64) := ⟨_, rfl⟩
  have z3 : w2.heap.size < v3.heap.size := by rw [hv3]; simp
  rw [← hv3] at K2 R3 HO3 HC3 HG3 ⊢
  clear hv3
  go_wp2_with fail
  refine (cur_one HS.out (G.out _ HG3.out) hp HC3.out (by omega) (by decide) (by decide)).mono ?_; rintro e w4 ⟨b, rfl, hc4, hg4⟩
  have K4 := K2.grown hg4 (fun e => by injection e with e; omega)
  have R4 := R3.grown hg4 (fun e => by injection e with e; omega)
  have HO4 := Lib.hid (HO3.out.past hg4 (by omega))
  have HC4 := Lib.hid hc4
  have HG4 := Lib.hid (grownBy_trans HG3.out hg4)
  have s4 := hg4.size
  have nc1 := HO1.out.len
  have nc2 := HO2.out.len
  clear K2 R3 HO3 HC3 HG3 hc4 hg4 HO1 HO2 nc1 nc2
  rcases b
  · have k0 := K4.cell 0; have k1 := K4.cell 1
    have u0 := R4.cell 0; have u1 := R4.cell 1; have f0 := R4.frozen 0; have f1 := R4.frozen 1
    simp only [List.getElem?_cons_zero, List.getElem?_cons_succ] at k0 k1 u0 u1
    have q1 := sets2_grown w4 w.heap.size (.slice A3 m3 c3) (.int .i64 X3)
    have R6 := (R4.set_ 0 (.slice A3 m3 c3)).set_ 1 (.int .i64 X3)
    have e0 := R6.cell 0; have e1 := R6.cell 1
    simp only [List.getElem?_cons_zero, List.getElem?_cons_succ, List.set_cons_zero, List.set_cons_succ] at e0 e1
    have HOF := Lib.hid (HO4.out.past q1 (by omega))
    have HCF := Lib.hid (HC4.out.grown q1 (fun e => by injection e with e; omega))
    have HGF := Lib.hid (grow_own HG4.out q1 (fun k e => by injection e with e; omega))
    clear R6 q1 R4 K4 HO4 HC4 HG4
    go_wp2_with fail
    refine bodyPost_ret (v := .tuple #[.agg #[.slice A3 m3 c3, .int .i64 X3], .int .i64 (n2 : Int)]) (by simp [results, Try.results134, go_sem, e0, e1]) rfl ?_
    exact ⟨A3, m3, c3, L3, X3, n2, rfl, by omega, h14, HOF.out.base_le (by omega), HCF.out.mono (by omega), HGF.out⟩
  · go_wp2_with fail
    refine (cur_way (N := n1) (M := n2) HS.out (G.out _ HG4.out) hp HC4.out (by omega) (by omega) (by omega)).mono ?_; rintro e w5 ⟨A5, n5, c5, l5, rfl, hn5, _, T5, hc5⟩
    have K5 := K4.grown T5.gr (fun e => by injection e with e; omega)
    have R5 := R4.grown T5.gr (fun e => by injection e with e; omega)
    have HO5 := Lib.hid T5.own1
    have HG5 := Lib.hid (grownBy_trans HG4.out T5.gr)
    have s5 := T5.gr.size
    have o0 := K5.cell 0; have o1 := K5.cell 1; have of0 := K5.frozen 0
    simp only [List.getElem?_cons_zero, List.getElem?_cons_succ] at o0 o1
    have qs := only_set w5 (p := ⟨w2.heap.size, 0, none⟩) (.slice A5 n5 c5)
    have K6 := K5.set_ 0 (.slice A5 n5 c5)
    have R6' := R5.grown qs (fun e => by injection e with e; dsimp only at e; omega)
    have HO6 := Lib.hid (HO5.out.past qs (by dsimp only; omega))
    have HC6 := Lib.hid (hc5.grown qs (fun e => by injection e with e; dsimp only at e; omega))
    have HG6 := Lib.hid (grow_own HG5.out qs (fun k e => by injection e with e; dsimp only at e; omega))
    have k0 := K6.cell 0; have k1 := K6.cell 1
    have u0 := R6'.cell 0; have u1 := R6'.cell 1; have f0 := R6'.frozen 0; have f1 := R6'.frozen 1
    simp only [List.getElem?_cons_zero, List.getElem?_cons_succ, List.set_cons_zero, List.set_cons_succ] at k0 k1 u0 u1
    have q1 := sets2_grown (w5.setCell ⟨w2.heap.size, 0, none⟩ (.slice A5 n5 c5)) w.heap.size (.slice A5 n5 c5) (.int .i64 X3)
    have R6 := (R6'.set_ 0 (.slice A5 n5 c5)).set_ 1 (.int .i64 X3)
    have e0 := R6.cell 0; have e1 := R6.cell 1
    simp only [List.getElem?_cons_zero, List.getElem?_cons_succ, List.set_cons_zero, List.set_cons_succ] at e0 e1
    have HOF := Lib.hid (HO6.out.past q1 (by omega))
    have HCF := Lib.hid (HC6.out.grown q1 (fun e => by injection e with e; omega))
    have HGF := Lib.hid (grow_own HG6.out q1 (fun k e => by injection e with e; omega))
    clear R6 q1 R4 K4 HO4 HC4 HG4 K5 R5 HO5 HG5 qs K6 R6' HO6 HC6 HG6 T5 hc5
    go_wp2_with fail
    refine bodyPost_ret (v := .tuple #[.agg #[.slice A5 n5 c5, .int .i64 X3], .int .i64 (n2 : Int)]) (by simp [results, Try.results134, go_sem, e0, e1]) rfl ?_
    exact ⟨A5, n5, c5, l5, X3, n2, rfl, by omega, h14, HOF.out.base_le (by omega), HCF.out.mono (by omega), HGF.out⟩
set_option maxHeartbeats 1000000 in
set_option maxRecDepth 100000 in
theorem draw_MissedIn {A : Option Addr} {n c : Nat} {w : World} (hS : Src w A n) :
    Calls Try.prog 50 #[.slice A n c] w fun e w' => ∃ (A' : Option Addr) (m c' : Nat) (L : List Int) (x : Int), e = .returned (.agg #[.slice A' m c', .int .i64 x]) ∧ L.length = m ∧ m ≤ 1000 ∧ Ints w' A' L ∧ Below w.heap.size w w' := by
  have R0 := Blk.at_ w 64 [.slice none 0 0, .int .i64 0] (b := w.heap.size) rfl
  have a0 : Below w.heap.size w (w.alloc (.cells #[.slice none 0 0, .int .i64 0] 64)) := by (repeat' (first | (with_reducible exact Below.refl _ _) | (with_reducible assumption) | (with_reducible refine below_drewN ?_ _) | (with_reducible refine Below.drew ?_) | (with_reducible refine below_alloc ?_ _) | (with_reducible refine Below.alloc ?_ ?_ _) | (with_reducible refine Below.setCell ?_ ?_ _) | (with_reducible refine below_go ?_ (by with_reducible assumption)) | (with_reducible refine below_then (by with_reducible assumption) ?_ ?_) | go_size))
  go_in
  go_upto_region 1 with fail
  obtain ⟨v0, hv0⟩ : ∃ u, u = w.alloc (.cells #[.slice none 0 0, .int .i64 0] 64) := ⟨_, rfl⟩
  have z0 : w.heap.size < v0.heap.size := by rw [hv0]; simp
  rw [← hv0] at R0 a0 ⊢
  clear hv0
  have hS0 := hS.over a0
  have b1 : Below v0.heap.size v0 (v0.alloc (.cells #[.slice A n c, .int .i64 0, .int .u64 0] 104)) := by (repeat' (first | (with_reducible exact Below.refl _ _) | (with_reducible assumption) | (with_reducible refine below_drewN ?_ _) | (with_reducible refine Below.drew ?_) | (with_reducible refine below_alloc ?_ _) | (with_reducible refine Below.alloc ?_ ?_ _) | (with_reducible refine Below.setCell ?_ ?_ _) | (with_reducible refine below_go ?_ (by with_reducible assumption)) | (with_reducible refine below_then (by with_reducible assumption) ?_ ?_) | go_size))
  have c1 := cur_fresh v0 A n c
  have R1 := R0.up b1
  go_upto_region 2 with fail
  obtain ⟨v1, hv1⟩ : ∃ u, u = v0.alloc (.cells #[.slice A n c, .int .i64 0, .int .u64 0] 104) := ⟨_, rfl⟩
  have z1 : v0.heap.size < v1.heap.size := by rw [hv1]; simp
  rw [← hv1] at R1 b1 c1 ⊢
  clear hv1 R0
  go_wp2_with fail
  refine (cur_match hS0 b1 (Nat.le_refl _) c1 (by omega)).mono ?_; rintro e w2 ⟨A2, m2, c2, L2, x2, N2, rfl, hm2, _, ho2, hc2, hg2⟩
  have K2 := Blk.at_ w2 64 [.slice A2 m2 c2, .int .i64 x2] (b := w2.heap.size) rfl
  have a2 : Below w2.heap.size w2 (w2.alloc (.cells #[.slice A2 m2 c2, .int .i64 x2] 64)) := by (repeat' (first | (with_reducible exact Below.refl _ _) | (with_reducible assumption) | (with_reducible refine below_drewN ?_ _) | (with_reducible refine Below.drew ?_) | (with_reducible refine below_alloc ?_ _) | (with_reducible refine Below.alloc ?_ ?_ _) | (with_reducible refine Below.setCell ?_ ?_ _) | (with_reducible refine below_go ?_ (by with_reducible assumption)) | (with_reducible refine below_then (by with_reducible assumption) ?_ ?_) | go_size))
  have R2 := (R1.grown hg2 (fun e => by injection e with e; omega)).up a2
  have HO2 := Lib.hid (ho2.up a2)
  have HB2 := Lib.hid (below_go a0 (below_go (grown_below b1 (Nat.le_refl _) hg2) a2))
  have s2 := hg2.size
  have hl2 := Lib.hid ho2.len
  clear ho2 hc2 hg2 R1 c1 b1 a2 hS hS0 a0
  go_upto_region 3 with fail
  obtain ⟨v3, hv3⟩ : ∃ u, u = w2.alloc (.cells #[.slice A2 m2 c2, .int .i64 x2] 64) := ⟨_, rfl⟩
  have z3 : w2.heap.size < v3.heap.size := by rw [hv3]; simp
  rw [← hv3] at K2 R2 HO2 HB2 ⊢
  clear hv3
  have k0 := K2.cell 0; have k1 := K2.cell 1
  have u0 := R2.cell 0; have u1 := R2.cell 1; have f0 := R2.frozen 0; have f1 := R2.frozen 1
  simp only [List.getElem?_cons_zero, List.getElem?_cons_succ] at k0 k1 u0 u1
  have q1 := sets2_grown v3 w.heap.size (.slice A2 m2 c2) (.int .i64 x2)
  have R6 := (R2.set_ 0 (.slice A2 m2 c2)).set_ 1 (.int .i64 x2)
  have e0 := R6.cell 0; have e1 := R6.cell 1
  simp only [List.getElem?_cons_zero, List.getElem?_cons_succ, List.set_cons_zero, List.set_cons_succ] at e0 e1
  have HOF := Lib.hid (HO2.out.past q1 (by omega))
  have HBF := Lib.hid (HB2.out.grown q1 (by omega) (fun k e => by injection e with e; omega))
  clear R6 q1 R2 K2 HO2 HB2
  go_wp2_with fail
  refine bodyPost_ret (v := .agg #[.slice A2 m2 c2, .int .i64 x2]) (by simp [results, Try.results50, go_sem, e0, e1]) rfl ?_
  exact ⟨A2, m2, c2, L2, x2, rfl, hl2.out, hm2, HOF.out.recs, HBF.out⟩
set_option maxHeartbeats 1000000 in
set_option maxRecDepth 100000 in
theorem draw_ExtraIn {A : Option Addr} {n c : Nat} {w : World} (hS : Src w A n) :
    Calls Try.prog 52 #[.slice A n c] w fun e w' => ∃ (A' : Option Addr) (m c' : Nat) (L : List Int) (x s : Int), e = .returned (.tuple #[.int .i64 s, .agg #[.slice A' m c', .int .i64 x]]) ∧ L.length = m ∧ m ≤ 1000 ∧ Ints w' A' L ∧ Below w.heap.size w w' := by
  have R0 := Blk.at_ w 64 [.slice none 0 0, .int .i64 0] (b := w.heap.size) rfl
  have a0 : Below w.heap.size w (w.alloc (.cells #[.slice none 0 0, .int .i64 0] 64)) := by (repeat' (first | (with_reducible exact Below.refl _ _) | (with_reducible assumption) | (with_reducible refine below_drewN ?_ _) | (with_reducible refine Below.drew ?_) | (with_reducible refine below_alloc ?_ _) | (with_reducible refine Below.alloc ?_ ?_ _) | (with_reducible refine Below.setCell ?_ ?_ _) | (with_reducible refine below_go ?_ (by with_reducible assumption)) | (with_reducible refine below_then (by with_reducible assumption) ?_ ?_) | go_size))
  go_in
  go_upto_region 1 with fail
  obtain ⟨v0, hv0⟩ : ∃ u, u = w.alloc (.cells #[.slice none 0 0, .int .i64 0] 64) := ⟨_, rfl⟩
  have z0 : w.heap.size < v0.heap.size := by rw [hv0]; simp
  rw [← hv0] at R0 a0 ⊢
  clear hv0
  have hS0 := hS.over a0
  have b1 : Below v0.heap.size v0 (v0.alloc (.cells #[.slice A n c, .int .i64 0, .int .u64 0] 104)) := by (repeat' (first | (with_reducible exact Below.refl _ _) | (with_reducible assumption) | (with_reducible refine below_drewN ?_ _) | (with_reducible refine Below.drew ?_) | (with_reducible refine below_alloc ?_ _) | (with_reducible refine Below.alloc ?_ ?_ _) | (with_reducible refine Below.setCell ?_ ?_ _) | (with_reducible refine below_go ?_ (by with_reducible assumption)) | (with_reducible refine below_then (by with_reducible assumption) ?_ ?_) | go_size))
  have c1 := cur_fresh v0 A n c
  have R1 := R0.up b1
  go_upto_region 2 with fail
  obtain ⟨v1, hv1⟩ : ∃ u, u = v0.alloc (.cells #[.slice A n c, .int .i64 0, .int .u64 0] 104) := ⟨_, rfl⟩
  have z1 : v0.heap.size < v1.heap.size := by rw [hv1]; simp
  rw [← hv1] at R1 b1 c1 ⊢
  clear hv1 R0
  go_wp2_with fail
  refine (cur_match hS0 b1 (Nat.le_refl _) c1 (by omega)).mono ?_; rintro e w2 ⟨A2, m2, c2, L2, x2, N2, rfl, hm2, hN2, ho2, hc2, hg2⟩
  have K2 := Blk.at_ w2 64 [.slice A2 m2 c2, .int .i64 x2] (b := w2.heap.size) rfl
  have a2 : Below w2.heap.size w2 (w2.alloc (.cells #[.slice A2 m2 c2, .int .i64 x2] 64)) := by (repeat' (first | (with_reducible exact Below.refl _ _) | (with_reducible assumption) | (with_reducible refine below_drewN ?_ _) | (with_reducible refine Below.drew ?_) | (with_reducible refine below_alloc ?_ _) | (with_reducible refine Below.alloc ?_ ?_ _) | (with_reducible refine Below.setCell ?_ ?_ _) | (with_reducible refine below_go ?_ (by with_reducible assumption)) | (with_reducible refine below_then (by with_reducible assumption) ?_ ?_) | go_size))
  have R2 := (R1.grown hg2 (fun e => by injection e with e; omega)).up a2
  have HO2 := Lib.hid (ho2.up a2)
  have HC2 := Lib.hid (hc2.up a2)
  have HB2 := Lib.hid (below_go (grown_below b1 (Nat.le_refl _) hg2) a2)
  have s2 := hg2.size
  have hl2 := Lib.hid ho2.len
  have HS0 := Lib.hid hS0
  clear ho2 hc2 hg2 R1 c1 b1 a2 hS hS0
  go_upto_region 3 with fail
  obtain ⟨v3, hv3⟩ : ∃ u, u = w2.alloc (.cells #[.slice A2 m2 c2, .int .i64 x2] 64) := ⟨_, rfl⟩
  have z3 : w2.heap.size < v3.heap.size := by rw [hv3]; simp
  rw [← hv3] at K2 R2 HO2 HC2 HB2 ⊢
  clear hv3
  have k0 := K2.cell 0; have k1 := K2.cell 1
  simp only [List.getElem?_cons_zero, List.getElem?_cons_succ] at k0 k1
  have k0d : v3.drew.cell? ⟨w2.heap.size, 0, none⟩ = some (.slice A2 m2 c2) := k0
  have k1d : v3.drew.cell? ⟨w2.heap.size, 1, none⟩ = some (.int .i64 x2) := k1
  have bd : Below v3.heap.size v3 v3.drew := below_drewN (Below.refl _ _) 1
  have far : Hid (∀ u v4 : World, v3.drew.grownBy u (some v0.heap.size) → u.grownBy v4 (some w.heap.size) → v4.cell? ⟨w2.heap.size, 0, none⟩ = some (.slice A2 m2 c2) ∧ v4.cell? ⟨w2.heap.size, 1, none⟩ = some (.int .i64 x2)) := Lib.hid (fun u v4 h1 h2 => by
    have K := ((K2.up bd).grown h1 (fun e => by injection e with e; omega)).grown h2 (fun e => by injection e with e; omega)
    exact ⟨by simpa using K.cell 0, by simpa using K.cell 1⟩)
  go_region_held3 (fun u => u.cell? ⟨w2.heap.size, 0, none⟩ = some (.slice A2 m2 c2) ∧ u.cell? ⟨w2.heap.size, 1, none⟩ = some (.int .i64 x2)) (first | with_reducible exact ⟨k0d, k1d⟩ | exact far.out _ _ hg4 (sets2_grown _ _ _ _) | exact far.out _ _ hg4 (grown_any (Below.refl _ _) _)) (first | (go_at_call 97; go_must (refine (cur_pick HS0.out (HB2.out.trans (bd.mono (by have := HB2.out.size; omega))) (Nat.le_refl _) (HC2.out.up bd) (by omega) (by decide) (by decide)).mono ?_); rintro e w4 ⟨q, rfl, ⟨q0, q1⟩, hc4, hg4⟩; obtain ⟨Q, rfl⟩ := Int.eq_ofNat_of_zero_le q0; have hQ : Q ≤ 19 := (by omega); have gq : IntKind.i64.wrap ((Q : Int) / 19) = (Q : Int) / 19 := wrap_id (by omega); have gn : IntKind.i64.wrap ((N2 : Int) - (Q : Int) / 19) = (N2 : Int) - (Q : Int) / 19 := wrap_id (by omega); have R4 := (R2.up bd).grown hg4 (fun e => by injection e with e; omega); have u0 := R4.cell 0; have u1 := R4.cell 1; have f0 := R4.frozen 0; have f1 := R4.frozen 1; simp only [List.getElem?_cons_zero, List.getElem?_cons_succ] at u0 u1))
  all_goals
    have q1 := sets2_grown w4 w.heap.size (.slice A2 m2 c2) (.int .i64 x2)
    have R6 := (R4.set_ 0 (.slice A2 m2 c2)).set_ 1 (.int .i64 x2)
    have e0 := R6.cell 0; have e1 := R6.cell 1
    simp only [List.getElem?_cons_zero, List.getElem?_cons_succ, List.set_cons_zero, List.set_cons_succ] at e0 e1
    have HOF := Lib.hid ((((HO2.out.up bd).past hg4 (by omega)).past q1 (by omega)))
    have HBF := Lib.hid ((below_go a0 (grown_below (HB2.out.trans (bd.mono (by have := HB2.out.size; omega))) (Nat.le_refl _) hg4)).grown q1 (by have := hg4.size; simp at this; omega) (fun k e => by injection e with e; omega))
    clear R6 q1 R4 R2 K2 HO2 HB2 far
    go_wp2_with fail
    refine bodyPost_ret (v := .tuple #[.int .i64 ((N2 : Int) - (Q : Int) / 19), .agg #[.slice A2 m2 c2, .int .i64 x2]]) (by simp [results, Try.results52, go_sem, e0, e1]) rfl ?_
    exact ⟨A2, m2, c2, L2, x2, _, rfl, hl2.out, hm2, HOF.out.recs, HBF.out⟩
end Go.Proofs.Ytpccbmndgdiloaa
/- The walks through the draws of clipped strikes and of a bell's match. -/
namespace Go.Proofs.Ytpccbmndgdiloaa
set_option linter.unusedVariables false
set_option linter.unusedSimpArgs false
open Go.ChangeShapes Go.WideShapes Go.ChangeAt Go.RowKit Go.Deep
set_option maxHeartbeats 1000000 in
set_option maxRecDepth 100000 in
theorem draw_ClippedIn {A : Option Addr} {n c : Nat} {w : World} (hS : Src w A n) :
    Calls Try.prog 54 #[.slice A n c] w fun e w' => ∃ (A' : Option Addr) (m c' : Nat) (L : List (Int × Int)) (s : Int), e = .returned (.tuple #[.slice A' m c', .int .i64 s]) ∧ L.length = m ∧ m ≤ 192 ∧ Recs strikeE 2 w' A' L ∧ Below w.heap.size w w' := by
  have b0 : Below w.heap.size w (w.alloc (.cells #[.slice A n c, .int .i64 0, .int .u64 0] 104)) := by (repeat' (first | (with_reducible exact Below.refl _ _) | (with_reducible assumption) | (with_reducible refine below_drewN ?_ _) | (with_reducible refine Below.drew ?_) | (with_reducible refine below_alloc ?_ _) | (with_reducible refine Below.alloc ?_ ?_ _) | (with_reducible refine Below.setCell ?_ ?_ _) | (with_reducible refine below_go ?_ (by with_reducible assumption)) | (with_reducible refine below_then (by with_reducible assumption) ?_ ?_) | go_size))
  have c0 := cur_fresh w A n c
  go_in
  go_wp2_with fail
  obtain ⟨w1, hw1⟩ : ∃ u, u = w.alloc (.cells #[.slice A n c, .int .i64 0, .int .u64 0] 104) := ⟨_, rfl⟩
  rw [← hw1] at b0 c0 ⊢
  clear hw1
  refine (cur_anyStruck hS b0 (Nat.le_refl _) c0 (by omega)).mono ?_; rintro e w2 ⟨A2, m2, c2, L2, rfl, hm2, ho2, hc2, hg2⟩
  have hB2 := grown_below b0 (Nat.le_refl _) hg2
  have hl := lit_ints w2 3 [0, 10, 50, 100, 150, 10001]
  have hlt := hc2.lt
  have hlw := c0.lt
  go_wp2_with fail
  refine (cur_among hS (hB2.alloc hB2.size _) (Nat.le_refl _) (hc2.up ((Below.refl _ _).alloc (Nat.le_refl _) _)) (by omega) rfl hl (by decide) (by decide) (fun b o e => by injection e with e; injection e with e; omega)).mono ?_; rintro e w3 ⟨s, hs, rfl, hc3, hg3⟩
  have g3 := grownBy_trans (World.grownBy_alloc w2 _ (some w.heap.size)) hg3
  clear hs hl
  go_wp2
  go_ret2
  exact ⟨A2, m2, c2, L2, s, rfl, ho2.len, hm2, (ho2.past g3 hlw).recs, grown_below hB2 (Nat.le_refl _) g3⟩
set_option maxHeartbeats 2000000 in
set_option maxRecDepth 100000 in
theorem draw_MatchBell {A : Option Addr} {n c : Nat} {w : World} (hS : Src w A n) :
    Calls Try.prog 57 #[.slice A n c] w fun e w' => ∃ (x y z : Int) (A1 : Option Addr) (n1 c1 : Nat) (L1 : List ByteArray) (A2 : Option Addr) (n2 c2 : Nat) (L2 : List (Int × Int)) (bell s : Int), e = .returned (.tuple #[.agg #[.int .i64 x, .int .i64 y, .int .i64 z], .slice A1 n1 c1, .slice A2 n2 c2, .int .i64 bell, .int .i64 s]) ∧ L1.length = n1 ∧ n1 ≤ 12 ∧ (∀ s ∈ L1, s.size ≤ 16777216) ∧ Strs w' A1 L1 ∧ L2.length = n2 ∧ n2 ≤ 192 ∧ Recs strikeE 2 w' A2 L2 ∧ Below w.heap.size w w' := by
  have R0 := Blk.at_ w 80 [.int .i64 0, .int .i64 0, .int .i64 0] (b := w.heap.size) rfl
  have a0 : Below w.heap.size w (w.alloc (.cells #[.int .i64 0, .int .i64 0, .int .i64 0] 80)) := by (repeat' (first | (with_reducible exact Below.refl _ _) | (with_reducible assumption) | (with_reducible refine below_drewN ?_ _) | (with_reducible refine Below.drew ?_) | (with_reducible refine below_alloc ?_ _) | (with_reducible refine Below.alloc ?_ ?_ _) | (with_reducible refine Below.setCell ?_ ?_ _) | (with_reducible refine below_go ?_ (by with_reducible assumption)) | (with_reducible refine below_then (by with_reducible assumption) ?_ ?_) | go_size))
  go_in
  go_upto_region 1 with fail
  obtain ⟨v0, hv0⟩ : ∃ u, u = w.alloc (.cells #[.int .i64 0, .int .i64 0, .int .i64 0] 80) := ⟨_, rfl⟩
  have z0 : w.heap.size < v0.heap.size := by rw [hv0]; simp
  rw [← hv0] at R0 a0 ⊢
  clear hv0
  have hS0 := Lib.hid (hS.over a0)
  have b1 : Below v0.heap.size v0 (v0.alloc (.cells #[.slice A n c, .int .i64 0, .int .u64 0] 104)) := by (repeat' (first | (with_reducible exact Below.refl _ _) | (with_reducible assumption) | (with_reducible refine below_drewN ?_ _) | (with_reducible refine Below.drew ?_) | (with_reducible refine below_alloc ?_ _) | (with_reducible refine Below.alloc ?_ ?_ _) | (with_reducible refine Below.setCell ?_ ?_ _) | (with_reducible refine below_go ?_ (by with_reducible assumption)) | (with_reducible refine below_then (by with_reducible assumption) ?_ ?_) | go_size))
  have c1 := cur_fresh v0 A n c
  have R1 := R0.up b1
  go_upto_region 2 with fail
  obtain ⟨v1, hv1⟩ : ∃ u, u = v0.alloc (.cells #[.slice A n c, .int .i64 0, .int .u64 0] 104) := ⟨_, rfl⟩
  have z1 : v0.heap.size < v1.heap.size := by rw [hv1]; simp
  rw [← hv1] at R1 b1 c1 ⊢
  clear hv1 R0 hS
  go_wp2_with fail
  refine (cur_beat hS0.out b1 (Nat.le_refl _) c1 (by omega)).mono ?_; rintro e w2 ⟨x, y, z, rfl, hx, hy, hz, hc2, hg2⟩
  have K2 := Blk.at_ w2 80 [.int .i64 x, .int .i64 y, .int .i64 z] (b := w2.heap.size) rfl
  have a2 : Below w2.heap.size w2 (w2.alloc (.cells #[.int .i64 x, .int .i64 y, .int .i64 z] 80)) := by (repeat' (first | (with_reducible exact Below.refl _ _) | (with_reducible assumption) | (with_reducible refine below_drewN ?_ _) | (with_reducible refine Below.drew ?_) | (with_reducible refine below_alloc ?_ _) | (with_reducible refine Below.alloc ?_ ?_ _) | (with_reducible refine Below.setCell ?_ ?_ _) | (with_reducible refine below_go ?_ (by with_reducible assumption)) | (with_reducible refine below_then (by with_reducible assumption) ?_ ?_) | go_size))
  have R2 := (R1.grown hg2 (fun e => by injection e with e; omega)).up a2
  have HC2 := Lib.hid (hc2.up a2)
  have HB2 := Lib.hid (below_go (grown_below b1 (Nat.le_refl _) hg2) a2)
  have s2 := hg2.size
  clear hc2 hg2 R1 c1 b1 a2
  go_upto_region 3 with fail
  obtain ⟨v3, hv3⟩ : ∃ u, u = w2.alloc (.cells #[.int .i64 x, .int .i64 y, .int .i64 z] 80) := ⟨_, rfl⟩
  have z3 : w2.heap.size < v3.heap.size := by rw [hv3]; simp
  rw [← hv3] at K2 R2 HC2 HB2 ⊢
  clear hv3
  go_wp2_with fail
  refine (cur_rungFew hS0.out HB2.out (Nat.le_refl _) HC2.out (by omega)).mono ?_; rintro e w4 ⟨A4, m4, c4, L4, rfl, hm4, hd4, ho4, hc4, hg4⟩
  have K4 := K2.grown hg4 (fun e => by injection e with e; omega)
  have R4 := R2.grown hg4 (fun e => by injection e with e; omega)
  have HD4 := Lib.hid hd4
  have HL4 := Lib.hid ho4.len
  have HO4 := Lib.hid ho4
  have HC4 := Lib.hid hc4
  have HB4 := Lib.hid (grown_below HB2.out (Nat.le_refl _) hg4)
  have s4 := hg4.size
  clear K2 R2 HC2 HB2 hd4 ho4 hc4 hg4
  have k0 := K4.cell 0; have k1 := K4.cell 1; have k2 := K4.cell 2
  simp only [List.getElem?_cons_zero, List.getElem?_cons_succ] at k0 k1 k2
  have kd : w4.drew.cell? ⟨w2.heap.size, 0, none⟩ = some (.int .i64 x) ∧ w4.drew.cell? ⟨w2.heap.size, 1, none⟩ = some (.int .i64 y) ∧ w4.drew.cell? ⟨w2.heap.size, 2, none⟩ = some (.int .i64 z) := ⟨k0, k1, k2⟩
  have bd : Below w4.heap.size w4 w4.drew := below_drewN (Below.refl _ _) 1
  have HBd := Lib.hid (HB4.out.trans (bd.mono (by have := HB4.out.size; omega)))
  have KD : Blk w4.drew w2.heap.size 80 [.int .i64 x, .int .i64 y, .int .i64 z] := K4.up bd
  have RD : Blk w4.drew w.heap.size 80 [.int .i64 0, .int .i64 0, .int .i64 0] := R4.up bd
  have OD := Lib.hid (HO4.out.up bd)
  have CD := Lib.hid (HC4.out.up bd)
  have far : Hid (∀ u v4 : World, w4.drew.grownBy u (some v0.heap.size) → u.grownBy v4 (some w.heap.size) → v4.cell? ⟨w2.heap.size, 0, none⟩ = some (.int .i64 x) ∧ v4.cell? ⟨w2.heap.size, 1, none⟩ = some (.int .i64 y) ∧ v4.cell? ⟨w2.heap.size, 2, none⟩ = some (.int .i64 z)) := Lib.hid (fun u v4 h1 h2 => by
    have K := (KD.grown h1 (fun e => by injection e with e; omega)).grown h2 (fun e => by injection e with e; omega)
    exact ⟨by simpa using K.cell 0, by simpa using K.cell 1, by simpa using K.cell 2⟩)
  have far0 : Hid (∀ u : World, w4.drew.grownBy u (some v0.heap.size) → u.cell? ⟨w2.heap.size, 0, none⟩ = some (.int .i64 x) ∧ u.cell? ⟨w2.heap.size, 1, none⟩ = some (.int .i64 y) ∧ u.cell? ⟨w2.heap.size, 2, none⟩ = some (.int .i64 z)) := Lib.hid (fun u h1 => far.out u u h1 (grown_any (Below.refl _ _) _))
  have hcap := HO4.out.cap
  go_upto_region 4 with fail
  go_region_held3 (fun u => u.cell? ⟨w2.heap.size, 0, none⟩ = some (.int .i64 x) ∧ u.cell? ⟨w2.heap.size, 1, none⟩ = some (.int .i64 y) ∧ u.cell? ⟨w2.heap.size, 2, none⟩ = some (.int .i64 z)) (first | with_reducible exact kd | with_reducible exact f5 | with_reducible exact f6 | with_reducible exact f7 | exact far.out _ _ g7 (sets3_grown _ _ _ _ _)) (first | (go_at_call 128; go_must (refine (cur_skip hS0.out (grown_below HBd.out (Nat.le_refl _) g6) (Nat.le_refl _) hc6 (by omega)).mono ?_); rintro e w7 ⟨s, rfl, hs0, hs1, hc7, hg7⟩; have g7 := grownBy_trans g6 hg7; have f7 := far0.out _ g7; have R7 := RD.grown g7 (fun e => by injection e with e; omega); have u0 := R7.cell 0; have u1 := R7.cell 1; have u2 := R7.cell 2; have h0 := R7.frozen 0; have h1 := R7.frozen 1; have h2 := R7.frozen 2; simp only [List.getElem?_cons_zero, List.getElem?_cons_succ] at u0 u1 u2) | (go_at_call 97; go_must (refine (cur_pick hS0.out (grown_below HBd.out (Nat.le_refl _) hg5) (Nat.le_refl _) hc5 (by omega) (by decide) (by decide)).mono ?_); rintro e w6 ⟨q, rfl, ⟨q0, q1⟩, hc6, hg6⟩; have g6 := grownBy_trans hg5 hg6; have f6 := far0.out _ g6; have gq : IntKind.i64.wrap (1 + q) = 1 + q := wrap_id (by omega)) | (go_at_call 142; go_must (refine (cur_struck hS0.out HBd.out (Nat.le_refl _) CD.out (by omega) hx hy (by omega) HL4.out OD.out.recs hm4 HD4.out).mono ?_); rintro e w5 ⟨A5, m5, c5, L5, rfl, hm5, _, ho5, hc5, hg5⟩; have f5 := far0.out _ hg5))
  all_goals
    have q1' := sets3_grown w7 w.heap.size (.int .i64 x) (.int .i64 y) (.int .i64 z)
    have R8 := ((R7.set_ 0 (.int .i64 x)).set_ 1 (.int .i64 y)).set_ 2 (.int .i64 z)
    have e0 := R8.cell 0; have e1 := R8.cell 1; have e2 := R8.cell 2
    simp only [List.getElem?_cons_zero, List.getElem?_cons_succ, List.set_cons_zero, List.set_cons_succ] at e0 e1 e2
    have sd : w4.heap.size ≤ w4.drew.heap.size := bd.size
    have HO8 := Lib.hid ((OD.out.past g7 (by omega)).past q1' (by omega))
    have HP8 := Lib.hid ((((ho5.past hg6 (by omega)).past hg7 (by omega)).past q1' (by omega)))
    have HBF := Lib.hid ((below_go a0 (grown_below HBd.out (Nat.le_refl _) g7)).grown q1' (by have := g7.size; omega) (fun k e => by injection e with e; omega))
    have hP5 := Lib.hid ho5.len
    clear R8 q1' R7 RD KD R4 K4 far far0 OD CD HC4 HO4 f5 f6 f7 kd
    go_wp2_with fail
    refine bodyPost_ret (v := .tuple #[.agg #[.int .i64 x, .int .i64 y, .int .i64 z], .slice A4 m4 c4, .slice A5 m5 c5, .int .i64 (1 + q), .int .i64 s]) (by simp [results, Try.results57, go_sem, e0, e1, e2]) rfl ?_
    exact ⟨x, y, z, A4, m4, c4, L4, A5, m5, c5, L5, 1 + q, s, rfl, HL4.out, hm4, fun s hs => Nat.le_trans (HD4.out s hs).1 (by decide), HO8.out.recs, hP5.out, hm5, HP8.out.recs, HBF.out⟩
end Go.Proofs.Ytpccbmndgdiloaa
/- Worlds that differ in what is drawn alone; quiet contracts of the walks through costs. -/
namespace Go.Proofs.Ytpccbmndgdiloaa
set_option linter.unusedVariables false
set_option linter.unusedSimpArgs false
open Go.ChangeShapes Go.WideShapes Go.ChangeAt Go.RowKit Go.Deep
def Dr (w w' : World) : Prop := ∃ n, w' = w.drewN n
theorem Dr.refl (w : World) : Dr w w := ⟨0, rfl⟩
theorem Dr.drewN {w w' : World} (h : Dr w w') (n : Nat) : Dr w (w'.drewN n) := by
  obtain ⟨m, rfl⟩ := h
  exact ⟨m + n, by simp only [World.drewN, Nat.add_assoc]⟩
theorem Dr.below {w w' : World} (h : Dr w w') : Below w.heap.size w w' := by
  obtain ⟨m, rfl⟩ := h
  exact below_drewN (Below.refl _ _) _
theorem Dr.trans {w w' w'' : World} (h : Dr w w') (h' : Dr w' w'') : Dr w w'' := by
  obtain ⟨m, rfl⟩ := h'
  exact h.drewN m
theorem quiet_more {P : Program} {f : FuncId} {args : Array Value} {w : World} {n : Nat} {v : Value} (h : Calls P f args (w.drewN n) fun e w' => e = .returned v ∧ Dr (w.drewN n) w') :
    Calls P f args (w.drewN n) fun e w'' => e = .returned v ∧ ∃ m, w'' = w.drewN m :=
  h.mono fun _ _ h => ⟨h.1, ((show Dr w (w.drewN n) from ⟨n, rfl⟩).trans h.2)⟩
end Go.Proofs.Ytpccbmndgdiloaa
/- The walks through the laws' own helpers: two lists of ints, two tables, the size of the input. -/
namespace Go.Proofs.Ytpccbmndgdiloaa
set_option linter.unusedVariables false
set_option linter.unusedSimpArgs false
open Go.ChangeShapes Go.WideShapes Go.ChangeAt Go.RowKit Go.Deep
theorem laws_big (A B : Option Addr) (n m c d : Nat) (w : World) (hn : n ≤ 9223372036854775807) (hm : m ≤ 9223372036854775807) :
    Calls Try.prog 8 #[.slice A n c, .slice B m d] w fun e w' => e = .returned (.bool (!decide (n + m ≤ 1048576))) ∧ w = w' := by
  by_cases h1 : n ≤ 1048576
  · have hI : ¬ (1048576 : Int) < (n : Int) := by omega
    have hW : IntKind.i64.wrap (1048576 - (n : Int)) = 1048576 - (n : Int) := wrap_id (by omega)
    go_in
    go_wp2
    go_ret
    refine ⟨ret_bool ?_, rfl⟩
    by_cases h2 : n + m ≤ 1048576
    · simp [h2]; omega
    · simp [h2]; omega
  · have hI : (1048576 : Int) < (n : Int) := by omega
    go_in
    go_wp2
    go_ret
    refine ⟨ret_bool ?_, rfl⟩
    have h2 : ¬ n + m ≤ 1048576 := by omega
    simp [h2]
set_option maxRecDepth 100000 in
theorem laws_sameInts {A B : Option Addr} {n c d : Nat} {l : List Int} {w : World} (hn : l.length = n) (h : Ints w A l) (g : Ints w B l) (hz : n ≤ 16777216) :
    Calls Try.prog 45 #[.slice A n c, .slice B n d] w fun e w' => e = .returned (.bool true) ∧ Dr w w' := by
  subst hn
  go_in
  go_wp2
  go_loopw [13] (fun i wr => ∃ k : Nat, k ≤ l.length ∧ i = .int .i64 k ∧ Dr w wr) (fun i _ => l.length - (intOf i).toNat)
  case atStart => exact ⟨0, Nat.zero_le _, rfl, Dr.refl _⟩
  case round =>
    obtain ⟨k, hk, rfl, hb⟩ := hrel
    by_cases hlt : k < l.length
    · obtain ⟨b1, o1, x, rfl, _, hx, hcx⟩ := (h.below hb.below (Nat.le_refl _)).at_int hlt
      obtain ⟨b2, o2, y, rfl, _, hy, hcy⟩ := (g.below hb.below (Nat.le_refl _)).at_int hlt
      rw [hx] at hy
      injection hy with hy
      subst hy
      clear hx h g
      go_wp2
      go_quiet (fail)
      go_wp2
      go_roundw
      case rel => exact ⟨k + 1, by omega, by go_num, hb.drewN _⟩
      case measure => simp [intOf]; omega
    · go_wp2
      go_ret
      exact ⟨rfl, hb⟩
end Go.Proofs.Ytpccbmndgdiloaa
/- The best match of one bell, as a plain function. -/
namespace Go.Proofs.Ytpccbmndgdiloaa
set_option linter.unusedVariables false
set_option linter.unusedSimpArgs false
def mbA (x y z : Int) (rows : List ByteArray) (bell : Int) : List Int := ofBellR (idl x y z rows rows.length) bell
def mbOk (x y z : Int) (rows : List ByteArray) (l : List (Int × Int)) (bell : Int) : Bool := idlOk x y z rows && (goodStrikes l && (decide (0 < rows.length) && inB bell 1 (rows.getD 0 ByteArray.empty).size))
def mbAsk (x y z : Int) (rows : List ByteArray) (l : List (Int × Int)) (bell s : Int) : Bool := mbOk x y z rows l bell && askedM (mbA x y z rows bell) (ofBellR l bell) s
def mbOf (x y z : Int) (rows : List ByteArray) (l : List (Int × Int)) (bell s : Int) : List Int := if mbOk x y z rows l bell = true then bestOf (mbA x y z rows bell) (ofBellR l bell) s else []
def mbCost (x y z : Int) (rows : List ByteArray) (l : List (Int × Int)) (bell s : Int) : Int := if mbOk x y z rows l bell = true then bestCost (mbA x y z rows bell) (ofBellR l bell) s else 0
theorem mb_f {x y z : Int} {rows : List ByteArray} {l : List (Int × Int)} {bell s : Int} (h : mbOk x y z rows l bell = false) : mbOf x y z rows l bell s = [] ∧ mbCost x y z rows l bell s = 0 ∧ mbAsk x y z rows l bell s = false := by simp [mbOf, mbCost, mbAsk, h]
theorem mb_t {x y z : Int} {rows : List ByteArray} {l : List (Int × Int)} {bell s : Int} (h : mbOk x y z rows l bell = true) : mbOf x y z rows l bell s = bestOf (mbA x y z rows bell) (ofBellR l bell) s ∧ mbCost x y z rows l bell s = bestCost (mbA x y z rows bell) (ofBellR l bell) s ∧ mbAsk x y z rows l bell s = askedM (mbA x y z rows bell) (ofBellR l bell) s := by simp [mbOf, mbCost, mbAsk, h]
end Go.Proofs.Ytpccbmndgdiloaa
/- The walks through the best match of one bell, both sides. -/
namespace Go.Proofs.Ytpccbmndgdiloaa
set_option linter.unusedVariables false
set_option linter.unusedSimpArgs false
open Go.ChangeShapes Go.WideShapes Go.ChangeAt Go.RowKit Go.Deep
set_option maxHeartbeats 1000000 in
theorem impl_MatchBell {A B : Option Addr} {n m c d : Nat} {x y z bell s : Int} {rows : List ByteArray} {l : List (Int × Int)} {w : World} (hn : rows.length = n) (h : Strs w A rows) (hz : n ≤ 1048576) (hm : l.length = m) (g : Recs strikeE 2 w B l) (hz' : m ≤ 1048576) (hs : ∀ s ∈ rows, s.size ≤ 16777216) :
    Calls Try.prog 58 #[.agg #[.int .i64 x, .int .i64 y, .int .i64 z], .slice A n c, .slice B m d, .int .i64 bell, .int .i64 s] w fun e w' => ∃ A' c', e = .returned (.tuple #[.agg #[.slice A' (mbOf x y z rows l bell s).length c', .int .i64 (mbCost x y z rows l bell s)], .bool (mbAsk x y z rows l bell s)]) ∧ Owned intE 1 3 w' w.heap.size A' (mbOf x y z rows l bell s).length c' (mbOf x y z rows l bell s) ∧ (mbOf x y z rows l bell s).length ≤ 16777216 ∧ Below w.heap.size w w' := by
  subst hn hm
  have E : Hid (mbOk x y z rows l bell = (idlOk x y z rows && (goodStrikes l && (decide (0 < rows.length) && inB bell 1 (rows.getD 0 ByteArray.empty).size)))) := rfl
  have b0 : Below w.heap.size w ((w.alloc (.cells #[.int .i64 x, .int .i64 y, .int .i64 z] 80)).alloc (.cells #[.slice none 0 0, .int .i64 0] 64)) := by (repeat' (first | (with_reducible exact Below.refl _ _) | (with_reducible assumption) | (with_reducible refine below_drewN ?_ _) | (with_reducible refine Below.drew ?_) | (with_reducible refine below_alloc ?_ _) | (with_reducible refine Below.alloc ?_ ?_ _) | (with_reducible refine Below.setCell ?_ ?_ _) | (with_reducible refine below_go ?_ (by with_reducible assumption)) | (with_reducible refine below_then (by with_reducible assumption) ?_ ?_) | go_size))
  have K0 := Blk.at_ (w.alloc (.cells #[.int .i64 x, .int .i64 y, .int .i64 z] 80)) 64 [.slice none 0 0, .int .i64 0] (b := w.heap.size + 1) (by simp)
  rcases h1 : idlOk x y z rows
  · have e0 : mbOk x y z rows l bell = false := by rw [E.out, h1]; rfl
    obtain ⟨e1, e2, e3⟩ := mb_f (s := s) e0
    rw [e1, e2, e3]
    clear e0 e1 e2 e3
    go_in
    go_wp2_with (first | (go_at_call 143; refine (impl_IdealStrikes rfl (h.up b0) (by omega) hs).mono ?_; rintro e w1 ⟨A1, c1, rfl, ho1, hn1, hb1⟩; rw [h1]; have KB := K0.up hb1; have f0 := KB.frozen 0; have f1 := KB.frozen 1; have d0 := KB.cell 0; have d1 := KB.cell 1; simp only [List.getElem?_cons_zero, List.getElem?_cons_succ] at d0 d1; have HK := Lib.hid KB; clear KB K0))
    have Z := (HK.out.set_ 0 (.slice none 0 0)).set_ 1 (.int .i64 0)
    have z0 := Z.cell 0; have z1 := Z.cell 1
    simp only [List.set_cons_zero, List.set_cons_succ, List.getElem?_cons_zero, List.getElem?_cons_succ] at z0 z1
    have hbF := below_go b0 hb1
    refine bodyPost_ret (v := .tuple #[.agg #[.slice none 0 0, .int .i64 0], .bool false]) (by simp [results, Try.results58, go_sem, z0, z1]) rfl ?_
    exact ⟨none, 0, rfl, Owned.nil intE_len _ _ _, by decide, (hbF.setCell (by simp) _).setCell (by simp) _⟩
  rcases h2 : goodStrikes l
  · have e0 : mbOk x y z rows l bell = false := by rw [E.out, h1, h2]; rfl
    obtain ⟨e1, e2, e3⟩ := mb_f (s := s) e0
    rw [e1, e2, e3]
    clear e0 e1 e2 e3
    go_in
    go_wp2_with (first | (go_at_call 143; refine (impl_IdealStrikes rfl (h.up b0) (by omega) hs).mono ?_; rintro e w1 ⟨A1, c1, rfl, ho1, hn1, hb1⟩; rw [h1]; have KB := K0.up hb1; have HK1 := Lib.hid KB; clear KB K0) | (go_at_call 138; refine (impl_GoodStrikes rfl ((g.up b0).up hb1) (by omega)).mono ?_; rintro e w2 ⟨rfl, hb2⟩; rw [h2]; have KB := HK1.out.up hb2; have f0 := KB.frozen 0; have f1 := KB.frozen 1; have d0 := KB.cell 0; have d1 := KB.cell 1; simp only [List.getElem?_cons_zero, List.getElem?_cons_succ] at d0 d1; have HK := Lib.hid KB; clear KB))
    have Z := (HK.out.set_ 0 (.slice none 0 0)).set_ 1 (.int .i64 0)
    have z0 := Z.cell 0; have z1 := Z.cell 1
    simp only [List.set_cons_zero, List.set_cons_succ, List.getElem?_cons_zero, List.getElem?_cons_succ] at z0 z1
    have hbF := below_go (below_go b0 hb1) hb2
    refine bodyPost_ret (v := .tuple #[.agg #[.slice none 0 0, .int .i64 0], .bool false]) (by simp [results, Try.results58, go_sem, z0, z1]) rfl ?_
    exact ⟨none, 0, rfl, Owned.nil intE_len _ _ _, by decide, (hbF.setCell (by simp) _).setCell (by simp) _⟩
  by_cases h3 : ¬ 0 < rows.length
  · have e0 : mbOk x y z rows l bell = false := by rw [E.out, h1, h2, decide_eq_false h3]; rfl
    obtain ⟨e1, e2, e3⟩ := mb_f (s := s) e0
    rw [e1, e2, e3]
    have h30 : ((rows.length : Int) == 0) = true := beq_iff_eq.2 (by omega)
    clear e0 e1 e2 e3
    go_in
    go_wp2_with (first | (go_at_call 143; refine (impl_IdealStrikes rfl (h.up b0) (by omega) hs).mono ?_; rintro e w1 ⟨A1, c1, rfl, ho1, hn1, hb1⟩; rw [h1]; have KB := K0.up hb1; have HK1 := Lib.hid KB; clear KB K0) | (go_at_call 138; refine (impl_GoodStrikes rfl ((g.up b0).up hb1) (by omega)).mono ?_; rintro e w2 ⟨rfl, hb2⟩; rw [h2]; have KB := HK1.out.up hb2; have f0 := KB.frozen 0; have f1 := KB.frozen 1; have d0 := KB.cell 0; have d1 := KB.cell 1; simp only [List.getElem?_cons_zero, List.getElem?_cons_succ] at d0 d1; have HK := Lib.hid KB; clear KB))
    have Z := (HK.out.set_ 0 (.slice none 0 0)).set_ 1 (.int .i64 0)
    have z0 := Z.cell 0; have z1 := Z.cell 1
    simp only [List.set_cons_zero, List.set_cons_succ, List.getElem?_cons_zero, List.getElem?_cons_succ] at z0 z1
    have hbF := below_go (below_go b0 hb1) hb2
    refine bodyPost_ret (v := .tuple #[.agg #[.slice none 0 0, .int .i64 0], .bool false]) (by simp [results, Try.results58, go_sem, z0, z1]) rfl ?_
    exact ⟨none, 0, rfl, Owned.nil intE_len _ _ _, by decide, (hbF.setCell (by simp) _).setCell (by simp) _⟩
  have h3 : 0 < rows.length := by omega
  obtain ⟨b1, o1, r0, rfl, hbb1, hr0, hcr0⟩ := h.at_str (k := 0) h3
  rw [Nat.add_zero] at hcr0
  have hr0z := hs r0 (List.mem_of_getElem? hr0)
  have h30 : ((rows.length : Int) == 0) = false := beq_eq_false_iff_ne.2 (by omega)
  have h3p : (0 : Int) < (rows.length : Int) := by omega
  have ER : Hid ((rows.getD 0 ByteArray.empty).size = r0.size) := Lib.hid (by rw [List.getD, hr0]; rfl)
  rcases h4 : inB bell 1 r0.size
  · have e0 : mbOk x y z rows l bell = false := by rw [E.out, h1, h2, ER.out, h4]; simp
    obtain ⟨e1, e2, e3⟩ := mb_f (s := s) e0
    rw [e1, e2, e3]
    clear e0 e1 e2 e3 hr0
    go_in
    go_wp2_with (first | (go_at_call 143; refine (impl_IdealStrikes rfl (h.up b0) (by omega) hs).mono ?_; rintro e w1 ⟨A1, c1, rfl, ho1, hn1, hb1⟩; rw [h1]; have KB := K0.up hb1; have HK1 := Lib.hid KB; clear KB K0) | (go_at_call 138; refine (impl_GoodStrikes rfl ((g.up b0).up hb1) (by omega)).mono ?_; rintro e w2 ⟨rfl, hb2⟩; rw [h2]; have hcr := ((below_go (below_go b0 hb1) hb2).cell (p := ⟨b1, o1, none⟩) hbb1).trans hcr0; have KB := HK1.out.up hb2; have f0 := KB.frozen 0; have f1 := KB.frozen 1; have d0 := KB.cell 0; have d1 := KB.cell 1; simp only [List.getElem?_cons_zero, List.getElem?_cons_succ] at d0 d1; have HK := Lib.hid KB; clear KB) | (go_at_call 144; refine (impl_isBell _ _ _).mono ?_; rintro e w' ⟨rfl, rfl⟩; rw [h4]))
    have Z := (HK.out.set_ 0 (.slice none 0 0)).set_ 1 (.int .i64 0)
    have z0 := Z.cell 0; have z1 := Z.cell 1
    simp only [List.set_cons_zero, List.set_cons_succ, List.getElem?_cons_zero, List.getElem?_cons_succ] at z0 z1
    have hbF := below_go (below_go b0 hb1) hb2
    refine bodyPost_ret (v := .tuple #[.agg #[.slice none 0 0, .int .i64 0], .bool false]) (by simp [results, Try.results58, go_sem, z0, z1]) rfl ?_
    exact ⟨none, 0, rfl, Owned.nil intE_len _ _ _, by decide, (hbF.setCell (by simp) _).setCell (by simp) _⟩
  · have e0 : mbOk x y z rows l bell = true := by rw [E.out, h1, h2, decide_eq_true h3, ER.out, h4]; rfl
    obtain ⟨e1, e2, e3⟩ := mb_t (s := s) e0
    have EA : mbA x y z rows bell = ofBellR (idlR x y z rows) bell := by rw [idlR_t h1]; rfl
    rw [e1, e2, e3, EA]
    have lB := ofBell_len l bell
    have lA := ofBell_len (idlR x y z rows) bell
    have lI : (idlR x y z rows).length ≤ 6400 := by
      rw [idlR_t h1]
      have h5 : goodBeatB x y z = true ∧ goodRows rows = true ∧ goodStrikes (idl x y z rows rows.length) = true := by simpa [idlOk] using h1
      have := (goodStrikes_t h5.2.2).1
      omega
    clear e0 e1 e2 e3 hr0 EA
    go_in
    go_wp2_with (first | (go_at_call 143; refine (impl_IdealStrikes rfl (h.up b0) (by omega) hs).mono ?_; rintro e w1 ⟨A1, c1, rfl, ho1, hn1, hb1⟩; rw [h1]; have KB := K0.up hb1; have HK1 := Lib.hid KB; clear KB K0) | (go_at_call 138; refine (impl_GoodStrikes rfl ((g.up b0).up hb1) (by omega)).mono ?_; rintro e w2 ⟨rfl, hb2⟩; rw [h2]; have hcr := ((below_go (below_go b0 hb1) hb2).cell (p := ⟨b1, o1, none⟩) hbb1).trans hcr0) | (go_at_call 144; refine (impl_isBell _ _ _).mono ?_; rintro e w' ⟨rfl, rfl⟩; rw [h4]))
    refine (impl_ofBell rfl (ho1.up hb2).recs (by omega)).mono ?_; rintro e w3 ⟨A3, c3, rfl, ho3, hb3⟩
    go_wp2_with fail
    refine (impl_ofBell rfl ((((g.up b0).up hb1).up hb2).up hb3) (by omega)).mono ?_; rintro e w4 ⟨A4, c4, rfl, ho4, hb4⟩
    go_wp2_with fail
    refine (impl_BestMatch rfl (ho3.up hb4).recs (by omega) rfl ho4.recs (by omega)).mono ?_; rintro e w5 ⟨A5, c5, rfl, ho5, hn5, hb5⟩
    have KB := ((HK1.out.up hb2).up hb3).up hb4 |>.up hb5
    have f0 := KB.frozen 0; have f1 := KB.frozen 1; have d0 := KB.cell 0; have d1 := KB.cell 1
    simp only [List.getElem?_cons_zero, List.getElem?_cons_succ] at d0 d1
    have HK := Lib.hid KB
    have HO := Lib.hid ho5
    have hbF := below_go (below_go (below_go (below_go (below_go b0 hb1) hb2) hb3) hb4) hb5
    have hbF4 := below_go (below_go (below_go (below_go b0 hb1) hb2) hb3) hb4
    have sz1 := hb1.size
    have sz2 := hb2.size; have sz3 := hb3.size; have sz4 := hb4.size
    simp only [World.size_alloc] at sz1
    clear KB ho5
    go_wp2
    have Z := (HK.out.set_ 0 (.slice A5 (bestOf (ofBellR (idlR x y z rows) bell) (ofBellR l bell) s).length c5)).set_ 1 (.int .i64 (bestCost (ofBellR (idlR x y z rows) bell) (ofBellR l bell) s))
    have z0 := Z.cell 0; have z1 := Z.cell 1
    simp only [List.set_cons_zero, List.set_cons_succ, List.getElem?_cons_zero, List.getElem?_cons_succ] at z0 z1
    refine bodyPost_ret (v := .tuple #[.agg #[.slice A5 (bestOf (ofBellR (idlR x y z rows) bell) (ofBellR l bell) s).length c5, .int .i64 (bestCost (ofBellR (idlR x y z rows) bell) (ofBellR l bell) s)], .bool (askedM (ofBellR (idlR x y z rows) bell) (ofBellR l bell) s)]) (by simp [results, Try.results58, go_sem, z0, z1]) rfl ?_
    have k1 := HO.out.kept (only_set w5 (p := ⟨w.heap.size + 1, 0, none⟩) (.slice A5 (bestOf (ofBellR (idlR x y z rows) bell) (ofBellR l bell) s).length c5)) (fun k hk e => by have := (HO.out.blk hk).1; simp at e; omega)
    have k2 := k1.kept (only_set _ (p := ⟨w.heap.size + 1, 1, none⟩) (.int .i64 (bestCost (ofBellR (idlR x y z rows) bell) (ofBellR l bell) s))) (fun k hk e => by have := (HO.out.blk hk).1; simp at e; omega)
    exact ⟨A5, c5, rfl, k2.base_le hbF4.size, hn5, (hbF.setCell (by simp) _).setCell (by simp) _⟩
set_option maxHeartbeats 1000000 in
theorem spec_MatchBell {A B : Option Addr} {n m c d : Nat} {x y z bell s : Int} {rows : List ByteArray} {l : List (Int × Int)} {w : World} (hn : rows.length = n) (h : Strs w A rows) (hz : n ≤ 1048576) (hm : l.length = m) (g : Recs strikeE 2 w B l) (hz' : m ≤ 1048576) (hs : ∀ s ∈ rows, s.size ≤ 16777216) :
    Calls Try.prog 59 #[.agg #[.int .i64 x, .int .i64 y, .int .i64 z], .slice A n c, .slice B m d, .int .i64 bell, .int .i64 s] w fun e w' => ∃ A' c', e = .returned (.tuple #[.agg #[.slice A' (mbOf x y z rows l bell s).length c', .int .i64 (mbCost x y z rows l bell s)], .bool (mbAsk x y z rows l bell s)]) ∧ Owned intE 1 3 w' w.heap.size A' (mbOf x y z rows l bell s).length c' (mbOf x y z rows l bell s) ∧ (mbOf x y z rows l bell s).length ≤ 16777216 ∧ Below w.heap.size w w' := by
  subst hn hm
  have E : Hid (mbOk x y z rows l bell = (idlOk x y z rows && (goodStrikes l && (decide (0 < rows.length) && inB bell 1 (rows.getD 0 ByteArray.empty).size)))) := rfl
  have b0 : Below w.heap.size w ((w.alloc (.cells #[.int .i64 x, .int .i64 y, .int .i64 z] 80)).alloc (.cells #[.slice none 0 0, .int .i64 0] 64)) := by (repeat' (first | (with_reducible exact Below.refl _ _) | (with_reducible assumption) | (with_reducible refine below_drewN ?_ _) | (with_reducible refine Below.drew ?_) | (with_reducible refine below_alloc ?_ _) | (with_reducible refine Below.alloc ?_ ?_ _) | (with_reducible refine Below.setCell ?_ ?_ _) | (with_reducible refine below_go ?_ (by with_reducible assumption)) | (with_reducible refine below_then (by with_reducible assumption) ?_ ?_) | go_size))
  have K0 := Blk.at_ (w.alloc (.cells #[.int .i64 x, .int .i64 y, .int .i64 z] 80)) 64 [.slice none 0 0, .int .i64 0] (b := w.heap.size + 1) (by simp)
  rcases h1 : idlOk x y z rows
  · have e0 : mbOk x y z rows l bell = false := by rw [E.out, h1]; rfl
    obtain ⟨e1, e2, e3⟩ := mb_f (s := s) e0
    rw [e1, e2, e3]
    clear e0 e1 e2 e3
    go_in
    go_wp2_with (first | (go_at_call 146; refine (spec_IdealStrikes rfl (h.up b0) (by omega) hs).mono ?_; rintro e w1 ⟨A1, c1, rfl, ho1, hn1, hb1⟩; rw [h1]; have KB := K0.up hb1; have f0 := KB.frozen 0; have f1 := KB.frozen 1; have d0 := KB.cell 0; have d1 := KB.cell 1; simp only [List.getElem?_cons_zero, List.getElem?_cons_succ] at d0 d1; have HK := Lib.hid KB; clear KB K0))
    have Z := (HK.out.set_ 0 (.slice none 0 0)).set_ 1 (.int .i64 0)
    have z0 := Z.cell 0; have z1 := Z.cell 1
    simp only [List.set_cons_zero, List.set_cons_succ, List.getElem?_cons_zero, List.getElem?_cons_succ] at z0 z1
    have hbF := below_go b0 hb1
    refine bodyPost_ret (v := .tuple #[.agg #[.slice none 0 0, .int .i64 0], .bool false]) (by simp [results, Try.results59, go_sem, z0, z1]) rfl ?_
    exact ⟨none, 0, rfl, Owned.nil intE_len _ _ _, by decide, (hbF.setCell (by simp) _).setCell (by simp) _⟩
  rcases h2 : goodStrikes l
  · have e0 : mbOk x y z rows l bell = false := by rw [E.out, h1, h2]; rfl
    obtain ⟨e1, e2, e3⟩ := mb_f (s := s) e0
    rw [e1, e2, e3]
    clear e0 e1 e2 e3
    go_in
    go_wp2_with (first | (go_at_call 146; refine (spec_IdealStrikes rfl (h.up b0) (by omega) hs).mono ?_; rintro e w1 ⟨A1, c1, rfl, ho1, hn1, hb1⟩; rw [h1]; have KB := K0.up hb1; have HK1 := Lib.hid KB; clear KB K0) | (go_at_call 139; refine (spec_l21Good rfl ((g.up b0).up hb1) (by omega)).mono ?_; rintro e w2 ⟨rfl, hb2⟩; rw [h2]; have KB := HK1.out.up hb2; have f0 := KB.frozen 0; have f1 := KB.frozen 1; have d0 := KB.cell 0; have d1 := KB.cell 1; simp only [List.getElem?_cons_zero, List.getElem?_cons_succ] at d0 d1; have HK := Lib.hid KB; clear KB))
    have Z := (HK.out.set_ 0 (.slice none 0 0)).set_ 1 (.int .i64 0)
    have z0 := Z.cell 0; have z1 := Z.cell 1
    simp only [List.set_cons_zero, List.set_cons_succ, List.getElem?_cons_zero, List.getElem?_cons_succ] at z0 z1
    have hbF := below_go (below_go b0 hb1) hb2
    refine bodyPost_ret (v := .tuple #[.agg #[.slice none 0 0, .int .i64 0], .bool false]) (by simp [results, Try.results59, go_sem, z0, z1]) rfl ?_
    exact ⟨none, 0, rfl, Owned.nil intE_len _ _ _, by decide, (hbF.setCell (by simp) _).setCell (by simp) _⟩
  by_cases h3 : ¬ 0 < rows.length
  · have e0 : mbOk x y z rows l bell = false := by rw [E.out, h1, h2, decide_eq_false h3]; rfl
    obtain ⟨e1, e2, e3⟩ := mb_f (s := s) e0
    rw [e1, e2, e3]
    have h30 : ((rows.length : Int) == 0) = true := beq_iff_eq.2 (by omega)
    clear e0 e1 e2 e3
    go_in
    go_wp2_with (first | (go_at_call 146; refine (spec_IdealStrikes rfl (h.up b0) (by omega) hs).mono ?_; rintro e w1 ⟨A1, c1, rfl, ho1, hn1, hb1⟩; rw [h1]; have KB := K0.up hb1; have HK1 := Lib.hid KB; clear KB K0) | (go_at_call 139; refine (spec_l21Good rfl ((g.up b0).up hb1) (by omega)).mono ?_; rintro e w2 ⟨rfl, hb2⟩; rw [h2]; have KB := HK1.out.up hb2; have f0 := KB.frozen 0; have f1 := KB.frozen 1; have d0 := KB.cell 0; have d1 := KB.cell 1; simp only [List.getElem?_cons_zero, List.getElem?_cons_succ] at d0 d1; have HK := Lib.hid KB; clear KB))
    have Z := (HK.out.set_ 0 (.slice none 0 0)).set_ 1 (.int .i64 0)
    have z0 := Z.cell 0; have z1 := Z.cell 1
    simp only [List.set_cons_zero, List.set_cons_succ, List.getElem?_cons_zero, List.getElem?_cons_succ] at z0 z1
    have hbF := below_go (below_go b0 hb1) hb2
    refine bodyPost_ret (v := .tuple #[.agg #[.slice none 0 0, .int .i64 0], .bool false]) (by simp [results, Try.results59, go_sem, z0, z1]) rfl ?_
    exact ⟨none, 0, rfl, Owned.nil intE_len _ _ _, by decide, (hbF.setCell (by simp) _).setCell (by simp) _⟩
  have h3 : 0 < rows.length := by omega
  obtain ⟨b1, o1, r0, rfl, hbb1, hr0, hcr0⟩ := h.at_str (k := 0) h3
  rw [Nat.add_zero] at hcr0
  have hr0z := hs r0 (List.mem_of_getElem? hr0)
  have h30 : ((rows.length : Int) == 0) = false := beq_eq_false_iff_ne.2 (by omega)
  have h3p : (0 : Int) < (rows.length : Int) := by omega
  have ER : Hid ((rows.getD 0 ByteArray.empty).size = r0.size) := Lib.hid (by rw [List.getD, hr0]; rfl)
  rcases h4 : inB bell 1 r0.size
  · have e0 : mbOk x y z rows l bell = false := by rw [E.out, h1, h2, ER.out, h4]; simp
    obtain ⟨e1, e2, e3⟩ := mb_f (s := s) e0
    rw [e1, e2, e3]
    clear e0 e1 e2 e3 hr0
    go_in
    go_wp2_with (first | (go_at_call 146; refine (spec_IdealStrikes rfl (h.up b0) (by omega) hs).mono ?_; rintro e w1 ⟨A1, c1, rfl, ho1, hn1, hb1⟩; rw [h1]; have KB := K0.up hb1; have HK1 := Lib.hid KB; clear KB K0) | (go_at_call 139; refine (spec_l21Good rfl ((g.up b0).up hb1) (by omega)).mono ?_; rintro e w2 ⟨rfl, hb2⟩; rw [h2]; have hcr := ((below_go (below_go b0 hb1) hb2).cell (p := ⟨b1, o1, none⟩) hbb1).trans hcr0; have KB := HK1.out.up hb2; have f0 := KB.frozen 0; have f1 := KB.frozen 1; have d0 := KB.cell 0; have d1 := KB.cell 1; simp only [List.getElem?_cons_zero, List.getElem?_cons_succ] at d0 d1; have HK := Lib.hid KB; clear KB) | (go_at_call 104; refine (spec_l1In _ _ _ _).mono ?_; rintro e w' ⟨rfl, rfl⟩; rw [h4]))
    have Z := (HK.out.set_ 0 (.slice none 0 0)).set_ 1 (.int .i64 0)
    have z0 := Z.cell 0; have z1 := Z.cell 1
    simp only [List.set_cons_zero, List.set_cons_succ, List.getElem?_cons_zero, List.getElem?_cons_succ] at z0 z1
    have hbF := below_go (below_go b0 hb1) hb2
    refine bodyPost_ret (v := .tuple #[.agg #[.slice none 0 0, .int .i64 0], .bool false]) (by simp [results, Try.results59, go_sem, z0, z1]) rfl ?_
    exact ⟨none, 0, rfl, Owned.nil intE_len _ _ _, by decide, (hbF.setCell (by simp) _).setCell (by simp) _⟩
  · have e0 : mbOk x y z rows l bell = true := by rw [E.out, h1, h2, decide_eq_true h3, ER.out, h4]; rfl
    obtain ⟨e1, e2, e3⟩ := mb_t (s := s) e0
    have EA : mbA x y z rows bell = ofBellR (idlR x y z rows) bell := by rw [idlR_t h1]; rfl
    rw [e1, e2, e3, EA]
    have lB := ofBell_len l bell
    have lA := ofBell_len (idlR x y z rows) bell
    have lI : (idlR x y z rows).length ≤ 6400 := by
      rw [idlR_t h1]
      have h5 : goodBeatB x y z = true ∧ goodRows rows = true ∧ goodStrikes (idl x y z rows rows.length) = true := by simpa [idlOk] using h1
      have := (goodStrikes_t h5.2.2).1
      omega
    clear e0 e1 e2 e3 hr0 EA
    go_in
    go_wp2_with (first | (go_at_call 146; refine (spec_IdealStrikes rfl (h.up b0) (by omega) hs).mono ?_; rintro e w1 ⟨A1, c1, rfl, ho1, hn1, hb1⟩; rw [h1]; have KB := K0.up hb1; have HK1 := Lib.hid KB; clear KB K0) | (go_at_call 139; refine (spec_l21Good rfl ((g.up b0).up hb1) (by omega)).mono ?_; rintro e w2 ⟨rfl, hb2⟩; rw [h2]; have hcr := ((below_go (below_go b0 hb1) hb2).cell (p := ⟨b1, o1, none⟩) hbb1).trans hcr0) | (go_at_call 104; refine (spec_l1In _ _ _ _).mono ?_; rintro e w' ⟨rfl, rfl⟩; rw [h4]))
    refine (spec_l21Of rfl (ho1.up hb2).recs (by omega)).mono ?_; rintro e w3 ⟨A3, c3, rfl, ho3, hb3⟩
    go_wp2_with fail
    refine (spec_l21Of rfl ((((g.up b0).up hb1).up hb2).up hb3) (by omega)).mono ?_; rintro e w4 ⟨A4, c4, rfl, ho4, hb4⟩
    go_wp2_with fail
    refine (spec_BestMatch rfl (ho3.up hb4).recs (by omega) rfl ho4.recs (by omega)).mono ?_; rintro e w5 ⟨A5, c5, rfl, ho5, hn5, hb5⟩
    have KB := ((HK1.out.up hb2).up hb3).up hb4 |>.up hb5
    have f0 := KB.frozen 0; have f1 := KB.frozen 1; have d0 := KB.cell 0; have d1 := KB.cell 1
    simp only [List.getElem?_cons_zero, List.getElem?_cons_succ] at d0 d1
    have HK := Lib.hid KB
    have HO := Lib.hid ho5
    have hbF := below_go (below_go (below_go (below_go (below_go b0 hb1) hb2) hb3) hb4) hb5
    have hbF4 := below_go (below_go (below_go (below_go b0 hb1) hb2) hb3) hb4
    have sz1 := hb1.size
    have sz2 := hb2.size; have sz3 := hb3.size; have sz4 := hb4.size
    simp only [World.size_alloc] at sz1
    clear KB ho5
    go_wp2
    have Z := (HK.out.set_ 0 (.slice A5 (bestOf (ofBellR (idlR x y z rows) bell) (ofBellR l bell) s).length c5)).set_ 1 (.int .i64 (bestCost (ofBellR (idlR x y z rows) bell) (ofBellR l bell) s))
    have z0 := Z.cell 0; have z1 := Z.cell 1
    simp only [List.set_cons_zero, List.set_cons_succ, List.getElem?_cons_zero, List.getElem?_cons_succ] at z0 z1
    refine bodyPost_ret (v := .tuple #[.agg #[.slice A5 (bestOf (ofBellR (idlR x y z rows) bell) (ofBellR l bell) s).length c5, .int .i64 (bestCost (ofBellR (idlR x y z rows) bell) (ofBellR l bell) s)], .bool (askedM (ofBellR (idlR x y z rows) bell) (ofBellR l bell) s)]) (by simp [results, Try.results59, go_sem, z0, z1]) rfl ?_
    have k1 := HO.out.kept (only_set w5 (p := ⟨w.heap.size + 1, 0, none⟩) (.slice A5 (bestOf (ofBellR (idlR x y z rows) bell) (ofBellR l bell) s).length c5)) (fun k hk e => by have := (HO.out.blk hk).1; simp at e; omega)
    have k2 := k1.kept (only_set _ (p := ⟨w.heap.size + 1, 1, none⟩) (.int .i64 (bestCost (ofBellR (idlR x y z rows) bell) (ofBellR l bell) s))) (fun k hk e => by have := (HO.out.blk hk).1; simp at e; omega)
    exact ⟨A5, c5, rfl, k2.base_le hbF4.size, hn5, (hbF.setCell (by simp) _).setCell (by simp) _⟩
end Go.Proofs.Ytpccbmndgdiloaa
/- The walks through what is missed and what is extra, both sides. -/
namespace Go.Proofs.Ytpccbmndgdiloaa
set_option linter.unusedVariables false
set_option linter.unusedSimpArgs false
open Go.ChangeShapes Go.WideShapes Go.ChangeAt Go.RowKit Go.Deep

theorem spec_l22Of {A : Option Addr} {n c : Nat} {l : List Int} {x m : Int} {w : World} (hn : l.length = n) (h : Ints w A l) (hz : n ≤ 16777216) :
    Calls Try.prog 135 #[.agg #[.slice A n c, .int .i64 x], .int .i64 m] w fun e w' => e = .returned (.bool (ofOk l m)) ∧ Below w.heap.size w w' := by
  subst hn
  have E : Hid (ofOk l m = (decide (l.length ≤ 60) && allIn l (-1) m)) := rfl
  have b0 : Below w.heap.size w (w.alloc (.cells #[.slice A l.length c, .int .i64 x] 64)) := by (repeat' (first | (with_reducible exact Below.refl _ _) | (with_reducible assumption) | (with_reducible refine below_drewN ?_ _) | (with_reducible refine Below.drew ?_) | (with_reducible refine below_alloc ?_ _) | (with_reducible refine Below.alloc ?_ ?_ _) | (with_reducible refine Below.setCell ?_ ?_ _) | (with_reducible refine below_go ?_ (by with_reducible assumption)) | (with_reducible refine below_then (by with_reducible assumption) ?_ ?_) | go_size))
  by_cases h1 : l.length ≤ 60
  · go_in
    go_wp2_with (first | (go_at_call 196; refine (spec_l1All _ _ _ _ _ _ (h.up b0) (by omega)).mono ?_; rintro e w' ⟨rfl, rfl⟩))
    go_ret
    exact ⟨ret_bool (by rw [E.out, decide_eq_true h1]; simp), b0⟩
  · go_in
    go_wp2
    go_ret
    exact ⟨ret_bool (by rw [E.out, decide_eq_false h1]; simp), b0⟩
set_option maxRecDepth 100000 in
theorem spec_MissedIn {A : Option Addr} {n c : Nat} {l : List Int} {x : Int} {w : World} (hn : l.length = n) (h : Ints w A l) (hz : n ≤ 16777216) :
    Calls Try.prog 51 #[.agg #[.slice A n c, .int .i64 x]] w fun e w' => ∃ A' c', e = .returned (.tuple #[.slice A' (missR l).length c', .bool (ofOk l 60)]) ∧
      Owned intE 1 3 w' w.heap.size A' (missR l).length c' (missR l) ∧ (missR l).length ≤ 16777216 ∧ Below w.heap.size w w' := by
  have b0 : Below w.heap.size w (w.alloc (.cells #[.slice A n c, .int .i64 x] 64)) := by (repeat' (first | (with_reducible exact Below.refl _ _) | (with_reducible assumption) | (with_reducible refine below_drewN ?_ _) | (with_reducible refine Below.drew ?_) | (with_reducible refine below_alloc ?_ _) | (with_reducible refine Below.alloc ?_ ?_ _) | (with_reducible refine Below.setCell ?_ ?_ _) | (with_reducible refine below_go ?_ (by with_reducible assumption)) | (with_reducible refine below_then (by with_reducible assumption) ?_ ?_) | go_size))
  rcases h1 : ofOk l 60
  · rw [missR_f h1]
    go_in
    go_wp2_with (first | (go_at_call 135; refine (spec_l22Of hn (h.up b0) hz).mono ?_; rintro e w1 ⟨rfl, hb1⟩))
    go_ret2
    exact ⟨none, 0, rfl, Owned.nil intE_len _ _ _, by decide, below_go b0 hb1⟩
  · have h60 := ofOk_len h1
    have hR := Lib.hid (missR_t h1)
    have hpl := pick_len (isMiss l) l.length
    rw [← hR.out] at hpl
    subst hn
    go_in
    go_wp2_with (first | (go_at_call 135; refine (spec_l22Of rfl (h.up b0) hz).mono ?_; rintro e w1 ⟨rfl, hb1⟩; have BX := (Box.new w [.slice A l.length c, .int .i64 x] 64).up hb1; have cx := BX 0 _ rfl; clear BX))
    go_loopw [4, 13] (fun v i wr => ∃ (k : Nat) (A' : Option Addr) (m c' : Nat), k ≤ l.length ∧ i = .int .i64 k ∧ v = .slice A' m c' ∧ Owned intE 1 3 wr w.heap.size A' m c' (pick (isMiss l) k) ∧ Below w.heap.size w wr) (fun _ i _ => l.length - (intOf i).toNat)
    case atStart => exact ⟨0, _, _, _, Nat.zero_le _, rfl, rfl, Owned.nil intE_len _ _ _, below_go b0 hb1⟩
    case round =>
      obtain ⟨k, A', m, c', hk, rfl, rfl, ho, hb⟩ := hrel
      have hml : m ≤ k := by
        have := pick_len (isMiss l) k
        rw [ho.len] at this
        omega
      by_cases hlt : k < l.length
      · obtain ⟨b3, o3, y, rfl, hbb, hy, hc⟩ := (h.below hb (Nat.le_refl _)).at_int hlt
        have M := Lib.hid (isMiss_eq hy)
        have HO := Lib.hid ho
        have hsz := hb.size
        clear h hy ho
        rcases hy1 : (y == -1)
        · have hy2 : isMiss l k = false := M.out.trans hy1
          have HY := Lib.hid hy2
          clear hy2
          go_wp2
          go_roundw
          case rel => exact ⟨k + 1, A', m, c', by omega, by go_num, rfl, by rw [pick_miss HY.out]; exact HO.out, by (repeat' (first | (with_reducible exact Below.refl _ _) | (with_reducible assumption) | (with_reducible refine below_drewN ?_ _) | (with_reducible refine Below.drew ?_) | (with_reducible refine below_alloc ?_ _) | (with_reducible refine Below.alloc ?_ ?_ _) | (with_reducible refine Below.setCell ?_ ?_ _) | (with_reducible refine below_go ?_ (by with_reducible assumption)) | (with_reducible refine below_then (by with_reducible assumption) ?_ ?_) | go_size))⟩
          case measure => simp [intOf]; omega
        · have hy2 : isMiss l k = true := M.out.trans hy1
          have HY := Lib.hid hy2
          clear hy2
          go_wp2_with (first | (at_builtin; go_must ((refine wpList_append_rec Try.elInt rfl (.tmp 20) (.tmp 22) rfl rfl (HO.out.alloc _) (k : Int) rfl (Box.at_ _ [.int .i64 (k : Int)] _ ?_) (intE_one _) ?_ (by decide) ?_ ?_; (focus (first | omega | (simp only [World.size_alloc]; done) | (simp only [World.size_alloc]; omega) | (simp; done) | (simp; omega))); (focus (first | omega | (simp only [World.size_alloc]; done) | (simp only [World.size_alloc]; omega) | (simp; done) | (simp; omega))); (focus (first | omega | (simp only [World.size_alloc]; done) | (simp only [World.size_alloc]; omega) | (simp; done) | (simp; omega))); intro A2 c2 w2 ho2 hg2 hb2))))
          go_roundw
          case rel =>
            refine ⟨k + 1, A2, m + 1, c2, by omega, by go_num, by go_num, ?_, (hb.alloc hsz _).trans hb2⟩
            rw [pick_hit HY.out]; exact ho2
          case measure => simp [intOf]; omega
      · obtain rfl : k = l.length := by omega
        rw [← hR.out] at ho
        obtain rfl := ho.len
        go_wp2
        go_ret2
        exact ⟨_, _, rfl, ho, by omega, hb⟩
set_option maxRecDepth 100000 in
theorem impl_MissedIn {A : Option Addr} {n c : Nat} {l : List Int} {x : Int} {w : World} (hn : l.length = n) (h : Ints w A l) (hz : n ≤ 16777216) :
    Calls Try.prog 48 #[.agg #[.slice A n c, .int .i64 x]] w fun e w' => ∃ A' c', e = .returned (.tuple #[.slice A' (missR l).length c', .bool (ofOk l 60)]) ∧
      Owned intE 1 3 w' w.heap.size A' (missR l).length c' (missR l) ∧ (missR l).length ≤ 16777216 ∧ Below w.heap.size w w' := by
  have E : Hid (ofOk l 60 = (decide (l.length ≤ 60) && allIn l (-1) 60)) := rfl
  have b0 : Below w.heap.size w (w.alloc (.cells #[.slice A n c, .int .i64 x] 64)) := by (repeat' (first | (with_reducible exact Below.refl _ _) | (with_reducible assumption) | (with_reducible refine below_drewN ?_ _) | (with_reducible refine Below.drew ?_) | (with_reducible refine below_alloc ?_ _) | (with_reducible refine Below.alloc ?_ ?_ _) | (with_reducible refine Below.setCell ?_ ?_ _) | (with_reducible refine below_go ?_ (by with_reducible assumption)) | (with_reducible refine below_then (by with_reducible assumption) ?_ ?_) | go_size))
  by_cases h60 : l.length ≤ 60
  · have hpl := pick_len (isMiss l) l.length
    have B0 := Lib.hid b0
    clear b0
    subst hn
    go_in
    go_wp2
    go_loopw [4, 15] (fun v i wr => ∃ (k : Nat) (A' : Option Addr) (m c' : Nat), k ≤ l.length ∧ i = .int .i64 k ∧ v = .slice A' m c' ∧ Hid (∀ j, j < k → ∃ x, l[j]? = some x ∧ inB x (-1) 60 = true) ∧ Owned intE 1 3 wr w.heap.size A' m c' (pick (isMiss l) k) ∧ Below w.heap.size w wr) (fun _ i _ => l.length - (intOf i).toNat)
    case atStart => exact ⟨0, _, _, _, Nat.zero_le _, rfl, rfl, Lib.hid (fun j hj => absurd hj (by omega)), (by have q := Owned.empty (base := w.heap.size) intE_len 3 (w.alloc (.cells #[.slice A l.length c, .int .i64 x] 64)) (by simp); rw [World.size_alloc] at q; exact q), by (repeat' (first | (with_reducible exact Below.refl _ _) | (with_reducible assumption) | (with_reducible refine below_drewN ?_ _) | (with_reducible refine Below.drew ?_) | (with_reducible refine below_alloc ?_ _) | (with_reducible refine Below.alloc ?_ ?_ _) | (with_reducible refine Below.setCell ?_ ?_ _) | (with_reducible refine below_go ?_ (by with_reducible assumption)) | (with_reducible refine below_then (by with_reducible assumption) ?_ ?_) | go_size))⟩
    case round =>
      obtain ⟨k, A', m, c', hk, rfl, rfl, HK, ho, hb⟩ := hrel
      have hml : m ≤ k := by
        have := pick_len (isMiss l) k
        rw [ho.len] at this
        omega
      by_cases hlt : k < l.length
      · obtain ⟨b3, o3, y, rfl, hbb, hy, hc⟩ := (h.below hb (Nat.le_refl _)).at_int hlt
        have M := Lib.hid (isMiss_eq hy)
        have HY := Lib.hid hy
        have HO := Lib.hid ho
        have hsz := hb.size
        clear h hy ho
        rcases hin : inB y (-1) 60
        · have e0 := Lib.hid (show ofOk l 60 = false by rw [E.out, allIn_bad HY.out hin]; simp)
          go_wp2_with (go_at_call 100; refine (impl_within _ _ _ _).mono ?_; rintro e w' ⟨rfl, rfl⟩)
          go_ret2
          rw [missR_f e0.out, e0.out]
          exact ⟨none, 0, rfl, Owned.nil intE_len _ _ _, by decide, hb⟩
        rcases hy1 : (y == -1)
        · have M1 := Lib.hid (M.out.trans hy1)
          go_wp2_with (go_at_call 100; refine (impl_within _ _ _ _).mono ?_; rintro e w' ⟨rfl, rfl⟩)
          go_roundw
          case rel => exact ⟨k + 1, A', m, c', by omega, by go_num, rfl, Lib.hid (upto_succ HK.out ⟨y, HY.out, hin⟩), by rw [pick_miss M1.out]; exact HO.out, by (repeat' (first | (with_reducible exact Below.refl _ _) | (with_reducible assumption) | (with_reducible refine below_drewN ?_ _) | (with_reducible refine Below.drew ?_) | (with_reducible refine below_alloc ?_ _) | (with_reducible refine Below.alloc ?_ ?_ _) | (with_reducible refine Below.setCell ?_ ?_ _) | (with_reducible refine below_go ?_ (by with_reducible assumption)) | (with_reducible refine below_then (by with_reducible assumption) ?_ ?_) | go_size))⟩
          case measure => simp [intOf]; omega
        · have M1 := Lib.hid (M.out.trans hy1)
          go_wp2_with (first | (go_at_call 100; refine (impl_within _ _ _ _).mono ?_; rintro e w' ⟨rfl, rfl⟩) | (at_builtin; go_must ((refine wpList_append_rec Try.elInt rfl (.tmp 25) (.tmp 27) rfl rfl (HO.out.alloc _) (k : Int) rfl (Box.at_ _ [.int .i64 (k : Int)] _ ?_) (intE_one _) ?_ (by decide) ?_ ?_; (focus (first | omega | (simp only [World.size_alloc]; done) | (simp only [World.size_alloc]; omega) | (simp; done) | (simp; omega))); (focus (first | omega | (simp only [World.size_alloc]; done) | (simp only [World.size_alloc]; omega) | (simp; done) | (simp; omega))); (focus (first | omega | (simp only [World.size_alloc]; done) | (simp only [World.size_alloc]; omega) | (simp; done) | (simp; omega))); intro A2 c2 w2 ho2 hg2 hb2))))
          go_roundw
          case rel =>
            refine ⟨k + 1, A2, m + 1, c2, by omega, by go_num, by go_num, Lib.hid (upto_succ HK.out ⟨y, HY.out, hin⟩), ?_, (hb.alloc hsz _).trans hb2⟩
            rw [pick_hit M1.out]; exact ho2
          case measure => simp [intOf]; omega
      · obtain rfl : k = l.length := by omega
        have e0 := Lib.hid (show ofOk l 60 = true by rw [E.out, allIn_good (fun j hj => HK.out j hj)]; simp [h60])
        rw [← missR_t e0.out] at ho hpl
        obtain rfl := ho.len
        go_wp2
        go_ret2
        rw [e0.out]
        exact ⟨_, _, rfl, ho, by omega, hb⟩
  · have e0 : ofOk l 60 = false := by rw [E.out, decide_eq_false h60]; rfl
    rw [missR_f e0, e0]
    subst hn
    clear e0
    go_in
    go_wp2
    go_ret2
    exact ⟨none, 0, rfl, Owned.nil intE_len _ _ _, by decide, b0⟩
set_option maxRecDepth 100000 in
theorem spec_l1Has {A : Option Addr} {n c : Nat} {l : List Int} {x : Int} {w : World} (hn : l.length = n) (h : Ints w A l) (hz : n ≤ 16777216) :
    Calls Try.prog 136 #[.slice A n c, .int .i64 x] w fun e w' => e = .returned (.bool (l.any fun y => y == x)) ∧ w = w' := by
  subst hn
  go_in
  go_wp2
  go_loop [9] (fun i => ∃ k : Nat, k ≤ l.length ∧ i = .int .i64 k ∧ Hid ((l.take k).any (fun y => y == x) = false)) (fun i => l.length - (intOf i).toNat)
  case atStart => exact ⟨0, Nat.zero_le _, rfl, Lib.hid (by simp)⟩
  case round =>
    obtain ⟨k, hk, rfl, HK⟩ := hrel
    by_cases hlt : k < l.length
    · obtain ⟨b3, o3, y, rfl, hbb, hy, hc⟩ := h.at_int hlt
      have HY := Lib.hid hy
      clear h hy
      rcases hyx : (y == x)
      · go_wp2
        go_round
        case rel => exact ⟨k + 1, by omega, by go_num, Lib.hid (by rw [take_succ_some HY.out, List.any_append, HK.out]; simp; simpa using hyx)⟩
        case measure => simp [intOf]; omega
      · go_wp2
        go_ret
        refine ⟨ret_bool ?_, rfl⟩
        symm
        rw [List.any_eq_true]
        exact ⟨y, List.mem_of_getElem? HY.out, hyx⟩
    · go_wp2
      go_ret
      refine ⟨ret_bool ?_, rfl⟩
      have := HK.out
      rw [List.take_of_length_le (by omega)] at this
      exact this.symm
set_option maxRecDepth 100000 in
theorem spec_ExtraIn {A : Option Addr} {n c : Nat} {l : List Int} {s x : Int} {w : World} (hn : l.length = n) (h : Ints w A l) (hz : n ≤ 16777216) :
    Calls Try.prog 53 #[.int .i64 s, .agg #[.slice A n c, .int .i64 x]] w fun e w' => ∃ A' c', e = .returned (.tuple #[.slice A' (extraR s l).length c', .bool (extraOk s l)]) ∧
      Owned intE 1 3 w' w.heap.size A' (extraR s l).length c' (extraR s l) ∧ (extraR s l).length ≤ 16777216 ∧ Below w.heap.size w w' := by
  have E : Hid (extraOk s l = (inB s 0 60 && ofOk l (s - 1))) := rfl
  have b0 : Below w.heap.size w (w.alloc (.cells #[.slice A n c, .int .i64 x] 64)) := by (repeat' (first | (with_reducible exact Below.refl _ _) | (with_reducible assumption) | (with_reducible refine below_drewN ?_ _) | (with_reducible refine Below.drew ?_) | (with_reducible refine below_alloc ?_ _) | (with_reducible refine Below.alloc ?_ ?_ _) | (with_reducible refine Below.setCell ?_ ?_ _) | (with_reducible refine below_go ?_ (by with_reducible assumption)) | (with_reducible refine below_then (by with_reducible assumption) ?_ ?_) | go_size))
  rcases h1 : inB s 0 60
  · have e0 : extraOk s l = false := by rw [E.out, h1]; rfl
    rw [extraR_f e0, e0]
    clear e0
    go_in
    go_wp2_with (first | (go_at_call 104; refine (spec_l1In _ _ _ _).mono ?_; rintro e w' ⟨rfl, rfl⟩))
    go_ret2
    exact ⟨none, 0, rfl, Owned.nil intE_len _ _ _, by decide, b0⟩
  have hs := inB_t h1
  rcases h2 : ofOk l (s - 1)
  · have e0 : extraOk s l = false := by rw [E.out, h1, h2]; rfl
    rw [extraR_f e0, e0]
    clear e0
    go_in
    go_wp2_with (first | (go_at_call 104; refine (spec_l1In _ _ _ _).mono ?_; rintro e w' ⟨rfl, rfl⟩) | (go_at_call 135; refine (spec_l22Of hn (h.up b0) hz).mono ?_; rintro e w1 ⟨rfl, hb1⟩))
    go_ret2
    exact ⟨none, 0, rfl, Owned.nil intE_len _ _ _, by decide, below_go b0 hb1⟩
  · have e0 : extraOk s l = true := by rw [E.out, h1, h2]; rfl
    obtain ⟨N, rfl⟩ := Int.eq_ofNat_of_zero_le hs.1
    have hR := Lib.hid (extraR_t e0)
    have hpl := pick_len (notIn l) (N : Int).toNat
    rw [← hR.out, Int.toNat_natCast] at hpl
    rw [e0]
    subst hn
    clear e0
    go_in
    go_wp2_with (first | (go_at_call 104; refine (spec_l1In _ _ _ _).mono ?_; rintro e w' ⟨rfl, rfl⟩) | (go_at_call 135; refine (spec_l22Of rfl (h.up b0) hz).mono ?_; rintro e w1 ⟨rfl, hb1⟩; have BX := (Box.new w [.slice A l.length c, .int .i64 x] 64).up hb1; have cx := BX 0 _ rfl; clear BX))
    have bsz := hb1.size
    have cb := World.block_lt_of_cell? w1 _ cx
    go_loopw [6, 7] (fun v i wr => ∃ (k : Nat) (A' : Option Addr) (m c' : Nat), k ≤ N ∧ i = .int .i64 k ∧ v = .slice A' m c' ∧ Owned intE 1 3 wr (w.heap.size + 1) A' m c' (pick (notIn l) k) ∧ Below (w.heap.size + 1) w1 wr) (fun _ i _ => N - (intOf i).toNat)
    case atStart => exact ⟨0, _, _, _, Nat.zero_le _, rfl, rfl, Owned.nil intE_len _ _ _, Below.refl _ _⟩
    case round =>
      obtain ⟨k, A', m, c', hk, rfl, rfl, ho, hb⟩ := hrel
      have hml : m ≤ k := by
        have := pick_len (notIn l) k
        rw [ho.len] at this
        omega
      have hsz := hb.size
      simp only [World.size_alloc] at bsz
      by_cases hlt : k < N
      · have cr : wr.cell? ⟨w.heap.size, 0, none⟩ = some (.slice A l.length c) := (hb.cell (p := ⟨w.heap.size, 0, none⟩) (by simp)).trans cx
        have hRec : Ints wr A l := h.below ((b0.trans (hb1.mono (by simp))).trans (hb.mono (by omega))) (Nat.le_refl _)
        have HO := Lib.hid ho
        clear ho
        rcases hy1 : notIn l k
        · have hy2 : (l.any fun y => y == (k : Int)) = true := by simpa [notIn] using hy1
          go_wp2_with (go_at_call 136; refine (spec_l1Has rfl hRec hz).mono ?_; rintro e w' ⟨rfl, rfl⟩)
          go_roundw
          case rel => exact ⟨k + 1, A', m, c', by omega, by go_num, rfl, by rw [pick_miss hy1]; exact HO.out, hb⟩
          case measure => simp [intOf]; omega
        · have hy2 : (l.any fun y => y == (k : Int)) = false := by simpa [notIn] using hy1
          go_wp2_with (first | (go_at_call 136; refine (spec_l1Has rfl hRec hz).mono ?_; rintro e w' ⟨rfl, rfl⟩) | (at_builtin; go_must ((refine wpList_append_rec Try.elInt rfl (.tmp 28) (.tmp 30) rfl rfl (HO.out.alloc _) (k : Int) rfl (Box.at_ _ [.int .i64 (k : Int)] _ ?_) (intE_one _) ?_ (by decide) ?_ ?_; (focus (first | omega | (simp only [World.size_alloc]; done) | (simp only [World.size_alloc]; omega) | (simp; done) | (simp; omega))); (focus (first | omega | (simp only [World.size_alloc]; done) | (simp only [World.size_alloc]; omega) | (simp; done) | (simp; omega))); (focus (first | omega | (simp only [World.size_alloc]; done) | (simp only [World.size_alloc]; omega) | (simp; done) | (simp; omega))); intro A2 c2 w2 ho2 hg2 hb2))))
          go_roundw
          case rel =>
            refine ⟨k + 1, A2, m + 1, c2, by omega, by go_num, by go_num, ?_, (hb.alloc (by omega) _).trans hb2⟩
            rw [pick_hit hy1]; exact ho2
          case measure => simp [intOf]; omega
      · obtain rfl : k = N := by omega
        rw [Int.toNat_natCast] at hR
        rw [← hR.out] at ho
        obtain rfl := ho.len
        go_wp2
        go_ret2
        exact ⟨_, _, rfl, ho.base_le (by omega), by omega, (b0.trans (hb1.mono (by simp))).trans (hb.mono (by omega))⟩
set_option maxRecDepth 100000 in
theorem impl_ExtraIn {A : Option Addr} {n c : Nat} {l : List Int} {s x : Int} {w : World} (hn : l.length = n) (h : Ints w A l) (hz : n ≤ 16777216) :
    Calls Try.prog 49 #[.int .i64 s, .agg #[.slice A n c, .int .i64 x]] w fun e w' => ∃ A' c', e = .returned (.tuple #[.slice A' (extraR s l).length c', .bool (extraOk s l)]) ∧
      Owned intE 1 3 w' w.heap.size A' (extraR s l).length c' (extraR s l) ∧ (extraR s l).length ≤ 16777216 ∧ Below w.heap.size w w' := by
  have E : Hid (extraOk s l = (inB s 0 60 && (decide (l.length ≤ 60) && allIn l (-1) (s - 1)))) := rfl
  have b0 : Below w.heap.size w (w.alloc (.cells #[.slice A n c, .int .i64 x] 64)) := by (repeat' (first | (with_reducible exact Below.refl _ _) | (with_reducible assumption) | (with_reducible refine below_drewN ?_ _) | (with_reducible refine Below.drew ?_) | (with_reducible refine below_alloc ?_ _) | (with_reducible refine Below.alloc ?_ ?_ _) | (with_reducible refine Below.setCell ?_ ?_ _) | (with_reducible refine below_go ?_ (by with_reducible assumption)) | (with_reducible refine below_then (by with_reducible assumption) ?_ ?_) | go_size))
  rcases h1 : inB s 0 60
  · have e0 : extraOk s l = false := by rw [E.out, h1]; rfl
    rw [extraR_f e0, e0]
    clear e0
    go_in
    go_wp2_with (first | (go_at_call 100; refine (impl_within _ _ _ _).mono ?_; rintro e w' ⟨rfl, rfl⟩))
    go_ret2
    exact ⟨none, 0, rfl, Owned.nil intE_len _ _ _, by decide, b0⟩
  have hs := inB_t h1
  subst hn
  by_cases h60 : l.length ≤ 60
  · obtain ⟨N, rfl⟩ := Int.eq_ofNat_of_zero_le hs.1
    have hmk := run_make_rec (e := boolE) Try.elBool false rfl N (by omega) (by decide)
    have hb0 := Lib.hid b0
    have H := Lib.hid h
    clear b0 h
    go_in
    go_wp2_with (first | (go_at_call 100; refine (impl_within _ _ _ _).mono ?_; rintro e w' ⟨rfl, rfl⟩))
    clear hmk
    go_loopw [26] (fun i wr => ∃ (k : Nat) (bl : List Bool), k ≤ l.length ∧ i = .int .i64 k ∧ Hid (∀ j, j < k → ∃ x, l[j]? = some x ∧ inB x (-1) ((N : Int) - 1) = true) ∧ Hid (∀ j, j < N → bl[j]? = some ((l.take k).any fun y => y == (j : Int))) ∧
      Owned boolE 1 4 wr (w.heap.size + 1) (some ⟨w.heap.size + 1, 0, none⟩) N N bl ∧ Below (w.heap.size + 1) (w.alloc (.cells #[.slice A l.length c, .int .i64 x] 64)) wr) (fun i _ => l.length - (intOf i).toNat)
    case atStart =>
      refine ⟨0, List.replicate N false, Nat.zero_le _, rfl, Lib.hid (fun j hj => absurd hj (by omega)), Lib.hid (fun j hj => by simp [hj]), ?_, (Below.refl _ _).alloc (by simp) _⟩
      · have q := Owned.made (e := boolE) (s := 1) (base := w.heap.size + 1) boolE_len (w.alloc (.cells #[.slice A l.length c, .int .i64 x] 64)) 4 false N (by omega) (by simp)
        rw [Nat.mul_one, World.size_alloc] at q
        exact q
    case round =>
      obtain ⟨k, bl, hk, rfl, HK, HB, ho, hb⟩ := hrel
      have hsz := hb.size
      simp only [World.size_alloc] at hsz
      by_cases hlt : k < l.length
      · obtain ⟨b3, o3, y, rfl, hbb, hy, hc⟩ := (H.out.below (hb0.out.trans (hb.mono (by omega))) (Nat.le_refl _)).at_int hlt
        have HY := Lib.hid hy
        have HO := Lib.hid ho
        clear hy ho
        rcases hin : inB y (-1) ((N : Int) - 1)
        · have e0 := Lib.hid (show extraOk (N : Int) l = false by rw [E.out, allIn_bad HY.out hin]; simp)
          go_wp2_with (go_at_call 100; refine (impl_within _ _ _ _).mono ?_; rintro e w' ⟨rfl, rfl⟩)
          go_ret2
          rw [extraR_f e0.out, e0.out]
          exact ⟨none, 0, rfl, Owned.nil intE_len _ _ _, by decide, hb0.out.trans (hb.mono (by omega))⟩
        have hyb := inB_t hin
        by_cases hy0 : 0 ≤ y
        · obtain ⟨j, rfl⟩ := Int.eq_ofNat_of_zero_le hy0
          have hj : j < N := by omega
          obtain ⟨v, hv⟩ := some_of_lt (l := bl) (k := j) (by rw [HO.out.len]; exact hj)
          obtain ⟨g', eg, _, _, hcell, hfz⟩ := HO.out.at_ (by omega)
          injection eg with eg
          injection eg with eg
          subst eg
          have old0 := hcell j v 0 _ hv rfl
          have fz0 := hfz (j * 1 + 0)
          simp only [Nat.mul_one, Nat.add_zero] at old0 fz0
          have HV := Lib.hid hv
          clear hcell hfz hv
          go_wp2_with (go_at_call 100; refine (impl_within _ _ _ _).mono ?_; rintro e w' ⟨rfl, rfl⟩)
          go_roundw
          case rel =>
            have p0 := (HO.out.put (j := 0) (x := true) (u := .bool true) HV.out (by decide) rfl).1
            simp only [Nat.mul_one, Nat.add_zero] at p0
            refine ⟨k + 1, bl.set j true, by omega, by go_num, Lib.hid (upto_succ HK.out ⟨_, HY.out, hin⟩), Lib.hid (fun q hq => ?_), p0, hb.setCell (by simp) _⟩
            rw [take_succ_some HY.out, List.any_append]
            by_cases e : q = j
            · subst e
              rw [List.getElem?_set_self (by rw [HO.out.len]; exact hj)]
              simp
            · rw [List.getElem?_set_ne (fun e1 => e e1.symm), HB.out q hq]
              have : ((j : Int) == (q : Int)) = false := by simp; omega
              simp [this]
          case measure => simp [intOf]; omega
        · go_wp2_with (go_at_call 100; refine (impl_within _ _ _ _).mono ?_; rintro e w' ⟨rfl, rfl⟩)
          go_roundw
          case rel =>
            refine ⟨k + 1, bl, by omega, by go_num, Lib.hid (upto_succ HK.out ⟨_, HY.out, hin⟩), Lib.hid (fun q hq => ?_), HO.out, hb⟩
            rw [take_succ_some HY.out, List.any_append, HB.out q hq]
            have : (y == (q : Int)) = false := by simp; omega
            simp [this]
          case measure => simp [intOf]; omega
      · have e0 := Lib.hid (show extraOk (N : Int) l = true by rw [E.out, h1, decide_eq_true h60, allIn_good (fun j hj => HK.out j (by omega))]; rfl)
        have hR := Lib.hid (extraR_t e0.out)
        have HB2 : Hid (∀ j, j < N → bl[j]? = some (!notIn l j)) := Lib.hid fun j hj => by
          rw [HB.out j hj, List.take_of_length_le (by omega)]; simp [notIn]
        have HO := Lib.hid ho
        have HBW := Lib.hid hb
        have sz1 := (ho.at_own).2
        obtain ⟨wo, hwo⟩ : ∃ wo, wo = wr := ⟨_, rfl⟩
        rw [← hwo] at HO HBW sz1 hsz ⊢
        clear ho hb hwo HB HK
        go_wp2
        go_loopw [9, 44] (fun v i wr => ∃ (q : Nat) (A' : Option Addr) (m c' : Nat), q ≤ N ∧ i = .int .i64 q ∧ v = .slice A' m c' ∧ Owned intE 1 3 wr wo.heap.size A' m c' (pick (notIn l) q) ∧ Below wo.heap.size wo wr) (fun _ i _ => N - (intOf i).toNat)
        case atStart => exact ⟨0, _, _, _, Nat.zero_le _, rfl, rfl, Owned.empty intE_len _ _ (Nat.le_refl _), by (repeat' (first | (with_reducible exact Below.refl _ _) | (with_reducible assumption) | (with_reducible refine below_drewN ?_ _) | (with_reducible refine Below.drew ?_) | (with_reducible refine below_alloc ?_ _) | (with_reducible refine Below.alloc ?_ ?_ _) | (with_reducible refine Below.setCell ?_ ?_ _) | (with_reducible refine below_go ?_ (by with_reducible assumption)) | (with_reducible refine below_then (by with_reducible assumption) ?_ ?_) | go_size))⟩
        case round =>
          obtain ⟨q, A', m, c', hq, rfl, rfl, ho, hb⟩ := hrel
          have hml : m ≤ q := by
            have := pick_len (notIn l) q
            rw [ho.len] at this
            omega
          have hsz2 := hb.size
          by_cases hlt : q < N
          · have hv := HB2.out q hlt
            obtain ⟨b5, o5, v', e5, hbb5, hv', hc5⟩ := (HO.out.recs.up hb).at_bool (k := q) (by rw [HO.out.len]; exact hlt)
            injection e5 with e5
            injection e5 with e5 e6
            subst e5 e6
            rw [hv] at hv'
            injection hv' with hv'
            subst hv'
            rw [Nat.zero_add] at hc5
            have HOO := Lib.hid ho
            clear hv ho
            rcases hy1 : notIn l q
            · rw [hy1] at hc5
              go_wp2
              go_roundw
              case rel => exact ⟨q + 1, A', m, c', by omega, by go_num, rfl, by rw [pick_miss hy1]; exact HOO.out, hb⟩
              case measure => simp [intOf]; omega
            · rw [hy1] at hc5
              go_wp2_with (first | (at_builtin; go_must ((refine wpList_append_rec Try.elInt rfl (.tmp 51) (.tmp 53) rfl rfl (HOO.out.alloc _) (q : Int) rfl (Box.at_ _ [.int .i64 (q : Int)] _ ?_) (intE_one _) ?_ (by decide) ?_ ?_; (focus (first | omega | (simp only [World.size_alloc]; done) | (simp only [World.size_alloc]; omega) | (simp; done) | (simp; omega))); (focus (first | omega | (simp only [World.size_alloc]; done) | (simp only [World.size_alloc]; omega) | (simp; done) | (simp; omega))); (focus (first | omega | (simp only [World.size_alloc]; done) | (simp only [World.size_alloc]; omega) | (simp; done) | (simp; omega))); intro A2 c2 w2 ho2 hg2 hb2))))
              go_roundw
              case rel =>
                refine ⟨q + 1, A2, m + 1, c2, by omega, by go_num, by go_num, ?_, (hb.alloc hsz2 _).trans hb2⟩
                rw [pick_hit hy1]; exact ho2
              case measure => simp [intOf]; omega
          · obtain rfl : q = N := by omega
            have hpl := pick_len (notIn l) q
            rw [Int.toNat_natCast] at hR
            rw [← hR.out] at ho hpl
            obtain rfl := ho.len
            go_wp2
            go_ret2
            rw [e0.out]
            exact ⟨_, _, rfl, ho.base_le (by omega), by omega, hb0.out.trans ((HBW.out.mono (by omega)).trans (hb.mono (by omega)))⟩
  · have e0 : extraOk s l = false := by rw [E.out, decide_eq_false h60]; simp
    rw [extraR_f e0, e0]
    clear e0
    go_in
    go_wp2_with (first | (go_at_call 100; refine (impl_within _ _ _ _).mono ?_; rintro e w' ⟨rfl, rfl⟩))
    go_ret2
    exact ⟨none, 0, rfl, Owned.nil intE_len _ _ _, by decide, b0⟩
end Go.Proofs.Ytpccbmndgdiloaa
/- Every blow is matched or missed and every strike matched or extra; a list matched with itself costs nothing. -/
namespace Go.Proofs.Ytpccbmndgdiloaa
set_option linter.unusedVariables false
set_option linter.unusedSimpArgs false
theorem wayGo_inc : ∀ {of : List Int} {m last : Int}, wayGo m last of = true → -1 ≤ last → (of.filter fun x => decide (x ≠ -1)).Pairwise (· < ·) ∧ ∀ x ∈ of.filter (fun x => decide (x ≠ -1)), last < x ∧ x < m
  | [], _, _, _, _ => ⟨List.Pairwise.nil, fun x hx => by cases hx⟩
  | k :: r, m, last, h, hl => by
    by_cases h1 : k = -1
    · rw [wayGo_skip h1] at h
      rw [List.filter_cons_of_neg (by simpa using h1)]
      exact wayGo_inc h hl
    · by_cases h2 : k ≤ last ∨ m ≤ k
      · rw [wayGo_bad h1 h2] at h; cases h
      · rw [wayGo_go h1 h2] at h
        have q := wayGo_inc h (by omega)
        rw [List.filter_cons_of_pos (by simpa using h1)]
        refine ⟨List.pairwise_cons.2 ⟨fun x hx => (q.2 x hx).1, q.1⟩, fun x hx => ?_⟩
        rcases List.mem_cons.1 hx with rfl | hx
        · omega
        · have := q.2 x hx; omega
theorem filt_range {l : List Int} (p : Int → Bool) : ((List.range l.length).filter fun k => p (l.getD k 0)).length = (l.filter p).length := by
  have e : l = (List.range l.length).map fun k => l.getD k 0 := marks_eq (fun j hj => by rw [List.getD_eq_getElem?_getD, List.getElem?_eq_getElem hj]; rfl) rfl
  conv => rhs; rw [e, List.filter_map, List.length_map]
  rfl
theorem split_len {α : Type} (l : List α) (p q : α → Bool) (h : ∀ x ∈ l, q x = !p x) : (l.filter p).length + (l.filter q).length = l.length := by
  induction l with
  | nil => rfl
  | cons x r ih =>
    have i := ih fun y hy => h y (List.mem_cons_of_mem _ hy)
    have hx := h x (List.mem_cons_self ..)
    rcases e : p x
    · rw [e] at hx
      rw [List.filter_cons_of_neg (by rw [e]; simp), List.filter_cons_of_pos (by rw [hx]; rfl), List.length_cons, List.length_cons]; omega
    · rw [e] at hx
      rw [List.filter_cons_of_pos (by rw [e]), List.filter_cons_of_neg (by rw [hx]; simp), List.length_cons, List.length_cons]; omega
theorem matched_all {a b : List Int} {s : Int} (h : askedM a b s = true) :
    ofOk (bestOf a b s) 60 = true ∧ extraOk b.length (bestOf a b s) = true ∧ (missR (bestOf a b s)).length ≤ a.length ∧ (extraR b.length (bestOf a b s)).length ≤ b.length ∧ a.length - (missR (bestOf a b s)).length = b.length - (extraR b.length (bestOf a b s)).length := by
  have hw := (best_way h).1
  obtain ⟨⟨ha, _⟩, ⟨hb, _⟩, _⟩ := askedM_t h
  generalize bestOf a b s = of at hw ⊢
  obtain ⟨h1, h2⟩ := wayB_t hw
  have hin : ∀ hi : Int, (b.length : Int) - 1 ≤ hi → -1 ≤ hi → allIn of (-1) hi = true := fun hi q q0 => by
    rw [allIn, List.all_eq_true]
    intro x hx
    rw [inB, decide_eq_true_iff]
    rcases h2 x hx with rfl | hx <;> omega
  have o1 : ofOk of 60 = true := by rw [ofOk, hin 60 (by omega) (by omega), decide_eq_true (by omega : of.length ≤ 60)]; rfl
  have o2 : extraOk b.length of = true := by
    rw [extraOk, ofOk, hin _ (Int.le_refl _) (by omega), decide_eq_true (by omega : of.length ≤ 60), inB, decide_eq_true (by omega)]; rfl
  have hg : wayGo b.length (-1) of = true := by simp only [wayB, Bool.and_eq_true] at hw; exact hw.1
  obtain ⟨hp, hq⟩ := wayGo_inc hg (by omega)
  have m1 : (missR of).length = (of.filter fun x => x == -1).length := by
    rw [missR_t o1, pick, List.length_map]
    exact filt_range (fun x => x == -1)
  have m2 : (of.filter fun x => decide (x ≠ -1)).length + (of.filter fun x => x == -1).length = of.length := split_len _ _ _ (fun x _ => by by_cases e : x = -1 <;> simp [e])
  have m3 : (extraR b.length of).length = ((List.range b.length).filter (notIn of)).length := by
    rw [extraR_t o2, pick, List.length_map, Int.toNat_natCast]
  have m4 : ((List.range b.length).filter fun (k : Nat) => of.any fun x => x == (k : Int)).length + ((List.range b.length).filter (notIn of)).length = b.length := by
    rw [split_len _ _ _ (fun x _ => by rfl), List.length_range]
  have m5 : (((of.filter fun x => decide (x ≠ -1)).map Int.toNat).Perm ((List.range b.length).filter fun (k : Nat) => of.any fun x => x == (k : Int))) := by
    refine (List.perm_ext_iff_of_nodup ?_ (List.nodup_range.filter _)).2 fun k => ?_
    · rw [List.nodup_iff_pairwise_ne, List.pairwise_map]
      refine (List.Pairwise.and_mem.1 hp).imp ?_
      rintro x y ⟨hx, hy, hxy⟩ e
      have := hq x hx; have := hq y hy
      omega
    · rw [List.mem_map, List.mem_filter, List.mem_range, List.any_eq_true]
      constructor
      · rintro ⟨x, hx, rfl⟩
        have h3 := hq x hx
        exact ⟨by omega, x, (List.mem_filter.1 hx).1, by rw [beq_iff_eq]; omega⟩
      · rintro ⟨_, x, hx, e⟩
        rw [beq_iff_eq] at e
        exact ⟨x, List.mem_filter.2 ⟨hx, by rw [decide_eq_true_iff]; omega⟩, by omega⟩
  have m6 := m5.length_eq
  rw [List.length_map] at m6
  exact ⟨o1, o2, by omega, by omega, by omega⟩
theorem pr_self (s : Int) : ∀ a : List Int, pr s a a ≤ 0
  | [] => by rw [pr_nil]; simp
  | x :: a => by
    have h := pr_self s a
    have h0 : absZ (x - x) = 0 := by rw [Int.sub_self]; rfl
    rw [pr_cons, h0]
    omega
theorem self_free {a b : List Int} {s : Int} (h : askedM a b s = true) : askedM a a s = true ∧ bestCost a a s = 0 := by
  have h1 : askedM a a s = true := by
    simp only [askedM, Bool.and_eq_true] at h ⊢
    exact ⟨⟨h.1.1, h.1.1⟩, h.2⟩
  refine ⟨h1, ?_⟩
  rw [(best_t h1).2]
  have q := pAt_bd h1 0 0
  have q2 := pr_self s a
  rw [pAt, List.drop_zero] at q ⊢
  omega
end Go.Proofs.Ytpccbmndgdiloaa
