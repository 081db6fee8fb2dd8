/- The laws' own conversions of [][]int: counting, copying. -/
import Derived.Test.YtcpfcgcdahhnjaaCtab
namespace Go.Proofs.Ytcpfcgcdahhnjaa
set_option linter.unusedVariables false
set_option linter.unusedSimpArgs false
open Go.ChangeShapes Go.WideShapes Go.ChangeAt Go.RowKit Go.Deep
theorem hBlk_set_ne {vs : List Hd} {i j : Nat} {v : Hd} (h : i ≠ j) : hBlk (vs.set j v) i = hBlk vs i := hb_set h
theorem offs_le (T : List (List Int)) : ∀ {j k : Nat}, j ≤ k → offs T j ≤ offs T k := fun {j k} h => by
  induction k with
  | zero => obtain rfl : j = 0 := by omega
            exact Nat.le_refl _
  | succ k ih =>
    by_cases e : j = k + 1
    · subst e; exact Nat.le_refl _
    · have h1 := ih (by omega)
      by_cases hk : k < T.length
      · obtain ⟨r, hr⟩ := some_of_lt hk
        rw [offs_succ hr]; omega
      · have : offs T (k + 1) = offs T k := by simp [offs, List.take_of_length_le (show T.length ≤ k by omega), List.take_of_length_le (show T.length ≤ k + 1 by omega)]
        omega
def szW (z left : Int) : Int := if z ≤ left then left - z else -1
theorem szW_t {z left : Int} (h : z ≤ left) : szW z left = left - z := by rw [szW, if_pos h]
theorem szW_f {z left : Int} (h : ¬ z ≤ left) : szW z left = -1 := by rw [szW, if_neg h]
set_option maxRecDepth 100000 in
theorem laws_toIntSS (vs : List Hd) (A : Option Addr) (n c : Nat) (T : List (List Int)) (w : World) (hn : T.length = n) (h : TabR vs w A T) (hz : n ≤ 1048576) (hr : ∀ r ∈ T, r.length ≤ 1048576) :
    Calls Try.prog 41 #[.slice A n c] w fun e w' => ∃ us g, e = .returned (.slice (some ⟨g, 0, none⟩) n n) ∧ Tab us w' w.heap.size (some ⟨g, 0, none⟩) n n T ∧ Below w.heap.size w w' := by
  subst hn
  have HR := Lib.hid hr
  clear hr
  have hmk := run_make_rec (e := slcE) Try.elInts (none, 0, 0) rfl T.length (by omega) (by decide)
  simp only [Nat.mul_one] at hmk
  have HT : Hid (∀ i, i < T.length → T[i]? = some (T.getD i [])) := Lib.hid (fun i hi => by rw [List.getD, List.getElem?_eq_getElem hi]; rfl)
  go_in
  go_wp2
  clear hmk
  go_loopw [4] (fun i wr => ∃ (k : Nat) (us : List Hd), k ≤ T.length ∧ i = .int .i64 k ∧ Part us wr w.heap.size w.heap.size T.length (fun i => i < k) (fun i => T.getD i []) ∧ Below w.heap.size w wr) (fun i _ => T.length - (intOf i).toNat)
  case atStart =>
    refine ⟨0, List.replicate T.length (none, 0, 0), Nat.zero_le _, rfl, ⟨Nat.le_refl _, ?_, fun i hi hn => absurd hi (by omega), fun i j hi _ hn => absurd hi (by omega)⟩, by (repeat' (first | (with_reducible exact Below.refl _ _) | (with_reducible assumption) | (with_reducible refine below_drewN ?_ _) | (with_reducible refine Below.drew ?_) | (with_reducible refine below_alloc ?_ _) | (with_reducible refine Below.alloc ?_ ?_ _) | (with_reducible refine Below.setCell ?_ ?_ _) | (with_reducible refine below_go ?_ (by with_reducible assumption)) | (with_reducible refine below_then (by with_reducible assumption) ?_ ?_) | go_size))⟩
    have q := Owned.made (e := slcE) (s := 1) (base := w.heap.size) slcE_len w 26 ((none, 0, 0) : Hd) T.length (by omega) (Nat.le_refl _)
    rw [Nat.mul_one] at q
    exact q
  case round =>
    obtain ⟨k, us, hk, rfl, hp, hb⟩ := hrel
    rename World => wo
    by_cases hlt : k < T.length
    · have hW := h.up hb
      obtain ⟨b1, o1, v, rfl, _, hv, hcx⟩ := hW.2.1.at_slc (k := k) (by rw [hW.1]; exact hlt)
      have hx := HT.out k hlt
      obtain ⟨r, hrr⟩ : ∃ r, r = T.getD k [] := ⟨_, rfl⟩
      rw [← hrr] at hx
      obtain ⟨e1, r1⟩ := hW.2.2 k v r hv hx
      obtain ⟨v0, v1, v2⟩ := v
      dsimp only at hcx r1 e1
      subst e1
      have lx := HR.out r (List.mem_of_getElem? hx)
      have HRR := Lib.hid hrr
      have hsz := hb.size
      have HP := Lib.hid hp
      clear hx hv hrr hW h hp
      go_wp2_with fail
      refine (laws_toIntS _ _ _ r _ rfl r1 lx).mono ?_; rintro e w1 ⟨q, rfl, ho, hb1⟩
      have hp1 := HP.out.up hb1
      have rq := ho.at_own
      obtain ⟨y, hy⟩ := some_of_lt (l := us) (k := k) (by rw [HP.out.top.len]; exact hlt)
      obtain ⟨_, e1, _, lg1, hc, hfz⟩ := hp1.top.at_ (by omega)
      injection e1 with e1; injection e1 with e1; subst e1
      have old0 := hc k y 0 _ hy rfl
      have fz0 := hfz (k * 1 + 0)
      simp only [Nat.mul_one, Nat.add_zero] at old0 fz0
      have hpH := hp1.head (i0 := k) (q := q) (m := r.length) (c := r.length) (by omega) hlt
      have lgo : w.heap.size < wo.heap.size := by
        have := (HP.out.top.at_own).2; omega
      have hoW := ho.kept (only_set w1 (p := ⟨w.heap.size, k, none⟩) (.slice (some ⟨q, 0, none⟩) r.length r.length)) (fun k hk e => by injection hk with hk; injection e with e; dsimp only at hk e; omega)
      have hv1 : (us.set k (some ⟨q, 0, none⟩, r.length, r.length))[k]? = some ((some ⟨q, 0, none⟩, r.length, r.length) : Hd) := List.getElem?_set_self (by rw [HP.out.top.len]; exact hlt)
      have hpA := hpH.add (F' := fun i => i < k + 1) (i0 := k) (q := q) (by rw [← HRR.out]; exact hv1) (by omega) (by rw [← HRR.out]; exact hoW.base_le (by omega)) (fun i h1 h2 h3 => by
        rw [hBlk_set_ne h3]; have := (HP.out.row i h1 h2).2.2.1; omega) (fun i h => by omega)
      have HPA := Lib.hid hpA
      have hbF := (hb.trans (hb1.mono hsz)).setCell (p := ⟨w.heap.size, k, none⟩) (Nat.le_refl _) (.slice (some ⟨q, 0, none⟩) r.length r.length)
      clear hc hfz hy hpH hpA hoW hv1 hp1 ho
      go_wp2
      go_roundw
      case rel => exact ⟨k + 1, _, by omega, by go_num, HPA.out, hbF⟩
      case measure => simp [intOf]; omega
    · obtain rfl : k = T.length := by omega
      have hT := hp.tab (fun i hi => hi)
      have e0 : (List.range T.length).map (fun i => T.getD i []) = T := by
        apply List.ext_getElem?
        intro i
        by_cases hi : i < T.length
        · simp [hi]
        · simp [hi]
      rw [e0] at hT
      go_wp2
      go_ret
      exact ⟨us, _, rfl, hT, hb⟩
/-- The room that a table takes. -/
def szUpT (T : List (List Int)) (k : Nat) : Int := (offs T k : Nat)
def szT (T : List (List Int)) : Int := (T.length : Int) + (offs T T.length : Nat)
theorem szT_len (T : List (List Int)) : (T.length : Int) ≤ szT T := by unfold szT; omega
theorem szT_row {T : List (List Int)} : ∀ r ∈ T, (r.length : Int) ≤ szT T := fun r hr => by
  obtain ⟨k, hk, e⟩ := List.getElem_of_mem hr
  have h1 := offs_succ (T := T) (i := k) (r := r) (by rw [List.getElem?_eq_getElem hk, e])
  have h2 := offs_le T (show k + 1 ≤ T.length by omega)
  unfold szT; omega
set_option maxRecDepth 100000 in
theorem laws_szIntSS (vs : List Hd) (A : Option Addr) (n c : Nat) (T : List (List Int)) (left : Int) (w : World) (hn : T.length = n) (h : TabR vs w A T) (h1 : left ≤ 1048576) (h0 : 0 ≤ left) (hm : n ≤ 9223372036854775807) (hr : ∀ r ∈ T, r.length ≤ 9223372036854775807) :
    Calls Try.prog 38 #[.slice A n c, .int .i64 left] w fun e w' => e = .returned (.int .i64 (szW (szT T) left)) ∧ w = w' := by
  subst hn
  have HS := Lib.hid hr
  have HU : Hid (szT T = (T.length : Int) + (offs T T.length : Nat)) := Lib.hid rfl
  clear hr
  by_cases hl : (T.length : Int) ≤ left
  · go_in
    go_wp2
    go_loop [5, 1] (fun i v => ∃ k : Nat, k ≤ T.length ∧ i = .int .i64 k ∧ v = .int .i64 (left - (T.length : Int) - (offs T k : Nat)) ∧ ((offs T k : Nat) : Int) ≤ left - (T.length : Int)) (fun i _ => T.length - (intOf i).toNat)
    case atStart => exact ⟨0, Nat.zero_le _, rfl, by simp [offs_zero], by simp [offs_zero]; omega⟩
    case round =>
      obtain ⟨k, hk, rfl, rfl, hle⟩ := hrel
      by_cases hlt : k < T.length
      · obtain ⟨b1, o1, v, rfl, _, hv, hcx⟩ := h.2.1.at_slc (k := k) (by rw [h.1]; exact hlt)
        obtain ⟨r, hx⟩ := some_of_lt hlt
        obtain ⟨e1, _⟩ := h.2.2 k v r hv hx
        obtain ⟨v0, v1, v2⟩ := v
        dsimp only at hcx e1
        subst e1
        have hxs := HS.out r (List.mem_of_getElem? hx)
        have ES := Lib.hid (offs_succ hx)
        have EM := Lib.hid (offs_le T (show k + 1 ≤ T.length by omega))
        clear hx hv h
        obtain ⟨u, hu⟩ : ∃ u, u = offs T k := ⟨_, rfl⟩
        rw [← hu] at ES hle ⊢
        clear hu
        by_cases hf : (r.length : Int) ≤ left - (T.length : Int) - (u : Int)
        · go_wp2_with (first | (go_at_call 86; refine (laws_szIntS_ok _ _ _ _ _ hf (by omega)).mono ?_; rintro e w' ⟨rfl, rfl⟩))
          go_round
          case rel => exact ⟨k + 1, by omega, by go_num, by rw [ES.out]; go_num, by rw [ES.out]; omega⟩
          case measure => simp [intOf]; omega
        · go_wp2_with (first | (go_at_call 86; refine (laws_szIntS_no _ _ _ _ _ (by omega) (by omega) hxs).mono ?_; rintro e w' ⟨rfl, rfl⟩))
          go_ret
          refine ⟨ret_int ?_, rfl⟩
          rw [szW_f]
          have := HU.out; have := ES.out; have := EM.out
          omega
      · obtain rfl : k = T.length := by omega
        have e1 := HU.out
        obtain ⟨u, hu⟩ : ∃ u, u = offs T T.length := ⟨_, rfl⟩
        rw [← hu] at e1 hle ⊢
        have E1 := Lib.hid e1
        clear e1 hu
        go_wp2
        go_ret
        refine ⟨ret_int ?_, rfl⟩
        rw [szW_t (by rw [E1.out]; omega), E1.out]; omega
  · have hlL := szT_len T
    have E0 := Lib.hid (show ¬ szT T ≤ left by omega)
    go_in
    go_wp2
    go_ret
    exact ⟨ret_int (szW_f (by have := E0.out; omega)).symm, rfl⟩
end Go.Proofs.Ytcpfcgcdahhnjaa
