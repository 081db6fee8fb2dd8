/- Worlds that differ in what is drawn alone; quiet contracts of the walks through costs. -/
import Derived.Test.YtdnbdnfoogjcmaaW22c
import Derived.Test.YtdnbdnfoogjcmaaTab
namespace Go.Proofs.Ytdnbdnfoogjcmaa
set_option linter.unusedVariables false
set_option linter.unusedSimpArgs false
open Go.ChangeShapes Go.WideShapes Go.ChangeAt Go.RowKit Go.Deep
def Dr (w w' : World) : Prop := ∃ n, w' = w.drewN n
theorem Dr.refl (w : World) : Dr w w := ⟨0, rfl⟩
theorem Dr.drewN {w w' : World} (h : Dr w w') (n : Nat) : Dr w (w'.drewN n) := by
  obtain ⟨m, rfl⟩ := h
  exact ⟨m + n, by simp only [World.drewN, Nat.add_assoc]⟩
theorem Dr.below {w w' : World} (h : Dr w w') : Below w.heap.size w w' := by
  obtain ⟨m, rfl⟩ := h
  exact below_drewN (Below.refl _ _) _
theorem Dr.trans {w w' w'' : World} (h : Dr w w') (h' : Dr w' w'') : Dr w w'' := by
  obtain ⟨m, rfl⟩ := h'
  exact h.drewN m
theorem quiet_more {P : Program} {f : FuncId} {args : Array Value} {w : World} {n : Nat} {v : Value} (h : Calls P f args (w.drewN n) fun e w' => e = .returned v ∧ Dr (w.drewN n) w') :
    Calls P f args (w.drewN n) fun e w'' => e = .returned v ∧ ∃ m, w'' = w.drewN m :=
  h.mono fun _ _ h => ⟨h.1, ((show Dr w (w.drewN n) from ⟨n, rfl⟩).trans h.2)⟩
set_option maxRecDepth 100000 in
theorem impl_costOfD {A B C : Option Addr} {n m q c d f : Nat} {a b l : List Int} {s : Int} {w : World} (hn : a.length = n) (hm : b.length = m) (hq : l.length = q) (h : Ints w A a) (g : Ints w B b) (t : Ints w C l) (ha : askedM a b s = true) (hw : wayB n m l = true) :
    Calls Try.prog 37 #[.slice A n c, .slice B m d, .slice C q f, .int .i64 s] w fun e w' => e = .returned (.int .i64 (costZ a b l s)) ∧ Dr w w' := by
  subst hn hm hq
  obtain ⟨⟨a1, a2⟩, ⟨b1, b2⟩, s1, s2⟩ := askedM_t ha
  obtain ⟨w1, w2⟩ := wayB_t hw
  have HA := Lib.hid a2; have HB := Lib.hid b2; have HW := Lib.hid w2; have W1 := Lib.hid w1
  have wl : l.length ≤ 60 := by omega
  clear a2 b2 w2 w1
  go_in
  go_wp2
  go_loopw [9, 10, 17] (fun p q i wr => ∃ k : Nat, k ≤ l.length ∧ i = .int .i64 k ∧ p = .int .i64 (sumTo (costAt a b l s) k) ∧ q = .int .i64 ((b.length : Int) - sumTo (hitAt l) k) ∧ Dr w wr) (fun _ _ i _ => l.length - (intOf i).toNat)
  case atStart => exact ⟨0, Nat.zero_le _, rfl, rfl, by simp [sumTo], Dr.refl _⟩
  case round =>
    obtain ⟨k, hk, rfl, rfl, rfl, hb⟩ := hrel
    have cb := cost_bd ha hw hk
    have hbd := hit_bd l k
    obtain ⟨p, hp⟩ : ∃ p, p = sumTo (costAt a b l s) k := ⟨_, rfl⟩
    obtain ⟨q, hq⟩ : ∃ q, q = sumTo (hitAt l) k := ⟨_, rfl⟩
    rw [← hp] at cb ⊢
    rw [← hq] at hbd ⊢
    have HP := Lib.hid hp; have HQ := Lib.hid hq
    clear hp hq
    by_cases hlt : k < l.length
    · have cs := cost_step_bd ha hw hlt
      obtain ⟨b3, o3, x, rfl, hbb, hx, hc⟩ := (t.below hb.below (Nat.le_refl _)).at_int hlt
      have hxm := HW.out x (List.mem_of_getElem? hx)
      by_cases h0 : x < 0
      · have CN := Lib.hid (costAt_neg (ideal := a) (struck := b) (skip := s) hx h0)
        clear h g t hx cs hxm
        go_wp2
        go_roundw
        case rel => exact ⟨k + 1, by omega, by go_num, by rw [sumTo, CN.out.1, ← HP.out], by rw [sumTo, CN.out.2, ← HQ.out]; go_num, (by first | assumption | exact Dr.drewN (by assumption) _)⟩
        case measure => simp [intOf]; omega
      · obtain ⟨j, rfl⟩ := Int.eq_ofNat_of_zero_le (show 0 ≤ x by omega)
        have hj : j < b.length := by omega
        have hka : k < a.length := by have := W1.out; omega
        obtain ⟨b4, o4, y, rfl, hbb4, hy, hc4⟩ := (h.below hb.below (Nat.le_refl _)).at_int hka
        obtain ⟨b5, o5, z, rfl, hbb5, hz, hc5⟩ := (g.below hb.below (Nat.le_refl _)).at_int hj
        have CN := Lib.hid (costAt_pos (skip := s) hx h0 hy (by rw [Int.toNat_natCast]; exact hz))
        rw [CN.out.1] at cs
        have hyb := HA.out y (List.mem_of_getElem? hy)
        have hzb := HB.out z (List.mem_of_getElem? hz)
        clear h g t hx hy hz hxm
        go_wp2
        go_quiet ((go_at_call 46; exact quiet_left (impl_abs _ _ (by omega))))
        go_wp2
        go_roundw
        case rel => exact ⟨k + 1, by omega, by go_num, by rw [sumTo, CN.out.1, ← HP.out], by rw [sumTo, CN.out.2, ← HQ.out]; go_num, (by first | assumption | exact Dr.drewN (by assumption) _)⟩
        case measure => simp [intOf]; omega
    · have hpr : 0 ≤ ((b.length : Int) - q + 60) * s ∧ ((b.length : Int) - q + 60) * s ≤ 1200000 := by
        refine ⟨Int.mul_nonneg (by omega) s1, ?_⟩
        exact Int.le_trans (Int.mul_le_mul (show (b.length : Int) - q + 60 ≤ 120 by omega) s2 s1 (by omega)) (by decide)
      have hpr2 : ((b.length : Int) - q + 60) * s = ((b.length : Int) - q) * s + 60 * s := by rw [Int.add_mul]
      have hpr3 : -600000 ≤ ((b.length : Int) - q) * s ∧ ((b.length : Int) - q) * s ≤ 1200000 := by omega
      clear hpr hpr2
      go_wp2
      go_ret
      obtain rfl : k = l.length := by omega
      refine ⟨ret_int ?_, (by first | assumption | exact Dr.drewN (by assumption) _)⟩
      rw [costZ, ← HP.out, ← HQ.out]
set_option maxRecDepth 100000 in
theorem spec_l22CostD {A B C : Option Addr} {n m q c d f : Nat} {a b l : List Int} {s : Int} {w : World} (hn : a.length = n) (hm : b.length = m) (hq : l.length = q) (h : Ints w A a) (g : Ints w B b) (t : Ints w C l) (ha : askedM a b s = true) (hw : wayB n m l = true) :
    Calls Try.prog 40 #[.slice A n c, .slice B m d, .slice C q f, .int .i64 s] w fun e w' => e = .returned (.int .i64 (costZ a b l s)) ∧ Dr w w' := by
  subst hn hm hq
  obtain ⟨⟨a1, a2⟩, ⟨b1, b2⟩, s1, s2⟩ := askedM_t ha
  obtain ⟨w1, w2⟩ := wayB_t hw
  have HA := Lib.hid a2; have HB := Lib.hid b2; have HW := Lib.hid w2; have W1 := Lib.hid w1
  have wl : l.length ≤ 60 := by omega
  clear a2 b2 w2 w1
  have ms : (b.length : Int) * s ≤ 600000 := Int.le_trans (Int.mul_le_mul (show (b.length : Int) ≤ 60 by omega) s2 s1 (by omega)) (by decide)
  have ms0 : 0 ≤ (b.length : Int) * s := Int.mul_nonneg (by omega) s1
  rw [Int.mul_comm] at ms ms0
  go_in
  go_wp2
  go_loopw [9, 18] (fun p i wr => ∃ k : Nat, k ≤ l.length ∧ i = .int .i64 k ∧ p = .int .i64 (s * (b.length : Int) + sumTo (fun i => costAt a b l s i - hitAt l i * s) k) ∧ Dr w wr) (fun _ i _ => l.length - (intOf i).toNat)
  case atStart => exact ⟨0, Nat.zero_le _, rfl, by simp [sumTo], Dr.refl _⟩
  case round =>
    obtain ⟨k, hk, rfl, rfl, hb⟩ := hrel
    have cb := cost_bd ha hw hk
    have hbd := hit_bd l k
    have SC := spec_cost a b l s k
    have hpr : 0 ≤ ((b.length : Int) - sumTo (hitAt l) k + 60) * s ∧ ((b.length : Int) - sumTo (hitAt l) k + 60) * s ≤ 1200000 := by
      refine ⟨Int.mul_nonneg (by omega) s1, ?_⟩
      exact Int.le_trans (Int.mul_le_mul (show (b.length : Int) - sumTo (hitAt l) k + 60 ≤ 120 by omega) s2 s1 (by omega)) (by decide)
    rw [Int.add_mul] at hpr
    obtain ⟨p, hp⟩ : ∃ p, p = s * (b.length : Int) + sumTo (fun i => costAt a b l s i - hitAt l i * s) k := ⟨_, rfl⟩
    rw [← hp] at SC ⊢
    have pb : -600000 ≤ p ∧ p ≤ 61200000 := by omega
    have HP := Lib.hid hp
    have HS := Lib.hid SC
    clear hp hpr SC cb hbd
    by_cases hlt : k < l.length
    · have cs := cost_step_bd ha hw hlt
      obtain ⟨b3, o3, x, rfl, hbb, hx, hc⟩ := (t.below hb.below (Nat.le_refl _)).at_int hlt
      have hxm := HW.out x (List.mem_of_getElem? hx)
      by_cases h0 : x < 0
      · have CN := Lib.hid (costAt_neg (ideal := a) (struck := b) (skip := s) hx h0)
        clear h g t hx cs hxm
        go_wp2
        go_roundw
        case rel => exact ⟨k + 1, by omega, by go_num, by rw [sumTo, CN.out.1, CN.out.2, HP.out]; go_num, (by first | assumption | exact Dr.drewN (by assumption) _)⟩
        case measure => simp [intOf]; omega
      · obtain ⟨j, rfl⟩ := Int.eq_ofNat_of_zero_le (show 0 ≤ x by omega)
        have hj : j < b.length := by omega
        have hka : k < a.length := by have := W1.out; omega
        obtain ⟨b4, o4, y, rfl, hbb4, hy, hc4⟩ := (h.below hb.below (Nat.le_refl _)).at_int hka
        obtain ⟨b5, o5, z, rfl, hbb5, hz, hc5⟩ := (g.below hb.below (Nat.le_refl _)).at_int hj
        have CN := Lib.hid (costAt_pos (skip := s) hx h0 hy (by rw [Int.toNat_natCast]; exact hz))
        rw [CN.out.1] at cs
        have hyb := HA.out y (List.mem_of_getElem? hy)
        have hzb := HB.out z (List.mem_of_getElem? hz)
        clear h g t hx hy hz hxm
        go_wp2
        go_quiet ((go_at_call 70; exact quiet_left (spec_l22Far _ _ _ (by omega))))
        go_wp2
        go_roundw
        case rel => exact ⟨k + 1, by omega, by go_num, by rw [sumTo, CN.out.1, CN.out.2, HP.out]; go_num, (by first | assumption | exact Dr.drewN (by assumption) _)⟩
        case measure => simp [intOf]; omega
    · go_wp2
      go_ret
      obtain rfl : k = l.length := by omega
      refine ⟨ret_int ?_, (by first | assumption | exact Dr.drewN (by assumption) _)⟩
      rw [costZ]
      exact HS.out
end Go.Proofs.Ytdnbdnfoogjcmaa
