/- The sign of a touch, the reference's side. -/
import Derived.Test.YtmdmnjjlpefigaaW9a
import Derived.Test.YtmdmnjjlpefigaaP18
namespace Go.Proofs.Ytmdmnjjlpefigaa
set_option linter.unusedVariables false
set_option linter.unusedSimpArgs false
open Go.ChangeShapes Go.WideShapes Go.ChangeAt Go.RowKit Go.Deep
/-- The sign of the last head. -/
def tsV (nm : ByteArray) (st : Int) (l : List ByteArray) (kb ks t : ByteArray) : Bool := if goodF nm st l kb ks t = true then evenRow (hdAt st.toNat l kb ks t t.size) else false
theorem tsV_f {nm : ByteArray} {st : Int} {l : List ByteArray} {kb ks t : ByteArray} (h : goodF nm st l kb ks t = false) : tsV nm st l kb ks t = false := by rw [tsV, if_neg (by rw [h]; simp)]
theorem tsV_t {nm : ByteArray} {st : Nat} {l : List ByteArray} {kb ks t : ByteArray} (h : goodF nm (st : Int) l kb ks t = true) : tsV nm st l kb ks t = evenRow (hdAt st l kb ks t t.size) := by rw [tsV, if_pos h]; rfl
theorem goodF_t {nm : ByteArray} {st : Int} {l : List ByteArray} {kb ks t : ByteArray} (h : goodF nm st l kb ks t = true) : goodK nm st l kb ks = true ∧ goodT t = true := by
  rw [goodF, Bool.and_eq_true] at h; exact h
theorem ev_step {nm : ByteArray} {st : Nat} {l : List ByteArray} {kb ks t : ByteArray} (h : goodK nm (st : Int) l kb ks = true) (k : Nat) :
    evenRow (hdAt st l kb ks t (k + 1)) = (evenRow (hdAt st l kb ks t k) == evenRow (callHd st l kb ks (letter t k))) := by
  obtain ⟨h8, h40, _⟩ := goodK_all h
  have g := hdAt_good h8.1 h8.2 l kb ks t k
  have e := sign_times_head g.1 (chOf l kb ks (letter t k)) (l := l) (by omega)
  rw [g.2] at e
  exact e
theorem ev_zero {st : Nat} (h : 3 ≤ st) (h8 : st ≤ 8) (l : List ByteArray) (kb ks t : ByteArray) : evenRow (hdAt st l kb ks t 0) = true := by
  rw [hdAt]
  have : ∀ n : Nat, n < 9 → 3 ≤ n → evenRow (roundsS n) = true := by decide +kernel
  exact this st (by omega) h
set_option maxHeartbeats 2000000 in
set_option maxRecDepth 100000 in
theorem spec_TouchSign {A : Option Addr} {n c : Nat} {nm : ByteArray} {st : Int} {l : List ByteArray} {kb ks : ByteArray} {t : ByteArray} {w : World} (hn : l.length = n) (h : Strs w A l) (hz : n ≤ 1048576) (hs : ∀ s ∈ l, s.size ≤ 16777216) (hnm : nm.size ≤ 16777216) (hst : I64 st) (hkb : kb.size ≤ 16777216) (hks : ks.size ≤ 16777216) (hcap : n ≤ c) (ht : t.size ≤ 16777216) :
    Calls Try.prog 29 #[.agg #[.string nm, .int .i64 st, .slice A n c], .agg #[.string kb, .string ks], .string t] w fun e w' => e = .returned (.tuple #[.bool (tsV nm st l kb ks t), .bool (goodF nm st l kb ks t)]) ∧ Below w.heap.size w w' := by
  have HQ : Hid (goodF nm st l kb ks t = (goodK nm st l kb ks && goodT t)) := Lib.hid rfl
  have b0 : Below w.heap.size w ((w.alloc (.cells ⟨[.string nm, .int .i64 st, .slice A n c]⟩ 42)).alloc (.cells ⟨[.string kb, .string ks]⟩ 44)) := by (repeat' (first | (with_reducible exact Below.refl _ _) | (with_reducible assumption) | (with_reducible refine below_drewN ?_ _) | (with_reducible refine Below.drew ?_) | (with_reducible refine below_alloc ?_ _) | (with_reducible refine Below.alloc ?_ ?_ _) | (with_reducible refine Below.setCell ?_ ?_ _) | (with_reducible refine below_go ?_ (by with_reducible assumption)) | (with_reducible refine below_then (by with_reducible assumption) ?_ ?_) | go_size))
  have gb := PlainAid.get_bt t
  go_in
  go_wp2_with fail
  refine (spec_l18Leads hn (h.up b0) hz hs hnm hst hkb hks hcap).mono ?_; rintro e w1 ⟨A1, c1, rfl, ho1, hl1, hb1⟩
  have hB1 := below_go b0 hb1
  rcases hk : goodK nm st l kb ks
  · have e2 := Lib.hid (show goodF nm st l kb ks t = false by rw [HQ.out, hk]; rfl)
    have e1 := Lib.hid (tsV_f e2.out)
    go_wp2
    go_ret2
    rw [e1.out, e2.out]
    exact ⟨rfl, hB1⟩
  · rcases hg : goodT t
    · have e2 := Lib.hid (show goodF nm st l kb ks t = false by rw [HQ.out, hk, hg]; rfl)
      have e1 := Lib.hid (tsV_f e2.out)
      go_wp2_with fail
      refine (spec_GoodTouch ht).mono ?_; rw [hg]; rintro e w' ⟨rfl, rfl⟩
      go_wp2
      go_ret2
      rw [e1.out, e2.out]
      exact ⟨rfl, hB1⟩
    · obtain ⟨m, rfl⟩ : ∃ m : Nat, st = (m : Int) := ⟨st.toNat, by
        have := (goodM_t (goodK_t hk).1).2.1
        omega⟩
      have e2 := Lib.hid (show goodF nm m l kb ks t = true by rw [HQ.out, hk, hg]; rfl)
      have e1 := Lib.hid (tsV_t e2.out)
      have eL := lsR_t hk
      rw [eL] at ho1
      have HL : Hid ((lsR nm m l kb ks).length = 3) := Lib.hid (by rw [eL]; rfl)
      rw [show ((hds3 m l kb ks).map evenRow).length = 3 from rfl] at ho1
      clear eL
      obtain ⟨g, rfl, g0, g1, gc, _⟩ := ho1.at_ (by omega)
      have d0 := gc 0 _ 0 _ (by rfl : ((hds3 m l kb ks).map evenRow)[0]? = some (evenRow (callHd m l kb ks ⟨#[112]⟩))) rfl
      have d1 := gc 1 _ 0 _ (by rfl : ((hds3 m l kb ks).map evenRow)[1]? = some (evenRow (callHd m l kb ks ⟨#[98]⟩))) rfl
      have d2 := gc 2 _ 0 _ (by rfl : ((hds3 m l kb ks).map evenRow)[2]? = some (evenRow (callHd m l kb ks ⟨#[115]⟩))) rfl
      simp only [Nat.mul_one, Nat.add_zero, Nat.zero_mul, Nat.one_mul] at d0 d1 d2
      clear gc
      have HS := Lib.hid (fun k => ev_step (t := t) hk k)
      have HZ := Lib.hid (ev_zero (goodK_all hk).1.1 (goodK_all hk).1.2 l kb ks t)
      have HG := Lib.hid (goodT_t hg).2.2
      have h60 := (goodT_t hg).2.1
      rw [HL.out]
      go_wp2_with fail
      refine (spec_GoodTouch ht).mono ?_; rw [hg]; rintro e w' ⟨rfl, rfl⟩
      go_wp2
      go_loopw [10, 11] (fun v i wr => ∃ k : Nat, k ≤ t.size ∧ i = .int .i64 k ∧ v = .bool (evenRow (hdAt m l kb ks t k)) ∧ w1 = wr) (fun _ i _ => t.size - (intOf i).toNat)
      case atStart => exact ⟨0, Nat.zero_le _, rfl, by rw [HZ.out], rfl⟩
      case round =>
        obtain ⟨k, hk1, rfl, rfl, rfl⟩ := hrel
        by_cases hlt : k < t.size
        · have hcb := HG.out k hlt
          have step := HS.out k
          by_cases f1 : PlainAid.bt t k = 98
          · rw [letter_b hlt f1] at step
            have ST := Lib.hid step
            clear step hcb
            rcases hv : evenRow (callHd m l kb ks ⟨#[98]⟩)
            · rcases hu : evenRow (hdAt m l kb ks t k) <;> skip
              all_goals
                have e3 := ST.out
                rw [hu, hv] at e3
                have E3 := Lib.hid e3
                clear e3
                rw [hv] at d1
                go_wp2
                go_roundw
                case rel => exact ⟨k + 1, by omega, by go_num, by rw [E3.out]; rfl, trivial⟩
                case measure => simp [intOf]; omega
            · have e3 := ST.out
              rw [hv] at e3
              have E3 := Lib.hid (show evenRow (hdAt m l kb ks t (k + 1)) = evenRow (hdAt m l kb ks t k) by rw [e3]; cases evenRow (hdAt m l kb ks t k) <;> rfl)
              clear e3
              rw [hv] at d1
              go_wp2
              go_roundw
              case rel => exact ⟨k + 1, by omega, by go_num, by rw [E3.out], trivial⟩
              case measure => simp [intOf]; omega
          · by_cases f2 : PlainAid.bt t k = 115
            · rw [letter_s hlt f2] at step
              have ST := Lib.hid step
              clear step hcb
              rcases hv : evenRow (callHd m l kb ks ⟨#[115]⟩)
              · rcases hu : evenRow (hdAt m l kb ks t k) <;> skip
                all_goals
                  have e3 := ST.out
                  rw [hu, hv] at e3
                  have E3 := Lib.hid e3
                  clear e3
                  rw [hv] at d2
                  go_wp2
                  go_roundw
                  case rel => exact ⟨k + 1, by omega, by go_num, by rw [E3.out]; rfl, trivial⟩
                  case measure => simp [intOf]; omega
              · have e3 := ST.out
                rw [hv] at e3
                have E3 := Lib.hid (show evenRow (hdAt m l kb ks t (k + 1)) = evenRow (hdAt m l kb ks t k) by rw [e3]; cases evenRow (hdAt m l kb ks t k) <;> rfl)
                clear e3
                rw [hv] at d2
                go_wp2
                go_roundw
                case rel => exact ⟨k + 1, by omega, by go_num, by rw [E3.out], trivial⟩
                case measure => simp [intOf]; omega
            · have f3 : PlainAid.bt t k = 112 := by
                rw [callB] at hcb
                simpa [f1, f2] using hcb
              rw [letter_p hlt f3] at step
              have ST := Lib.hid step
              clear step hcb
              rcases hv : evenRow (callHd m l kb ks ⟨#[112]⟩)
              · rcases hu : evenRow (hdAt m l kb ks t k) <;> skip
                all_goals
                  have e3 := ST.out
                  rw [hu, hv] at e3
                  have E3 := Lib.hid e3
                  clear e3
                  rw [hv] at d0
                  go_wp2
                  go_roundw
                  case rel => exact ⟨k + 1, by omega, by go_num, by rw [E3.out]; rfl, trivial⟩
                  case measure => simp [intOf]; omega
              · have e3 := ST.out
                rw [hv] at e3
                have E3 := Lib.hid (show evenRow (hdAt m l kb ks t (k + 1)) = evenRow (hdAt m l kb ks t k) by rw [e3]; cases evenRow (hdAt m l kb ks t k) <;> rfl)
                clear e3
                rw [hv] at d0
                go_wp2
                go_roundw
                case rel => exact ⟨k + 1, by omega, by go_num, by rw [E3.out], trivial⟩
                case measure => simp [intOf]; omega
        · obtain rfl : k = t.size := by omega
          go_wp2
          go_ret2
          rw [e1.out, e2.out]
          exact ⟨rfl, hB1⟩
end Go.Proofs.Ytmdmnjjlpefigaa
