/- The walks through CheckPrices, both sides. -/
import Derived.Test.YtdnbdnfoogjcmaaW22u
namespace Go.Proofs.Ytdnbdnfoogjcmaa
set_option linter.unusedVariables false
set_option linter.unusedSimpArgs false
open Go.ChangeShapes Go.WideShapes Go.ChangeAt Go.RowKit Go.Deep
set_option maxHeartbeats 4000000 in
set_option maxRecDepth 100000 in
theorem spec_CheckPrices {vs : List Hd} {A B C D : Option Addr} {n m q k c d f co : Nat} {a b of : List Int} {s x : Int} {T : List (List Int)} {w : World} (hn : a.length = n) (h : Ints w A a) (hz : n ≤ 1048576) (hm : b.length = m) (g : Ints w B b) (hz' : m ≤ 1048576) (hq : T.length = q) (hT : TabR vs w C T) (hzq : q ≤ 1048576) (hr : ∀ r ∈ T, r.length ≤ 16777216) (hk : of.length = k) (t : Ints w D of) (hzk : k ≤ 1048576) (hofb : ∀ x ∈ of, -9223372036854775808 ≤ x ∧ x ≤ 9223372036854775807) :
    Calls Try.prog 17 #[.slice A n c, .slice B m d, .int .i64 s, .slice C q f, .agg #[.slice D k co, .int .i64 x]] w fun e w' => e = .returned (.tuple #[.bool (cpR a b s T of x), .bool (cpOk a b s T)]) ∧ Below w.heap.size w w' := by
  subst hn hm hk
  have E : Hid (cpOk a b s T = (askedM a b s && shapeB a.length b.length T)) := rfl
  have b0 : Below w.heap.size w (w.alloc (.cells #[.slice D of.length co, .int .i64 x] 30)) := by (repeat' (first | (with_reducible exact Below.refl _ _) | (with_reducible assumption) | (with_reducible refine below_drewN ?_ _) | (with_reducible refine Below.drew ?_) | (with_reducible refine below_alloc ?_ _) | (with_reducible refine Below.alloc ?_ ?_ _) | (with_reducible refine Below.setCell ?_ ?_ _) | (with_reducible refine below_go ?_ (by with_reducible assumption)) | (with_reducible refine below_then (by with_reducible assumption) ?_ ?_) | go_size))
  have K0 := Blk.at_ w 30 [.slice D of.length co, .int .i64 x] (b := w.heap.size) rfl
  rcases h1 : askedM a b s
  · have e0 : cpOk a b s T = false := by rw [E.out, h1]; rfl
    rw [cp_f e0, e0]
    clear e0
    go_in
    go_wp2_with (first | (go_at_call 38; refine (spec_l22Asked rfl rfl (h.up b0) (g.up b0) (by omega) (by omega)).mono ?_; rintro e w' ⟨rfl, rfl⟩; rw [h1]))
    go_ret2
    exact ⟨rfl, b0⟩
  rcases h2 : shapeB a.length b.length T
  · have e0 : cpOk a b s T = false := by rw [E.out, h1, h2]; rfl
    rw [cp_f e0, e0]
    clear e0
    go_in
    go_wp2_with (first | (go_at_call 38; refine (spec_l22Asked rfl rfl (h.up b0) (g.up b0) (by omega) (by omega)).mono ?_; rintro e w' ⟨rfl, rfl⟩; rw [h1]) | (go_at_call 49; refine (spec_l22Shape hq (hT.up b0) (by omega) (by omega) (by omega) hr).mono ?_; rintro e w' ⟨rfl, rfl⟩; rw [h2]))
    go_ret2
    exact ⟨rfl, b0⟩
  have e0 : cpOk a b s T = true := by rw [E.out, h1, h2]; rfl
  have EV := Lib.hid (cp_t (of := of) (cost := x) e0)
  have EO := Lib.hid e0
  have VV : Hid (cpV a b s T of x = (boundB a b s T && ((tc T a.length b.length == 0) && (wayB a.length b.length of && ((x == tc T 0 0) && (x == costZ a b of s)))))) := rfl
  clear e0
  obtain ⟨⟨a1, a2⟩, ⟨b1, b2⟩, s1, s2⟩ := askedM_t h1
  obtain ⟨hTl, hS⟩ := shapeB_t h2
  obtain rfl : q = a.length + 1 := by omega
  have HA := Lib.hid a2; have HB := Lib.hid b2; have HS := Lib.hid hS
  have HQ := Lib.hid hTl
  have HRS := Lib.hid hr
  clear hTl hr hzq
  obtain ⟨rz, hrz, hlz, hxz⟩ := hS 0 (by omega)
  obtain ⟨g0, og, fz, oz, cz, rfl, lg0, lfz, ctz, crz⟩ := hT.rowc hrz (by omega)
  have cz0 := crz 0 _ (hxz 0 (by omega)).1
  rw [hlz] at ctz
  simp only [Nat.add_zero] at ctz cz0
  obtain ⟨tz, htz⟩ : ∃ u, u = tc T 0 0 := ⟨_, rfl⟩
  rw [← htz] at cz0 VV
  clear a2 b2 hS hrz hlz hxz crz htz hq
  go_in
  go_wp2_with (first | (go_at_call 38; refine (spec_l22Asked rfl rfl (h.up b0) (g.up b0) (by omega) (by omega)).mono ?_; rintro e w' ⟨rfl, rfl⟩; rw [h1]) | (go_at_call 49; refine (spec_l22Shape HQ.out (hT.up b0) (by omega) (by omega) (by omega) HRS.out).mono ?_; rintro e w' ⟨rfl, rfl⟩; rw [h2]))
  obtain ⟨w1, hw1⟩ : ∃ u, u = w.alloc (.cells #[.slice D of.length co, .int .i64 x] 30) := ⟨_, rfl⟩
  rw [← hw1] at b0 K0 ⊢
  have hsz : w1.heap.size = w.heap.size + 1 := by rw [hw1]; simp
  clear hw1
  have k0 : w1.cell? ⟨w.heap.size, 0, none⟩ = some (.slice D of.length co) := by simpa using K0.cell 0
  have k1 : w1.cell? ⟨w.heap.size, 1, none⟩ = some (.int .i64 x) := by simpa using K0.cell 1
  have k2 := (b0.cell (p := ⟨g0, og, none⟩) lg0).trans ctz
  have k3 := (b0.cell (p := ⟨fz, oz, none⟩) lfz).trans cz0
  have D1 : ∀ n, Below w1.heap.size w1 (w1.drewN n) := fun n => below_drewN (Below.refl _ _) n
  clear K0 ctz cz0
  have hpos : (0 : Int) < (a.length : Int) + 1 := by omega
  have hposb : (0 : Int) < (b.length : Int) + 1 := by omega
  have QB := fun n => quiet_more (spec_l22Bounded (c := c) (d := d) (f := f) rfl rfl HQ.out ((h.up b0).up (D1 n)) ((g.up b0).up (D1 n)) ((hT.up b0).up (D1 n)) h1 h2)
  have QW := fun n => quiet_left (spec_l22Way (A := A) (B := B) (n := a.length) (m := b.length) (c := c) (d := d) (f := co) rfl ((t.up b0).up (D1 n)) (by omega) (by omega) (by omega) hofb)
  have QQB := Lib.hid QB; have QQW := Lib.hid QW
  clear QB QW
  rcases v1 : (boundB a b s T && (tc T a.length b.length == 0))
  · have e0 := Lib.hid (show cpV a b s T of x = false by rw [VV.out, ← Bool.and_assoc, v1]; rfl)
    have QB := Lib.hid QQB.out
    rw [v1] at QB
    go_quiet ((first | (go_at_call 50; exact QB.out _)))
    go_wp2
    go_ret2
    exact ⟨by (rw [EV.out, EO.out, e0.out] <;> rfl), below_drewN b0 _⟩
  have QB := Lib.hid QQB.out
  rw [v1] at QB
  rcases v2 : wayB a.length b.length of
  · have e0 := Lib.hid (show cpV a b s T of x = false by rw [VV.out, v2]; simp)
    have QW := Lib.hid QQW.out
    rw [v2] at QW
    go_quiet ((first | (go_at_call 50; exact QB.out _) | (go_at_call 39; exact QW.out _)))
    go_wp2
    go_ret2
    exact ⟨by (rw [EV.out, EO.out, e0.out] <;> rfl), below_drewN b0 _⟩
  have QW := Lib.hid QQW.out
  rw [v2] at QW
  have QC := Lib.hid (fun n => quiet_more (spec_l22CostD (c := c) (d := d) (f := co) rfl rfl rfl ((h.up b0).up (D1 n)) ((g.up b0).up (D1 n)) ((t.up b0).up (D1 n)) h1 v2))
  obtain ⟨cz1, hcz1⟩ : ∃ u, u = costZ a b of s := ⟨_, rfl⟩
  rw [← hcz1] at QC VV
  clear hcz1
  rcases v3 : (x == cz1)
  · have e0 := Lib.hid (show cpV a b s T of x = false by rw [VV.out, v3]; simp)
    go_quiet ((first | (go_at_call 50; exact QB.out _) | (go_at_call 39; exact QW.out _) | (go_at_call 40; exact QC.out _)))
    go_wp2
    go_ret2
    exact ⟨by (rw [EV.out, EO.out, e0.out] <;> rfl), below_drewN b0 _⟩
  · have v4 := Lib.hid (show cpV a b s T of x = (x == tz) by rw [VV.out, ← Bool.and_assoc, v1, v2, v3]; simp)
    rcases v5 : (x == tz)
    · go_quiet ((first | (go_at_call 50; exact QB.out _) | (go_at_call 39; exact QW.out _) | (go_at_call 40; exact QC.out _)))
      go_wp2
      go_ret2
      exact ⟨by (rw [EV.out, EO.out, v4.out, v5] <;> rfl), below_drewN b0 _⟩
    · go_quiet ((first | (go_at_call 50; exact QB.out _) | (go_at_call 39; exact QW.out _) | (go_at_call 40; exact QC.out _)))
      go_wp2
      go_ret2
      exact ⟨by (rw [EV.out, EO.out, v4.out, v5] <;> rfl), below_drewN b0 _⟩
end Go.Proofs.Ytdnbdnfoogjcmaa
