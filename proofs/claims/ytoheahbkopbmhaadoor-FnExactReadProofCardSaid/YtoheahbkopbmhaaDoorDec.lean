/- The decimal text of a number: plain, and the reference's walk. -/
import Derived.Test.YtoheahbkopbmhaaDoorW2b
import Derived.Deep.RegionHeld3
import Derived.Lib.ItoaNum
namespace Go.Proofs.YtoheahbkopbmhaaDoor
set_option linter.unusedVariables false
set_option linter.unusedSimpArgs false
open Go.ChangeShapes Go.WideShapes Go.ChangeAt Go.RowKit Go.Deep
def decS (n : Nat) : ByteArray := ⟨(Lib.decDigits n).toArray⟩
theorem decS_small {n : Nat} (h : n < 10) : decS n = dig1 n := by
  rw [decS, Lib.decDigits, dif_pos h]
  have : ∀ n, n < 10 → (⟨([UInt8.ofNat (48 + n)] : List UInt8).toArray⟩ : ByteArray) = dig1 (n : Int) := of_decide_eq_true (by kernel_rfl)
  exact this n h
theorem decS_big {n : Nat} (h : ¬ n < 10) : decS n = decS (n / 10) ++ dig1 ((n % 10 : Nat) : Int) := by
  have hs := decS_small (n := n % 10) (by omega)
  rw [← hs, decS, Lib.decDigits, dif_neg h, decS, decS, Lib.decDigits.eq_1 (n % 10), dif_pos (by omega)]
  apply ByteArray.ext
  simp
theorem decS_size : ∀ (k n : Nat), n < 10 ^ (k + 1) → (decS n).size ≤ k + 1
  | 0, n, h => by rw [decS_small (by simpa using h)]; exact Nat.le_refl _
  | k + 1, n, h => by
    by_cases h1 : n < 10
    · rw [decS_small h1]; show 1 ≤ k + 1 + 1; omega
    · rw [decS_big h1, ByteArray.size_append]
      have := decS_size k (n / 10) (by rw [Nat.pow_succ] at h; omega)
      have h2 : (dig1 ((n % 10 : Nat) : Int)).size = 1 := rfl
      omega
theorem dec_small {n : Nat} (h : n ≤ 1000000000000) : (decS n).size ≤ 13 := decS_size 12 n (by omega)
theorem dig_conv (P : Program) (u : World) {g : Nat} {x : Int} {tb t8 ts : TypeId} (hb : P.underlying tb = some (.slice t8)) (h8 : P.underlying t8 = some (.int .u8)) (hs : P.underlying ts = some .string) (h : u.cell? ⟨g, 0, none⟩ = some (.int .u8 (48 + x))) :
    (convert tb ts (.slice (some ⟨g, 0, none⟩) 1 1)).run P u = .ok (.string (dig1 x)) u := by
  have := run_convert_bytes_arg (P := P) u tb t8 hb h8 g 0 1 1 [48 + x] rfl (fun i hi => by
    obtain rfl : i = 0 := by omega
    exact h) ts hs
  exact this
set_option maxHeartbeats 2000000 in
set_option maxRecDepth 100000 in
theorem spec_l1Num : ∀ (k n : Nat) (w : World), n ≤ k → n ≤ 1000000000000 →
    Calls Tryd.prog 27 #[.int .i64 (n : Int)] w fun e w' => e = .returned (.string (decS n)) ∧ Below w.heap.size w w' := by
  intro k
  induction k with
  | zero =>
    intro n w hn _
    obtain rfl : n = 0 := by omega
    rw [decS_small (by decide)]
    exact spec_l1Num_1 (by decide) (by decide)
  | succ k ih =>
    intro n w hn hz
    by_cases h10 : n < 10
    · rw [decS_small h10]
      exact spec_l1Num_1 (by omega) (by omega)
    · have hI : ¬ (n : Int) < 10 := by omega
      obtain ⟨d, hd⟩ : ∃ d : Nat, d = n % 10 := ⟨_, rfl⟩
      obtain ⟨q, hq⟩ : ∃ q : Nat, q = n / 10 := ⟨_, rfl⟩
      have HE := Lib.hid (show decS n = decS q ++ dig1 (d : Int) by rw [decS_big h10, hd, hq])
      have hd9 : d ≤ 9 := by omega
      have hq1 : IntKind.i64.wrap (Int.tdiv (n : Int) 10) = (q : Int) := by rw [Int.tdiv_eq_ediv_of_nonneg (by omega), wrap_id (by omega)]; omega
      have hq2 : IntKind.i64.wrap ((n : Int) / 10) = (q : Int) := by rw [wrap_id (by omega)]; omega
      have hm1 : (n : Int).tmod 10 = (d : Int) := by rw [Int.tmod_eq_emod_of_nonneg (by omega)]; omega
      have hm2 : (n : Int) % 10 = (d : Int) := by omega
      have hw1 : IntKind.i64.wrap (48 + (d : Int)) = 48 + (d : Int) := wrap_id (by omega)
      have hw2 : IntKind.u8.wrap (48 + (d : Int)) = 48 + (d : Int) := by rw [IntKind.wrap_u8]; omega
      have IH := Lib.hid (fun (u : World) => ih q u (by omega) (by omega))
      have hz1 : (decS q).size ≤ 13 := dec_small (by omega)
      have hz2 : (dig1 (d : Int)).size = 1 := rfl
      have hzc : ¬ 9223372036854775807 < (decS q).size + 1 := by omega
      clear hd hq ih
      go_in
      go_wp2
      -- region
      have CD : Below w.heap.size w w.drew := (Below.refl _ _).drew
      refine wp_region_held_drew (S := fun _ => True) (by kernel_rfl) trivial (fun hHeld => ?_)
      refine wpAnyH_take (i := 0) (oi := { dst := some 10, op := _, type := _, pos := _, after := _, guard := _ }) (v := ?_) rfl (by kernel_rfl) (by kernel_rfl) (by kernel_rfl) (fun _ _ _ h => h) (Or.inl ⟨by rfl, ?_⟩) (by assumption) ?_
      rotate_left
      · (intro w hSw; (try dsimp only at hSw); go_simp) <;> with_reducible rfl
      try simp only [Act.put, List.setIfInBounds_toArray, List.set_cons_zero, List.set_cons_succ]
      refine wpAnyH_take (i := 1) (oi := { dst := some 11, op := _, type := _, pos := _, after := _, guard := _ }) (v := ?_) rfl (by kernel_rfl) (by kernel_rfl) (by kernel_rfl) (fun _ _ _ h => h) (Or.inl ⟨by rfl, ?_⟩) (by assumption) ?_
      rotate_left
      · (intro w hSw; (try dsimp only at hSw); go_simp) <;> with_reducible rfl
      try simp only [Act.put, List.setIfInBounds_toArray, List.set_cons_zero, List.set_cons_succ]
      refine wpAnyH_take (i := 3) (oi := { dst := some 13, op := _, type := _, pos := _, after := _, guard := _ }) (v := ?_) rfl (by kernel_rfl) (by kernel_rfl) (by kernel_rfl) (fun _ _ _ h => h) (Or.inl ⟨by rfl, ?_⟩) (by assumption) ?_
      rotate_left
      · (intro w hSw; (try dsimp only at hSw); go_simp) <;> with_reducible rfl
      try simp only [Act.put, List.setIfInBounds_toArray, List.set_cons_zero, List.set_cons_succ]
      refine wpAnyH_take (i := 4) (oi := { dst := some 14, op := _, type := _, pos := _, after := _, guard := _ }) (v := ?_) rfl (by kernel_rfl) (by kernel_rfl) (by kernel_rfl) (fun _ _ _ h => h) (Or.inl ⟨by rfl, ?_⟩) (by assumption) ?_
      rotate_left
      · (intro w hSw; (try dsimp only at hSw); go_simp) <;> with_reducible rfl
      try simp only [Act.put, List.setIfInBounds_toArray, List.set_cons_zero, List.set_cons_succ]
      refine wpAnyH_take (i := 5) (oi := { dst := some 15, op := _, type := _, pos := _, after := _, guard := _ }) (v := ?_) rfl (by kernel_rfl) (by kernel_rfl) (by kernel_rfl) (fun _ _ _ h => h) (Or.inl ⟨by rfl, ?_⟩) (by assumption) ?_
      rotate_left
      · (intro w hSw; (try dsimp only at hSw); go_simp) <;> with_reducible rfl
      try simp only [Act.put, List.setIfInBounds_toArray, List.set_cons_zero, List.set_cons_succ]
      refine wpAnyH_take (i := 6) (oi := { dst := some 16, op := _, type := _, pos := _, after := _, guard := _ }) (v := ?_) rfl (by kernel_rfl) (by kernel_rfl) (by kernel_rfl) (fun _ _ _ h => h) (Or.inl ⟨by rfl, ?_⟩) (by assumption) ?_
      rotate_left
      · (intro w hSw; (try dsimp only at hSw); go_simp) <;> with_reducible rfl
      try simp only [Act.put, List.setIfInBounds_toArray, List.set_cons_zero, List.set_cons_succ]
      generalize w.drew = wd at CD hHeld ⊢
      refine wpAnyH_ready (rs := [2, 7]) (by kernel_rfl) (by simp) ?_
      refine AllReadyH.cons (o := _) rfl (fun K hK => ?_) (AllReadyH.cons (o := _) rfl (fun K hK => ?_) AllReadyH.nil)
      · go_simp
        refine (IH.out _).mono ?_; rintro e w1 ⟨rfl, hbw1⟩
        have Cw1 := (CD).trans (hbw1.mono (CD).size)
        try go_wp2_with fail
        refine hK.out _ _ trivial (fun hHeld => ?_)
        clear hK K
        try simp only [Act.put, List.setIfInBounds_toArray, List.set_cons_zero, List.set_cons_succ]
        refine wpAnyH_ready (rs := [7]) (by kernel_rfl) (by simp) ?_
        refine AllReadyH.cons (o := _) rfl (fun K hK => ?_) AllReadyH.nil
        go_simp
        refine hK.out _ _ trivial (fun hHeld => ?_)
        clear hK K
        try simp only [Act.put, List.setIfInBounds_toArray, List.set_cons_zero, List.set_cons_succ]
        have cv := dig_conv Tryd.prog (w1.alloc (.cells #[.int .u8 (48 + (d : Int))] 5)) (g := w1.heap.size) (x := (d : Int)) Tryd.underlying55 Tryd.underlying5 Tryd.underlying9 (Box.new w1 [.int .u8 (48 + (d : Int))] 5 0 _ rfl)
        refine wpAnyH_ready (rs := [8]) (by kernel_rfl) (by simp) ?_
        refine AllReadyH.cons (o := _) rfl (fun K hK => ?_) AllReadyH.nil
        go_simp
        refine hK.out _ _ trivial (fun hHeld => ?_)
        clear hK K
        try simp only [Act.put, List.setIfInBounds_toArray, List.set_cons_zero, List.set_cons_succ]
        refine wpAnyH_take (i := 9) (oi := { dst := some 19, op := _, type := _, pos := _, after := _, guard := _ }) (v := ?_) rfl (by kernel_rfl) (by kernel_rfl) (by kernel_rfl) (fun _ _ _ h => h) (Or.inl ⟨by rfl, ?_⟩) (by assumption) ?_
        rotate_left
        · (intro w hSw; (try dsimp only at hSw); go_simp) <;> with_reducible rfl
        try simp only [Act.put, List.setIfInBounds_toArray, List.set_cons_zero, List.set_cons_succ]
        refine wpAnyH_take (i := 10) (oi := { dst := some 2, op := _, type := _, pos := _, after := _, guard := _ }) (v := ?_) rfl (by kernel_rfl) (by kernel_rfl) (by kernel_rfl) (fun _ _ _ h => h) (Or.inl ⟨by rfl, ?_⟩) (by assumption) ?_
        rotate_left
        · (intro w hSw; (try dsimp only at hSw); go_simp) <;> with_reducible rfl
        try simp only [Act.put, List.setIfInBounds_toArray, List.set_cons_zero, List.set_cons_succ]
        refine wpAnyH_done (by kernel_rfl) ?_ _
        try simp only [Act.put, List.setIfInBounds_toArray, List.set_cons_zero, List.set_cons_succ]
        go_wp2
        go_ret
        rw [HE.out]
        exact ⟨rfl, Cw1.alloc Cw1.size _⟩
      · have CB := CD.alloc CD.size (.cells #[.int .u8 (48 + (d : Int))] 5)
        have cx : ∀ u : World, Below (wd.alloc (.cells #[.int .u8 (48 + (d : Int))] 5)).heap.size (wd.alloc (.cells #[.int .u8 (48 + (d : Int))] 5)) u → (convert 55 9 (.slice (some ⟨wd.heap.size, 0, none⟩) 1 1)).run Tryd.prog u = .ok (.string (dig1 (d : Int))) u := fun u hu => dig_conv Tryd.prog u (g := wd.heap.size) (x := (d : Int)) Tryd.underlying55 Tryd.underlying5 Tryd.underlying9 ((hu.cell (p := ⟨wd.heap.size, 0, none⟩) (by simp)).trans (Box.new wd [.int .u8 (48 + (d : Int))] 5 0 _ rfl))
        have CX := Lib.hid cx
        clear cx
        go_simp
        refine hK.out _ _ trivial (fun hHeld => ?_)
        clear hK K
        try simp only [Act.put, List.setIfInBounds_toArray, List.set_cons_zero, List.set_cons_succ]
        refine wpAnyH_ready (rs := [2, 8]) (by kernel_rfl) (by simp) ?_
        refine AllReadyH.cons (o := _) rfl (fun K hK => ?_) (AllReadyH.cons (o := _) rfl (fun K hK => ?_) AllReadyH.nil)
        · go_simp
          refine (IH.out _).mono ?_; rintro e w1 ⟨rfl, hbw1⟩
          have Cw1 := (CB).trans (hbw1.mono (CB).size)
          try go_wp2_with fail
          refine hK.out _ _ trivial (fun hHeld => ?_)
          clear hK K
          try simp only [Act.put, List.setIfInBounds_toArray, List.set_cons_zero, List.set_cons_succ]
          have cv := CX.out _ hbw1
          refine wpAnyH_ready (rs := [8]) (by kernel_rfl) (by simp) ?_
          refine AllReadyH.cons (o := _) rfl (fun K hK => ?_) AllReadyH.nil
          go_simp
          refine hK.out _ _ trivial (fun hHeld => ?_)
          clear hK K
          try simp only [Act.put, List.setIfInBounds_toArray, List.set_cons_zero, List.set_cons_succ]
          refine wpAnyH_take (i := 9) (oi := { dst := some 19, op := _, type := _, pos := _, after := _, guard := _ }) (v := ?_) rfl (by kernel_rfl) (by kernel_rfl) (by kernel_rfl) (fun _ _ _ h => h) (Or.inl ⟨by rfl, ?_⟩) (by assumption) ?_
          rotate_left
          · (intro w hSw; (try dsimp only at hSw); go_simp) <;> with_reducible rfl
          try simp only [Act.put, List.setIfInBounds_toArray, List.set_cons_zero, List.set_cons_succ]
          refine wpAnyH_take (i := 10) (oi := { dst := some 2, op := _, type := _, pos := _, after := _, guard := _ }) (v := ?_) rfl (by kernel_rfl) (by kernel_rfl) (by kernel_rfl) (fun _ _ _ h => h) (Or.inl ⟨by rfl, ?_⟩) (by assumption) ?_
          rotate_left
          · (intro w hSw; (try dsimp only at hSw); go_simp) <;> with_reducible rfl
          try simp only [Act.put, List.setIfInBounds_toArray, List.set_cons_zero, List.set_cons_succ]
          refine wpAnyH_done (by kernel_rfl) ?_ _
          try simp only [Act.put, List.setIfInBounds_toArray, List.set_cons_zero, List.set_cons_succ]
          go_wp2
          go_ret
          rw [HE.out]
          exact ⟨rfl, Cw1⟩
        · have cv := CX.out _ (Below.refl _ _)
          go_simp
          refine hK.out _ _ trivial (fun hHeld => ?_)
          clear hK K
          try simp only [Act.put, List.setIfInBounds_toArray, List.set_cons_zero, List.set_cons_succ]
          clear cv
          refine wpAnyH_ready (rs := [2]) (by kernel_rfl) (by simp) ?_
          refine AllReadyH.cons (o := _) rfl (fun K hK => ?_) AllReadyH.nil
          go_simp
          refine (IH.out _).mono ?_; rintro e w1 ⟨rfl, hbw1⟩
          have Cw1 := (CB).trans (hbw1.mono (CB).size)
          try go_wp2_with fail
          refine hK.out _ _ trivial (fun hHeld => ?_)
          clear hK K
          try simp only [Act.put, List.setIfInBounds_toArray, List.set_cons_zero, List.set_cons_succ]
          refine wpAnyH_take (i := 9) (oi := { dst := some 19, op := _, type := _, pos := _, after := _, guard := _ }) (v := ?_) rfl (by kernel_rfl) (by kernel_rfl) (by kernel_rfl) (fun _ _ _ h => h) (Or.inl ⟨by rfl, ?_⟩) (by assumption) ?_
          rotate_left
          · (intro w hSw; (try dsimp only at hSw); go_simp) <;> with_reducible rfl
          try simp only [Act.put, List.setIfInBounds_toArray, List.set_cons_zero, List.set_cons_succ]
          refine wpAnyH_take (i := 10) (oi := { dst := some 2, op := _, type := _, pos := _, after := _, guard := _ }) (v := ?_) rfl (by kernel_rfl) (by kernel_rfl) (by kernel_rfl) (fun _ _ _ h => h) (Or.inl ⟨by rfl, ?_⟩) (by assumption) ?_
          rotate_left
          · (intro w hSw; (try dsimp only at hSw); go_simp) <;> with_reducible rfl
          try simp only [Act.put, List.setIfInBounds_toArray, List.set_cons_zero, List.set_cons_succ]
          refine wpAnyH_done (by kernel_rfl) ?_ _
          try simp only [Act.put, List.setIfInBounds_toArray, List.set_cons_zero, List.set_cons_succ]
          go_wp2
          go_ret
          rw [HE.out]
          exact ⟨rfl, Cw1⟩
end Go.Proofs.YtoheahbkopbmhaaDoor
