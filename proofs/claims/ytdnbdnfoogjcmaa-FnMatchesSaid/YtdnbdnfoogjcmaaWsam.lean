/- The walks through the laws' own helpers: two lists of ints, two tables, the size of the input. -/
import Derived.Test.YtdnbdnfoogjcmaaW22w
namespace Go.Proofs.Ytdnbdnfoogjcmaa
set_option linter.unusedVariables false
set_option linter.unusedSimpArgs false
open Go.ChangeShapes Go.WideShapes Go.ChangeAt Go.RowKit Go.Deep
theorem laws_big (A B : Option Addr) (n m c d : Nat) (w : World) (hn : n ≤ 9223372036854775807) (hm : m ≤ 9223372036854775807) :
    Calls Try.prog 5 #[.slice A n c, .slice B m d] w fun e w' => e = .returned (.bool (!decide (n + m ≤ 1048576))) ∧ w = w' := by
  by_cases h1 : n ≤ 1048576
  · have hI : ¬ (1048576 : Int) < (n : Int) := by omega
    have hW : IntKind.i64.wrap (1048576 - (n : Int)) = 1048576 - (n : Int) := wrap_id (by omega)
    go_in
    go_wp2
    go_ret
    refine ⟨ret_bool ?_, rfl⟩
    by_cases h2 : n + m ≤ 1048576
    · simp [h2]; omega
    · simp [h2]; omega
  · have hI : (1048576 : Int) < (n : Int) := by omega
    go_in
    go_wp2
    go_ret
    refine ⟨ret_bool ?_, rfl⟩
    have h2 : ¬ n + m ≤ 1048576 := by omega
    simp [h2]
set_option maxRecDepth 100000 in
theorem laws_sameInts {A B : Option Addr} {n c d : Nat} {l : List Int} {w : World} (hn : l.length = n) (h : Ints w A l) (g : Ints w B l) (hz : n ≤ 16777216) :
    Calls Try.prog 13 #[.slice A n c, .slice B n d] w fun e w' => e = .returned (.bool true) ∧ Dr w w' := by
  subst hn
  go_in
  go_wp2
  go_loopw [13] (fun i wr => ∃ k : Nat, k ≤ l.length ∧ i = .int .i64 k ∧ Dr w wr) (fun i _ => l.length - (intOf i).toNat)
  case atStart => exact ⟨0, Nat.zero_le _, rfl, Dr.refl _⟩
  case round =>
    obtain ⟨k, hk, rfl, hb⟩ := hrel
    by_cases hlt : k < l.length
    · obtain ⟨b1, o1, x, rfl, _, hx, hcx⟩ := (h.below hb.below (Nat.le_refl _)).at_int hlt
      obtain ⟨b2, o2, y, rfl, _, hy, hcy⟩ := (g.below hb.below (Nat.le_refl _)).at_int hlt
      rw [hx] at hy
      injection hy with hy
      subst hy
      clear hx h g
      go_wp2
      go_quiet (fail)
      go_wp2
      go_roundw
      case rel => exact ⟨k + 1, by omega, by go_num, hb.drewN _⟩
      case measure => simp [intOf]; omega
    · go_wp2
      go_ret
      exact ⟨rfl, hb⟩
set_option maxRecDepth 100000 in
theorem laws_sameLists {A B : Option Addr} {n c d : Nat} {T : List (List Int)} {vs us : List Hd} {w : World} (hn : T.length = n) (h : TabR vs w A T) (g : TabR us w B T) (hT : ∀ r ∈ T, r.length ≤ 16777216) (hz : n ≤ 16777216) :
    Calls Try.prog 14 #[.slice A n c, .slice B n d] w fun e w' => e = .returned (.bool true) ∧ Dr w w' := by
  subst hn
  have HT := Lib.hid hT
  clear hT
  go_in
  go_wp2
  go_loopw [13] (fun i wr => ∃ k : Nat, k ≤ T.length ∧ i = .int .i64 k ∧ Dr w wr) (fun i _ => T.length - (intOf i).toNat)
  case atStart => exact ⟨0, Nat.zero_le _, rfl, Dr.refl _⟩
  case round =>
    obtain ⟨k, hk, rfl, hb⟩ := hrel
    by_cases hlt : k < T.length
    · obtain ⟨b1, o1, v, r, rfl, _, hr, hc1, hi1⟩ := (h.below hb.below (Nat.le_refl _)).row hlt
      obtain ⟨b2, o2, u, r', rfl, _, hr', hc2, hi2⟩ := (g.below hb.below (Nat.le_refl _)).row hlt
      rw [hr] at hr'
      injection hr' with hr'
      subst hr'
      have hl := HT.out r (List.mem_of_getElem? hr)
      have HI1 := Lib.hid hi1; have HI2 := Lib.hid hi2
      clear hr h g hi1 hi2
      go_wp2
      go_quiet ((go_at_call 13; exact quiet_more (laws_sameInts rfl (HI1.out.up (below_drewN (Below.refl _ _) _)) (HI2.out.up (below_drewN (Below.refl _ _) _)) hl)))
      go_wp2
      go_roundw
      case rel => exact ⟨k + 1, by omega, by go_num, hb.drewN _⟩
      case measure => simp [intOf]; omega
    · go_wp2
      go_ret
      exact ⟨rfl, hb⟩
end Go.Proofs.Ytdnbdnfoogjcmaa
