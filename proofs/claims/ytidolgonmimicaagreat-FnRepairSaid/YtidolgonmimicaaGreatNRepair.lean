/- For all arguments FnRepair answers true and every argument reads afterwards as it did. No condition. -/
import Derived.Test.YtidolgonmimicaaGreatMRepair6
namespace Go.Proofs.YtidolgonmimicaaGreat
set_option linter.unusedVariables false
set_option linter.unusedSimpArgs false
open Go.ChangeShapes Go.WideShapes Go.ChangeAt Go.RowKit Go.Deep Go.Joins
open Go.ChangeMaps (open_string)
namespace LRepair
theorem cellsuint8 : Tryz.prog.cellsOf 5 = 1 := by kernel_rfl
set_option maxRecDepth 100000 in
theorem lifted (os : Os) (started : os.Started) (H : Type) (enc : TypeId × Value → H) :
    ReturnsInHanded {} Tryz.checked os 7 .any (Rows.fnRepairSpec.pre6 enc Tryz.prog Tryz.f7 Rows.fnRepairRow.domain false) (Rows.fnRepairSpec.post enc Tryz.prog Tryz.f7 false true false false) := by
  refine returnsInHanded_of_change (C := Tryz.checked) Tryz.own started (by kernel_rfl) Tryz.func7
    (ChangeSpec.witness6 (enc := enc) (C := Tryz.checked) false ⟨#[], #[.slice none 0 0, .slice none 0 0], []⟩ 8 (by kernel_rfl) (by kernel_rfl) (by kernel_rfl) (by kernel_rfl)) ?_
  intro W base args ds gs before hval0 hW _ _
  have hval : ∀ (j : Nat) t v, Tryz.f7.params[j]? = some t → args[j]? = some v → Value.okWide Tryz.prog W .any base t v := hval0
  have hW' := hW
  obtain ⟨p, q, hA0, hV, rfl, _, _⟩ := hW
  have hA : DataW.TrodAll enc Tryz.prog W 0 (fun _ => true) true Tryz.f7.params.toList args.toList ds p := hA0
  rw [Tryz.params7] at hA hval
  obtain ⟨v0, vs0, d0, ds0, p0, q0, hargs, rfl, rfl, h0, r0⟩ := trodAll_cons hA
  obtain ⟨v1, vs1, d1, ds1, p1, q1, rfl, rfl, rfl, h1, r1⟩ := trodAll_cons r0
  obtain ⟨rfl, rfl, rfl⟩ := trodAll_nil r1
  obtain rfl : args = #[v0, v1] := by cases args; simp_all
  obtain ⟨a0_, n0_, b0_, ev0_⟩ := okWide_slice Tryz.underlying22 (hval 0 22 v0 rfl rfl)
  subst ev0_
  obtain ⟨fu0, g0⟩ := h0
  have g0' : DataW.trod enc Tryz.prog W 0 (fun _ => true) true fu0 22 [Value.slice a0_ n0_ b0_] = some (d0, p0) := by simpa [Value.cells] using g0
  obtain ⟨A1, c1, l1, ev1, hc1, hm1, hl1, hb1⟩ := in_bytes Tryz.underlying22 Tryz.underlying5 cellsuint8 g0'
  have ew0 : Value.slice a0_ n0_ b0_ = Value.slice A1 l1.length c1 := by simpa using ev1
  clear ev1
  injection ew0 with e1 e2 e3
  subst e2
  have e1 := e1.symm
  have e3 := e3.symm
  subst e1 e3
  obtain ⟨a1_, n1_, b1_, ev1_⟩ := okWide_slice Tryz.underlying22 (hval 1 22 v1 rfl rfl)
  subst ev1_
  obtain ⟨fu1, g1⟩ := h1
  have g1' : DataW.trod enc Tryz.prog W 0 (fun _ => true) true fu1 22 [Value.slice a1_ n1_ b1_] = some (d1, p1) := by simpa [Value.cells] using g1
  obtain ⟨A2, c2, l2, ev2, hc2, hm2, hl2, hb2⟩ := in_bytes Tryz.underlying22 Tryz.underlying5 cellsuint8 g1'
  have ew1 : Value.slice a1_ n1_ b1_ = Value.slice A2 l2.length c2 := by simpa using ev2
  clear ev2
  injection ew1 with e1 e2 e3
  subst e2
  have e1 := e1.symm
  have e3 := e3.symm
  subst e1 e3
  refine (law_Repair A1 c1 l1 A2 c2 l2 W hl1 (lenOk hc1 hm1) hb1 hl2 (lenOk hc2 hm2) hb2).mono fun e W' ⟨he, hb⟩ => ?_
  subst he
  refine ⟨_, rfl, law_post Tryz.laidOut hW' rfl rfl Tryz.underlying4 ?_ ?_ hb⟩
  · rw [Tryz.params7]
    intro t ht
    simp only [List.mem_cons, List.not_mem_nil, or_false] at ht
    rcases ht with rfl | rfl
    all_goals exact ⟨by kernel_rfl, of_decide_eq_true (by kernel_rfl)⟩
  · intro ds' hds'
    rw [Tryz.params7] at hds'
    match ds', hds' with
    | [z0, z1], _ => rfl
theorem holds : Rows.FnRepairSaid :=
  OpenClaim.holds_of_wide 7 Tryz.f7 rfl rfl rfl rfl rfl rfl rfl ⟨rfl, rfl, rfl, rfl, rfl⟩ rfl rfl rfl rfl rfl (by kernel_rfl) Tryz.func7 (by kernel_rfl)
    (of_decide_eq_true (by kernel_rfl)) (by unfold Func.isWrapper; first | (rw [if_pos (by decide +kernel)]; kernel_rfl) | (rw [if_neg (by decide +kernel)]; exact ⟨rfl, rfl⟩))
    (fun os started H enc _ => lifted os started H enc)
end LRepair
end Go.Proofs.YtidolgonmimicaaGreat

