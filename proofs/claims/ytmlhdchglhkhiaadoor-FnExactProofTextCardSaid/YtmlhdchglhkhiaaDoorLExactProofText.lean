/- For all arguments FnExactProofText answers true and every argument reads afterwards as it did. Its listed package-level variables are tied to the program's text (a tied card). -/
import Derived.Test.YtmlhdchglhkhiaaDoorFrame
import Derived.Test.YtmlhdchglhkhiaaDoorTie
import Derived.Test.YtmlhdchglhkhiaaDoorCards
import Derived.LaidMore
import Derived.Stop.Joined
import Derived.Test.YtmlhdchglhkhiaaDoorKExactProofText
namespace Go.Proofs.YtmlhdchglhkhiaaDoor
set_option linter.unusedVariables false
set_option linter.unusedSimpArgs false
open Go.ChangeShapes Go.WideShapes Go.ChangeAt Go.RowKit Go.Deep Go.Joins
open Go.ChangeMaps (open_string)
namespace LExactProofText
theorem cellslaws_Proof : Tryd.prog.cellsOf 42 = 2 := by kernel_rfl
theorem cellsstring : Tryd.prog.cellsOf 9 = 1 := by kernel_rfl
set_option maxRecDepth 100000 in
/-- The door's own heap meets the condition. -/
theorem door_met (os : Os) (args : Array Value) : laidMetH Tryd.prog Rows.fnExactProofTextRow.laid ((World.doorLaid Tryd.prog 34 os).forCall (fun _ _ => 0) ⟨#[], args, []⟩).memory :=
  laidMetH_of_parts3 (fuel := 8) (laidMet_of_run' 8 (by kernel_rfl) (by kernel_rfl)) (by kernel_rfl) (by kernel_rfl)
set_option maxRecDepth 100000 in
theorem lifted (os : Os) (started : os.Started) (H : Type) (enc : TypeId × Value → H) :
    ReturnsInHanded {} Tryd.checked os 6 .any (fun w args => (Rows.fnExactProofTextSpec.pre enc Tryd.prog Tryd.f6 [] false w args ∧ laidMetH Tryd.prog Rows.fnExactProofTextRow.laid w) ∧ sizedMet enc Tryd.prog Tryd.f6 (OpenSpec.ofChange Rows.fnExactProofTextSpec) false w args)
      (Rows.fnExactProofTextSpec.post enc Tryd.prog Tryd.f6 false true false false) := by
  refine returnsInHanded_of_change_and (C := Tryd.checked) (X := fun w _ => laidMetH Tryd.prog Rows.fnExactProofTextRow.laid w) (fun _ _ _ hh h => h.of_heap hh) Tryd.own started (by kernel_rfl) Tryd.func6
    (ChangeSpec.witness_shaped (enc := enc) (C := Tryd.checked) (os := os) (X := fun w _ => laidMetH Tryd.prog Rows.fnExactProofTextRow.laid w) false (World.doorLaid Tryd.prog 34 os) #[.agg #[.slice none 0 0, .slice none 0 0]] 8 rfl (World.shaped_of_RefB (by kernel_rfl) (by kernel_rfl)) (by kernel_rfl) (by kernel_rfl) (by kernel_rfl) (door_met os _)) ?_
  intro W base args ds gs before hval0 hW _ _ hL _
  have hval : ∀ (j : Nat) t v, Tryd.f6.params[j]? = some t → args[j]? = some v → Value.okWide Tryd.prog W .any base t v := hval0
  have hW' := hW
  obtain ⟨p, q, hA0, hV, rfl, _, _⟩ := hW
  have hA : DataW.TrodAll enc Tryd.prog W 0 (fun _ => true) true Tryd.f6.params.toList args.toList ds p := hA0
  rw [Tryd.params6] at hA hval
  obtain ⟨v0, vs0, d0, ds0, p0, q0, hargs, rfl, rfl, h0, r0⟩ := trodAll_cons hA
  obtain ⟨rfl, rfl, rfl⟩ := trodAll_nil r0
  obtain rfl : args = #[v0] := by cases args; simp_all
  obtain ⟨c0_0, c0_1, y0_0, y0_1, m0, ev0_, _, _, g0_0, g0_1⟩ := open_agg2 Tryd.underlying42 (by kernel_rfl) cellslaws_Proof (hval 0 42 v0 rfl rfl) h0
  subst ev0_
  obtain ⟨A1, c1, l1, ev1, hc1, hm1, hl1, hb1⟩ := in_strs Tryd.underlying30 Tryd.underlying9 cellsstring g0_0
  simp only [List.cons.injEq, and_true] at ev1
  subst ev1
  obtain ⟨A2, c2, l2, ev2, hc2, hm2, hl2, hb2⟩ := in_line g0_1
  simp only [List.cons.injEq, and_true] at ev2
  subst ev2
  refine (law_ProofText A1 c1 l1 A2 c2 l2 W hl1 (lenOk hc1 hm1) hb1 hl2 (lenOk hc2 hm2) hb2).mono fun e W' ⟨he, hb⟩ => ?_
  subst he
  refine ⟨_, rfl, law_post Tryd.laidOut hW' rfl rfl Tryd.underlying4 ?_ ?_ hb⟩
  · rw [Tryd.params6]
    intro t ht
    simp only [List.mem_cons, List.not_mem_nil, or_false] at ht
    rcases ht with rfl
    all_goals exact ⟨by kernel_rfl, of_decide_eq_true (by kernel_rfl)⟩
  · intro ds' hds'
    rw [Tryd.params6] at hds'
    match ds', hds' with
    | [z0], _ => rfl
theorem said : Rows.FnExactProofTextSaid :=
  OpenClaim.holds_of_wide 6 Tryd.f6 rfl rfl rfl rfl rfl rfl rfl ⟨rfl, rfl, rfl, rfl, rfl⟩ rfl rfl rfl rfl rfl (by kernel_rfl) Tryd.func6 (by kernel_rfl)
    (of_decide_eq_true (by kernel_rfl)) (by unfold Func.isWrapper; first | (rw [if_pos (by decide +kernel)]; kernel_rfl) | (rw [if_neg (by decide +kernel)]; exact ⟨rfl, rfl⟩))
    (fun os started H enc _ => lifted os started H enc)
theorem holds : Rows.FnExactProofTextCardSaid :=
  Claim7.holds_tied_plain_at .later [] _ true _ false
    said (fun _ h => by cases h) (by kernel_rfl) (fun _ h => by cases h) fnExactProofText_row_tie rfl ⟨rfl, rfl⟩ (by kernel_rfl) rfl
    (fun f fn hf hfn => by
      obtain rfl : f = 6 := Option.some.inj ((show Tryd.prog.funcNamed "loop.example/g00894/laws.FnExactProofText" = some 6 by kernel_rfl).symm.trans hf) |>.symm
      obtain rfl : fn = Tryd.f6 := (Option.some.inj (Tryd.func6.symm.trans hfn)).symm
      exact ⟨by kernel_rfl, fun j t ht => by
        rw [Tryd.params6] at ht
        have hm : t ∈ [42] := by simpa using Array.mem_of_getElem? ht
        have hall : ([42].all fun u => !Tryd.prog.wantsStandIn u) = true := by kernel_rfl
        exact (show Tryd.prog.wantsStandIn t = false by simpa using List.all_eq_true.1 hall t hm)⟩)
    (by kernel_rfl)
end LExactProofText
end Go.Proofs.YtmlhdchglhkhiaaDoor

