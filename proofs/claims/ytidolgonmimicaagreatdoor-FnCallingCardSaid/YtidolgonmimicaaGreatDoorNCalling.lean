/- For all arguments FnCalling answers true and every argument reads afterwards as it did. Its listed package-level variables are tied to the program's text (a tied card). -/
import Derived.Test.YtidolgonmimicaaGreatDoorMCalling6
import Derived.Test.YtidolgonmimicaaGreatDoorTie
import Derived.Test.YtidolgonmimicaaGreatDoorCards
import Derived.LaidMore
import Derived.Stop.Joined
namespace Go.Proofs.YtidolgonmimicaaGreatDoor
set_option linter.unusedVariables false
set_option linter.unusedSimpArgs false
open Go.ChangeShapes Go.WideShapes Go.ChangeAt Go.RowKit Go.Deep Go.Joins
open Go.ChangeMaps (open_string)
namespace LCalling
theorem cellsuint8 : Tryz.prog.cellsOf 5 = 1 := by kernel_rfl
set_option maxRecDepth 100000 in
theorem lifted (os : Os) (started : os.Started) (H : Type) (enc : TypeId × Value → H) :
    ReturnsInHanded {} Tryz.checked os 3 .any (fun w args => (Rows.fnCallingSpec.pre enc Tryz.prog Tryz.f3 [] false w args ∧ laidMetH Tryz.prog Rows.fnCallingRow.laid w) ∧ sizedMet enc Tryz.prog Tryz.f3 (OpenSpec.ofChange Rows.fnCallingSpec) false w args)
      (Rows.fnCallingSpec.post enc Tryz.prog Tryz.f3 false true false false) := by
  refine returnsInHanded_of_change_and_shaped (C := Tryz.checked) (X := fun w _ => laidMetH Tryz.prog Rows.fnCallingRow.laid w) (fun _ _ _ hh h => h.of_heap hh) Tryz.own started (by kernel_rfl) Tryz.func3
    (ChangeSpec.witness_shaped (enc := enc) (C := Tryz.checked) (os := os) (X := fun w _ => laidMetH Tryz.prog Rows.fnCallingRow.laid w) false (pinLaid os) #[.slice none 0 0, .slice none 0 0] 8 rfl (World.shaped_of_RefB (by kernel_rfl) (by kernel_rfl)) (by kernel_rfl) (by kernel_rfl) (by kernel_rfl) (pin_met os _)) ?_
  intro W base args ds gs before hval0 hW _ _ hL hSh _
  obtain ⟨mx, hmx⟩ := maxLen_cell hSh
  have hmw : 0 < W.heap.size := cell_lt hmx
  have hval : ∀ (j : Nat) t v, Tryz.f3.params[j]? = some t → args[j]? = some v → Value.okWide Tryz.prog W .any base t v := hval0
  have hW' := hW
  obtain ⟨p, q, hA0, hV, rfl, _, _⟩ := hW
  have hA : DataW.TrodAll enc Tryz.prog W 0 (fun _ => true) true Tryz.f3.params.toList args.toList ds p := hA0
  rw [Tryz.params3] at hA hval
  obtain ⟨v0, vs0, d0, ds0, p0, q0, hargs, rfl, rfl, h0, r0⟩ := trodAll_cons hA
  obtain ⟨v1, vs1, d1, ds1, p1, q1, rfl, rfl, rfl, h1, r1⟩ := trodAll_cons r0
  obtain ⟨rfl, rfl, rfl⟩ := trodAll_nil r1
  obtain rfl : args = #[v0, v1] := by cases args; simp_all
  obtain ⟨a0_, n0_, b0_, ev0_⟩ := okWide_slice Tryz.underlying22 (hval 0 22 v0 rfl rfl)
  subst ev0_
  obtain ⟨fu0, g0⟩ := h0
  have g0' : DataW.trod enc Tryz.prog W 0 (fun _ => true) true fu0 22 [Value.slice a0_ n0_ b0_] = some (d0, p0) := by simpa [Value.cells] using g0
  obtain ⟨A1, c1, l1, ev1, hc1, hm1, hl1, hb1⟩ := in_bytes Tryz.underlying22 Tryz.underlying5 cellsuint8 g0'
  have ew0 : Value.slice a0_ n0_ b0_ = Value.slice A1 l1.length c1 := by simpa using ev1
  clear ev1
  injection ew0 with e1 e2 e3
  subst e2
  have e1 := e1.symm
  have e3 := e3.symm
  subst e1 e3
  obtain ⟨a1_, n1_, b1_, ev1_⟩ := okWide_slice Tryz.underlying22 (hval 1 22 v1 rfl rfl)
  subst ev1_
  obtain ⟨fu1, g1⟩ := h1
  have g1' : DataW.trod enc Tryz.prog W 0 (fun _ => true) true fu1 22 [Value.slice a1_ n1_ b1_] = some (d1, p1) := by simpa [Value.cells] using g1
  obtain ⟨A2, c2, l2, ev2, hc2, hm2, hl2, hb2⟩ := in_bytes Tryz.underlying22 Tryz.underlying5 cellsuint8 g1'
  have ew1 : Value.slice a1_ n1_ b1_ = Value.slice A2 l2.length c2 := by simpa using ev2
  clear ev2
  injection ew1 with e1 e2 e3
  subst e2
  have e1 := e1.symm
  have e3 := e3.symm
  subst e1 e3
  refine (law_Calling A1 c1 l1 A2 c2 l2 W hl1 (lenOk hc1 hm1) hb1 hl2 (lenOk hc2 hm2) hb2 mx hmx hmw).mono fun e W' ⟨he, hb⟩ => ?_
  subst he
  refine ⟨_, rfl, law_post Tryz.laidOut hW' rfl rfl Tryz.underlying4 ?_ ?_ hb⟩
  · rw [Tryz.params3]
    intro t ht
    simp only [List.mem_cons, List.not_mem_nil, or_false] at ht
    rcases ht with rfl | rfl
    all_goals exact ⟨by kernel_rfl, of_decide_eq_true (by kernel_rfl)⟩
  · intro ds' hds'
    rw [Tryz.params3] at hds'
    match ds', hds' with
    | [z0, z1], _ => rfl
theorem said : Rows.FnCallingSaid :=
  OpenClaim.holds_of_wide 3 Tryz.f3 rfl rfl rfl rfl rfl rfl rfl ⟨rfl, rfl, rfl, rfl, rfl⟩ rfl rfl rfl rfl rfl (by kernel_rfl) Tryz.func3 (by kernel_rfl)
    (of_decide_eq_true (by kernel_rfl)) (by unfold Func.isWrapper; first | (rw [if_pos (by decide +kernel)]; kernel_rfl) | (rw [if_neg (by decide +kernel)]; exact ⟨rfl, rfl⟩))
    (fun os started H enc _ => lifted os started H enc)
theorem holds : Rows.FnCallingCardSaid :=
  Claim7.holds_tied_plain_at .later [] _ true _ false
    said (fun _ h => by cases h) (by kernel_rfl) (fun _ h => by cases h) fnCalling_row_tie rfl ⟨rfl, rfl⟩ (by kernel_rfl) rfl
    (fun f fn hf hfn => by
      obtain rfl : f = 3 := Option.some.inj ((show Tryz.prog.funcNamed "loop.example/g00894/laws.FnCalling" = some 3 by kernel_rfl).symm.trans hf) |>.symm
      obtain rfl : fn = Tryz.f3 := (Option.some.inj (Tryz.func3.symm.trans hfn)).symm
      exact ⟨by kernel_rfl, fun j t ht => by
        rw [Tryz.params3] at ht
        have hm : t ∈ [22, 22] := by simpa using Array.mem_of_getElem? ht
        have hall : ([22, 22].all fun u => !Tryz.prog.wantsStandIn u) = true := by kernel_rfl
        exact (show Tryz.prog.wantsStandIn t = false by simpa using List.all_eq_true.1 hall t hm)⟩)
    (by kernel_rfl)
end LCalling
end Go.Proofs.YtidolgonmimicaaGreatDoor

