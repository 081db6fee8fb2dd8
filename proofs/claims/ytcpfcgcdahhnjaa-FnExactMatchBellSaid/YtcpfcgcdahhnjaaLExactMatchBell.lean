/- For all arguments FnExactMatchBell answers true and every argument reads afterwards as it did. No condition. -/
import Derived.Test.YtcpfcgcdahhnjaaFrame
import Derived.Test.YtcpfcgcdahhnjaaKExactMatchBell
namespace Go.Proofs.Ytcpfcgcdahhnjaa
set_option linter.unusedVariables false
set_option linter.unusedSimpArgs false
open Go.ChangeShapes Go.WideShapes Go.ChangeAt Go.RowKit Go.Deep Go.Joins
open Go.ChangeMaps (open_string)
namespace LExactMatchBell
theorem cellslaws_Beat : Try.prog.cellsOf 24 = 3 := by kernel_rfl
theorem cellsstring : Try.prog.cellsOf 9 = 1 := by kernel_rfl
set_option maxRecDepth 100000 in
theorem lifted (os : Os) (started : os.Started) (H : Type) (enc : TypeId × Value → H) :
    ReturnsInHanded {} Try.checked os 10 .any (Rows.fnExactMatchBellSpec.pre6 enc Try.prog Try.f10 Rows.fnExactMatchBellRow.domain false) (Rows.fnExactMatchBellSpec.post enc Try.prog Try.f10 false true false false) := by
  refine returnsInHanded_of_change (C := Try.checked) Try.own started (by kernel_rfl) Try.func10
    (ChangeSpec.witness6 (enc := enc) (C := Try.checked) false ⟨#[], #[.agg #[.int .i64 0, .int .i64 0, .int .i64 0], .slice none 0 0, .slice none 0 0, .int .i64 0, .int .i64 0], []⟩ 8 (by kernel_rfl) (by kernel_rfl) (by kernel_rfl) (by kernel_rfl)) ?_
  intro W base args ds gs before hval0 hW _ _
  have hval : ∀ (j : Nat) t v, Try.f10.params[j]? = some t → args[j]? = some v → Value.okWide Try.prog W .any base t v := hval0
  have hW' := hW
  obtain ⟨p, q, hA0, hV, rfl, _, _⟩ := hW
  have hA : DataW.TrodAll enc Try.prog W 0 (fun _ => true) true Try.f10.params.toList args.toList ds p := hA0
  rw [Try.params10] at hA hval
  obtain ⟨v0, vs0, d0, ds0, p0, q0, hargs, rfl, rfl, h0, r0⟩ := trodAll_cons hA
  obtain ⟨v1, vs1, d1, ds1, p1, q1, rfl, rfl, rfl, h1, r1⟩ := trodAll_cons r0
  obtain ⟨v2, vs2, d2, ds2, p2, q2, rfl, rfl, rfl, h2, r2⟩ := trodAll_cons r1
  obtain ⟨v3, vs3, d3, ds3, p3, q3, rfl, rfl, rfl, h3, r3⟩ := trodAll_cons r2
  obtain ⟨v4, vs4, d4, ds4, p4, q4, rfl, rfl, rfl, h4, r4⟩ := trodAll_cons r3
  obtain ⟨rfl, rfl, rfl⟩ := trodAll_nil r4
  obtain rfl : args = #[v0, v1, v2, v3, v4] := by cases args; simp_all
  obtain ⟨c0_0, c0_1, c0_2, y0_0, y0_1, y0_2, m0, ev0_, _, _, g0_0, g0_1, g0_2⟩ := open_agg3 Try.underlying24 (by kernel_rfl) cellslaws_Beat (hval 0 24 v0 rfl rfl) h0
  subst ev0_
  obtain ⟨x1, ex1, _, wx1⟩ := DataW.trod_int Try.underlying3 g0_0
  simp only [List.cons.injEq, and_true] at ex1
  subst ex1
  obtain ⟨x2, ex2, _, wx2⟩ := DataW.trod_int Try.underlying3 g0_1
  simp only [List.cons.injEq, and_true] at ex2
  subst ex2
  obtain ⟨x3, ex3, _, wx3⟩ := DataW.trod_int Try.underlying3 g0_2
  simp only [List.cons.injEq, and_true] at ex3
  subst ex3
  obtain ⟨a1_, n1_, b1_, ev1_⟩ := okWide_slice Try.underlying60 (hval 1 60 v1 rfl rfl)
  subst ev1_
  obtain ⟨fu1, g1⟩ := h1
  have g1' : DataW.trod enc Try.prog W 0 (fun _ => true) true fu1 60 [Value.slice a1_ n1_ b1_] = some (d1, p1) := by simpa [Value.cells] using g1
  obtain ⟨A4, c4, l4, ev4, hc4, hm4, hl4, hb4⟩ := in_strs Try.underlying60 Try.underlying9 cellsstring g1'
  have ew1 : Value.slice a1_ n1_ b1_ = Value.slice A4 l4.length c4 := by simpa using ev4
  clear ev4
  injection ew1 with e1 e2 e3
  subst e2
  have e1 := e1.symm
  have e3 := e3.symm
  subst e1 e3
  obtain ⟨a2_, n2_, b2_, ev2_⟩ := okWide_slice Try.underlying70 (hval 2 70 v2 rfl rfl)
  subst ev2_
  obtain ⟨fu2, g2⟩ := h2
  have g2' : DataW.trod enc Try.prog W 0 (fun _ => true) true fu2 70 [Value.slice a2_ n2_ b2_] = some (d2, p2) := by simpa [Value.cells] using g2
  obtain ⟨A5, c5, l5, ev5, hc5, hm5, hl5, hb5⟩ := in_strike g2'
  have ew2 : Value.slice a2_ n2_ b2_ = Value.slice A5 l5.length c5 := by simpa using ev5
  clear ev5
  injection ew2 with e1 e2 e3
  subst e2
  have e1 := e1.symm
  have e3 := e3.symm
  subst e1 e3
  obtain ⟨x6, rfl, rfl, rfl, wx6⟩ := open_int Try.underlying3 (hval 3 3 v3 rfl rfl) h3
  obtain ⟨x7, rfl, rfl, rfl, wx7⟩ := open_int Try.underlying3 (hval 4 3 v4 rfl rfl) h4
  refine (law_MatchBell x1 x2 x3 A4 c4 l4 A5 c5 l5 x6 x7 W (bounds_i64 wx1) (bounds_i64 wx2) (bounds_i64 wx3) hl4 (lenOk hc4 hm4) hb4 hl5 (lenOk hc5 hm5) hb5 (bounds_i64 wx6) (bounds_i64 wx7)).mono fun e W' ⟨he, hb⟩ => ?_
  subst he
  refine ⟨_, rfl, law_post Try.laidOut hW' rfl rfl Try.underlying4 ?_ ?_ hb⟩
  · rw [Try.params10]
    intro t ht
    simp only [List.mem_cons, List.not_mem_nil, or_false] at ht
    rcases ht with rfl | rfl | rfl | rfl | rfl
    all_goals exact ⟨by kernel_rfl, of_decide_eq_true (by kernel_rfl)⟩
  · intro ds' hds'
    rw [Try.params10] at hds'
    match ds', hds' with
    | [z0, z1, z2, z3, z4], _ => rfl
theorem holds : Rows.FnExactMatchBellSaid :=
  OpenClaim.holds_of_wide 10 Try.f10 rfl rfl rfl rfl rfl rfl rfl ⟨rfl, rfl, rfl, rfl, rfl⟩ rfl rfl rfl rfl rfl (by kernel_rfl) Try.func10 (by kernel_rfl)
    (of_decide_eq_true (by kernel_rfl)) (by unfold Func.isWrapper; first | (rw [if_pos (by decide +kernel)]; kernel_rfl) | (rw [if_neg (by decide +kernel)]; exact ⟨rfl, rfl⟩))
    (fun os started H enc _ => lifted os started H enc)
end LExactMatchBell
end Go.Proofs.Ytcpfcgcdahhnjaa

