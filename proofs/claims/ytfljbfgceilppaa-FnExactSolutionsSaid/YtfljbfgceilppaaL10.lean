/- FnExactSolutions: whatever puzzle comes in, the law returns true, and the puzzle reads behind the call as it read before. Conditions: none. -/
import Derived.Test.YtfljbfgceilppaaV2
import Derived.Test.YtfljbfgceilppaaV4
import Derived.Test.YtfljbfgceilppaaRows
import Derived.Carry
set_option linter.unusedVariables false
set_option linter.unusedSimpArgs false
set_option linter.unnecessarySimpa false
/- FnExactSolutions: whatever puzzle comes in, the law returns true, and the puzzle reads behind the call as it read before. Conditions: none. -/
set_option autoImplicit false
set_option linter.unusedVariables false
namespace Go.Proofs.Ytfljbfgceilppaa.SolutionsLaw
open Go.Den Go.ChangeShapes Go.WideShapes Go.ChangeAt Go.RowKit
set_option maxRecDepth 100000 in
theorem lifted (os : Os) (started : os.Started) (H : Type) (enc : TypeId × Value → H) :
    ReturnsInHanded {} Try.checked os 10 .any (Rows.fnExactSolutionsSpec.pre6 enc Try.prog Try.f10 Rows.fnExactSolutionsRow.domain false) (Rows.fnExactSolutionsSpec.post enc Try.prog Try.f10 false true false false) := by
  refine returnsInHanded_of_change_sized (C := Try.checked) own started (by kernel_rfl) Try.func10
    (ChangeSpec.witness6 (enc := enc) (C := Try.checked) false ⟨#[], #[.agg #[.int .i64 0, .slice none 0 0]], []⟩ 8 (by kernel_rfl) (by kernel_rfl) (by kernel_rfl) (by kernel_rfl)) ?_
  intro W base args ds gs before hval0 hW hcnd hsz0 _
  have hval : ∀ (j : Nat) t v, Try.f10.params[j]? = some t → args[j]? = some v → Value.okWide Try.prog W .any base t v := hval0
  have hW' := hW
  obtain ⟨p, q, hA0, hV, rfl, hfz, hnd⟩ := hW
  have hA : DataW.TrodAll enc Try.prog W 0 (fun _ => true) true Try.f10.params.toList args.toList ds p := hA0
  rw [Try.params10] at hA hval
  obtain ⟨v0, vs0, d0, ds0, p0, q0, hargs, rfl, rfl, h0, r0⟩ := trodAll_cons hA
  obtain ⟨rfl, rfl, rfl⟩ := trodAll_nil r0
  obtain rfl : args = #[v0] := by cases args; simp_all
  obtain ⟨rfl, rfl⟩ := trodVars_none hV
  have hv := hval 0 43 v0 rfl rfl
  have k0 := h0
  have lt0 : ∀ x ∈ p0, x.block < W.heap.size := by obtain ⟨m, hm⟩ := k0; exact DataW.trod_lt m _ _ _ hm
  obtain ⟨m, hm⟩ := h0
  obtain ⟨vs, ⟨n, v, xs, rfl, hS⟩, hlen, hrc⟩ := o43.2 hm fun _ => lies_of_ok hv
  obtain ⟨cs, rfl⟩ : ∃ cs, v0 = .agg cs := by
    unfold Value.okWide at hv
    rw [Try.underlying43] at hv
    obtain ⟨cs, h, _⟩ := hv; exact ⟨cs, h⟩
  have hR : R Try.prog W .rep (fun k => k < W.heap.size) (pP n v) (.agg cs) := by
    refine .agg (fun _ => 0) (by have := hrc.1; simpa [Value.cells] using this.symm) fun i hi => ?_
    have := hrc.2 i hi
    have e : ((Value.agg cs).cells.toList).getD i undef = cs.getD i undef := by simp [Value.cells, List.getD_eq_getElem?_getD, Array.getD_eq_getD_getElem?]
    rw [e] at this
    exact this
  clear hA0 hval0 hsz0
  refine (lift_core v10 rfl (W := W) (args := [.agg cs]) (pvs := [pP n v]) rfl rfl (fun i p hp => ?_) ⟨n, v, xs, rfl, hS, rfl⟩).mono fun e W' ⟨he, bel⟩ => ?_
  · cases i with
    | zero => simp at hp; subst hp; exact .inl ⟨rfl, hR⟩
    | succ i => simp at hp
  subst he
  exact ⟨_, rfl, _, _, _, [], _, [], hW', trodAll_mk1 (shut_bool Try.underlying4 _), (trodAll_cons_mk (Below.trod laidOut (by kernel_rfl) (of_decide_eq_true (by kernel_rfl)) k0 bel lt0) trodAll_mk0), rfl, bel.frame _, fun h => by cases h⟩
theorem over : Rows.fnExactSolutionsRow.holds Try.pinned (OpenSpec.ofChange Rows.fnExactSolutionsSpec) :=
  OpenClaim.holds_of_wide 10 Try.f10 rfl rfl rfl rfl rfl rfl rfl ⟨rfl, rfl, rfl, rfl, rfl⟩ rfl rfl rfl rfl rfl (by kernel_rfl) Try.func10 (by kernel_rfl)
    (of_decide_eq_true (by kernel_rfl)) (by unfold Func.isWrapper; first | (rw [if_pos (by decide +kernel)]; kernel_rfl) | (rw [if_neg (by decide +kernel)]; exact ⟨rfl, rfl⟩))
    (fun os started H enc _ => lifted os started H enc)
end Go.Proofs.Ytfljbfgceilppaa.SolutionsLaw
namespace Go.Proofs.Ytfljbfgceilppaa
/-- The row, under a short name, for the claim. -/
theorem fnExactSolutions_holds : Rows.FnExactSolutionsSaid := SolutionsLaw.over
end Go.Proofs.Ytfljbfgceilppaa
