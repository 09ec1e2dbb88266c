/- FnExactFitsTurned: whatever comes in, the law returns true, and what came in reads behind the call as it read before. Conditions: none. -/
import Derived.Test.YtnkjbncagnfnoaaV2
import Derived.Test.YtnkjbncagnfnoaaRows
import Derived.Carry
set_option linter.unusedVariables false
set_option linter.unusedSimpArgs false
set_option linter.unnecessarySimpa false
/- FnExactFitsTurned: whatever comes in, the law returns true, and what came in reads behind the call as it read before. Conditions: none. -/
set_option autoImplicit false
set_option linter.unusedVariables false
namespace Go.Proofs.Ytnkjbncagnfnoaa.FitsTurnedLaw
open Go.Den Go.ChangeShapes Go.WideShapes Go.ChangeAt Go.RowKit
set_option maxRecDepth 100000 in
theorem lifted (os : Os) (started : os.Started) (H : Type) (enc : TypeId × Value → H) :
    ReturnsInHanded {} Try.checked os 3 .any (Rows.fnExactFitsTurnedSpec.pre6 enc Try.prog Try.f3 Rows.fnExactFitsTurnedRow.domain false) (Rows.fnExactFitsTurnedSpec.post enc Try.prog Try.f3 false true false false) := by
  refine returnsInHanded_of_change_sized (C := Try.checked) own started (by kernel_rfl) Try.func3
    (ChangeSpec.witness6 (enc := enc) (C := Try.checked) false ⟨#[], #[.agg #[.int .i64 0, .int .i64 0, .int .i64 0], .agg #[.int .i64 0, .int .i64 0, .int .i64 0]], []⟩ 8 (by kernel_rfl) (by kernel_rfl) (by kernel_rfl) (by kernel_rfl)) ?_
  intro W base args ds gs before hval0 hW hcnd hsz0 _
  have hval : ∀ (j : Nat) t v, Try.f3.params[j]? = some t → args[j]? = some v → Value.okWide Try.prog W .any base t v := hval0
  have hW' := hW
  obtain ⟨p, q, hA0, hV, rfl, hfz, hnd⟩ := hW
  have hA : DataW.TrodAll enc Try.prog W 0 (fun _ => true) true Try.f3.params.toList args.toList ds p := hA0
  rw [Try.params3] at hA hval
  obtain ⟨v0, vs0, d0, ds0, p0, q0, hargs, rfl, rfl, h0, r0⟩ := trodAll_cons hA
  obtain ⟨v1, vs1, d1, ds1, p1, q1, rfl, rfl, rfl, h1, r1⟩ := trodAll_cons r0
  obtain ⟨rfl, rfl, rfl⟩ := trodAll_nil r1
  obtain ⟨rfl, rfl⟩ := trodVars_none hV
  obtain rfl : args = #[v0, v1] := by cases args; simp_all
  have hv0 := hval 0 23 v0 rfl rfl
  have k0 := h0
  have lt0 : ∀ x ∈ p0, x.block < W.heap.size := by obtain ⟨m, hm⟩ := k0; exact DataW.trod_lt m _ _ _ hm
  obtain ⟨m0, hm0⟩ := h0
  have hv1 := hval 1 23 v1 rfl rfl
  have k1 := h1
  have lt1 : ∀ x ∈ p1, x.block < W.heap.size := by obtain ⟨m, hm⟩ := k1; exact DataW.trod_lt m _ _ _ hm
  obtain ⟨m1, hm1⟩ := h1
  obtain ⟨us0, ⟨x0, rfl⟩, hl0, hrc0⟩ := oB.2 hm0 fun h => by cases h
  obtain ⟨cs0, rfl⟩ : ∃ cs, v0 = .agg cs := by
    unfold Value.okWide at hv0
    rw [Try.underlying23] at hv0
    obtain ⟨cs, h, _⟩ := hv0; exact ⟨cs, h⟩
  have hR0 : R Try.prog W .rep (fun _ => False) (pB x0) (.agg cs0) := by
    refine .agg (fun _ => 0) (by have := hrc0.1; simpa [Value.cells] using this.symm) fun i hi => ?_
    have := hrc0.2 i hi
    have e : ((Value.agg cs0).cells.toList).getD i undef = cs0.getD i undef := by simp [Value.cells, List.getD_eq_getElem?_getD, Array.getD_eq_getD_getElem?]
    rw [e] at this
    have hi3 : i < 3 := hi
    have key : ∀ n : Int, R Try.prog W .rep (fun k => k < W.heap.size) (I n) (cs0.getD i undef) → R Try.prog W .rep (Go.Den.part .rep (fun _ => False) (fun _ => 0) none i) (I n) (cs0.getD i undef) := fun n h => by
      cases h with
      | flat h => exact .flat h
    match i, hi3 with
    | 0, _ => exact key _ this
    | 1, _ => exact key _ this
    | 2, _ => exact key _ this
  obtain ⟨us1, ⟨x1, rfl⟩, hl1, hrc1⟩ := oB.2 hm1 fun h => by cases h
  obtain ⟨cs1, rfl⟩ : ∃ cs, v1 = .agg cs := by
    unfold Value.okWide at hv1
    rw [Try.underlying23] at hv1
    obtain ⟨cs, h, _⟩ := hv1; exact ⟨cs, h⟩
  have hR1 : R Try.prog W .rep (fun _ => False) (pB x1) (.agg cs1) := by
    refine .agg (fun _ => 0) (by have := hrc1.1; simpa [Value.cells] using this.symm) fun i hi => ?_
    have := hrc1.2 i hi
    have e : ((Value.agg cs1).cells.toList).getD i undef = cs1.getD i undef := by simp [Value.cells, List.getD_eq_getElem?_getD, Array.getD_eq_getD_getElem?]
    rw [e] at this
    have hi3 : i < 3 := hi
    have key : ∀ n : Int, R Try.prog W .rep (fun k => k < W.heap.size) (I n) (cs1.getD i undef) → R Try.prog W .rep (Go.Den.part .rep (fun _ => False) (fun _ => 0) none i) (I n) (cs1.getD i undef) := fun n h => by
      cases h with
      | flat h => exact .flat h
    match i, hi3 with
    | 0, _ => exact key _ this
    | 1, _ => exact key _ this
    | 2, _ => exact key _ this
  clear hA0 hval0 hsz0
  refine (lift_core v3 rfl (W := W) (args := [.agg cs0, .agg cs1]) (pvs := [pB x0, pB x1]) rfl rfl (fun i p hp => ?_) ⟨x0, x1, rfl, rfl⟩).mono fun e W' ⟨he, bel⟩ => ?_
  · match i with
    | 0 => simp at hp; subst hp; exact .inr ⟨rfl, hR0⟩
    | 1 => simp at hp; subst hp; exact .inr ⟨rfl, hR1⟩
    | i + 2 => simp at hp
  subst he
  exact ⟨_, rfl, _, _, _, [], _, [], hW', trodAll_mk1 (shut_bool Try.underlying4 _), (trodAll_cons_mk (Below.trod laidOut (by kernel_rfl) (of_decide_eq_true (by kernel_rfl)) k0 bel lt0) (trodAll_cons_mk (Below.trod laidOut (by kernel_rfl) (of_decide_eq_true (by kernel_rfl)) k1 bel lt1) trodAll_mk0)), rfl, bel.frame _, fun h => by cases h⟩
theorem over : Rows.fnExactFitsTurnedRow.holds Try.pinned (OpenSpec.ofChange Rows.fnExactFitsTurnedSpec) :=
  OpenClaim.holds_of_wide 3 Try.f3 rfl rfl rfl rfl rfl rfl rfl ⟨rfl, rfl, rfl, rfl, rfl⟩ rfl rfl rfl rfl rfl (by kernel_rfl) Try.func3 (by kernel_rfl)
    (of_decide_eq_true (by kernel_rfl)) (by unfold Func.isWrapper; first | (rw [if_pos (by decide +kernel)]; kernel_rfl) | (rw [if_neg (by decide +kernel)]; exact ⟨rfl, rfl⟩))
    (fun os started H enc _ => lifted os started H enc)
end Go.Proofs.Ytnkjbncagnfnoaa.FitsTurnedLaw
namespace Go.Proofs.Ytnkjbncagnfnoaa
/-- The row, under a short name, for the claim. -/
theorem fnExactFitsTurned_holds : Rows.FnExactFitsTurnedSaid := FitsTurnedLaw.over
end Go.Proofs.Ytnkjbncagnfnoaa
