/- FnExactLeastOuterVolume: whatever comes in, the law returns true, and what came in reads behind the call as it read before. Conditions: none. -/
import Derived.Test.YtnkjbncagnfnoaaVn2
import Derived.Test.YtnkjbncagnfnoaaVn6
import Derived.Test.YtnkjbncagnfnoaaRows
import Derived.Carry
set_option linter.unusedVariables false
set_option linter.unusedSimpArgs false
set_option linter.unnecessarySimpa false
/- FnExactLeastOuterVolume: whatever comes in, the law returns true, and what came in reads behind the call as it read before. Conditions: none. -/
set_option autoImplicit false
set_option linter.unusedVariables false
namespace Go.Proofs.Ytnkjbncagnfnoaa.LeastOuterVolumeLaw
open Go.Den Go.ChangeShapes Go.WideShapes Go.ChangeAt Go.RowKit
set_option maxRecDepth 100000 in
theorem lifted (os : Os) (started : os.Started) (H : Type) (enc : TypeId × Value → H) :
    ReturnsInHanded {} Try.checked os 10 .any (Rows.fnExactLeastOuterVolumeSpec.pre6 enc Try.prog Try.f10 Rows.fnExactLeastOuterVolumeRow.domain false) (Rows.fnExactLeastOuterVolumeSpec.post enc Try.prog Try.f10 false true false false) := by
  refine returnsInHanded_of_change_sized (C := Try.checked) own started (by kernel_rfl) Try.func10
    (ChangeSpec.witness6 (enc := enc) (C := Try.checked) false ⟨#[], #[.slice none 0 0], []⟩ 8 (by kernel_rfl) (by kernel_rfl) (by kernel_rfl) (by kernel_rfl)) ?_
  intro W base args ds gs before hval0 hW hcnd hsz0 _
  have hval : ∀ (j : Nat) t v, Try.f10.params[j]? = some t → args[j]? = some v → Value.okWide Try.prog W .any base t v := hval0
  have hW' := hW
  obtain ⟨p, q, hA0, hV, rfl, hfz, hnd⟩ := hW
  have hA : DataW.TrodAll enc Try.prog W 0 (fun _ => true) true Try.f10.params.toList args.toList ds p := hA0
  rw [Try.params10] at hA hval
  obtain ⟨v0, vs0, d0, ds0, p0, q0, hargs, rfl, rfl, h0, r0⟩ := trodAll_cons hA
  obtain ⟨rfl, rfl, rfl⟩ := trodAll_nil r0
  obtain ⟨rfl, rfl⟩ := trodVars_none hV
  obtain rfl : args = #[v0] := by cases args; simp_all
  have hv0 := hval 0 29 v0 rfl rfl
  have k0 := h0
  have lt0 : ∀ x ∈ p0, x.block < W.heap.size := by obtain ⟨m, hm⟩ := k0; exact DataW.trod_lt m _ _ _ hm
  obtain ⟨m0, hm0⟩ := h0
  obtain ⟨us0, ⟨w0, ns0, rfl, hS0⟩, hl0, hrc0⟩ := oBs.2 hm0 fun _ => lies_of_ok hv0
  have hR0 : R Try.prog W .rep (fun k => k < W.heap.size) w0 v0 := by
    have := hrc0.2 0 (by simp)
    cases v0
    case agg a =>
      exfalso
      unfold Value.okWide at hv0
      rw [Try.underlying29] at hv0
      obtain ⟨b, o, n, c, h, _⟩ := hv0 <;> simp at *
    all_goals exact this
  clear hA0 hval0 hsz0
  refine (lift_core v10 rfl (W := W) (args := [v0]) (pvs := [w0]) rfl rfl (fun i p hp => ?_) ⟨w0, ns0, rfl, hS0, rfl⟩).mono fun e W' ⟨he, bel⟩ => ?_
  · match i with
    | 0 => simp at hp; subst hp; exact .inl ⟨rfl, hR0⟩
    | i + 1 => simp at hp
  subst he
  exact ⟨_, rfl, _, _, _, [], _, [], hW', trodAll_mk1 (shut_bool Try.underlying4 _), (trodAll_cons_mk (Below.trod laidOut (by kernel_rfl) (of_decide_eq_true (by kernel_rfl)) k0 bel lt0) trodAll_mk0), rfl, bel.frame _, fun h => by cases h⟩
theorem over : Rows.fnExactLeastOuterVolumeRow.holds Try.pinned (OpenSpec.ofChange Rows.fnExactLeastOuterVolumeSpec) :=
  OpenClaim.holds_of_wide 10 Try.f10 rfl rfl rfl rfl rfl rfl rfl ⟨rfl, rfl, rfl, rfl, rfl⟩ rfl rfl rfl rfl rfl (by kernel_rfl) Try.func10 (by kernel_rfl)
    (of_decide_eq_true (by kernel_rfl)) (by unfold Func.isWrapper; first | (rw [if_pos (by decide +kernel)]; kernel_rfl) | (rw [if_neg (by decide +kernel)]; exact ⟨rfl, rfl⟩))
    (fun os started H enc _ => lifted os started H enc)
end Go.Proofs.Ytnkjbncagnfnoaa.LeastOuterVolumeLaw
namespace Go.Proofs.Ytnkjbncagnfnoaa
/-- The row, under a short name, for the claim. -/
theorem fnExactLeastOuterVolume_holds : Rows.FnExactLeastOuterVolumeSaid := LeastOuterVolumeLaw.over
end Go.Proofs.Ytnkjbncagnfnoaa
