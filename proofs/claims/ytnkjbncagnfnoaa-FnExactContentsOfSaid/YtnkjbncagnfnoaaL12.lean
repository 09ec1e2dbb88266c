/- FnExactContentsOf: whatever comes in, the law returns true, and what came in reads behind the call as it read before. Conditions: none. -/
import Derived.Test.YtnkjbncagnfnoaaVn2
import Derived.Test.YtnkjbncagnfnoaaVn4
import Derived.Test.YtnkjbncagnfnoaaRows
import Derived.Carry
set_option linter.unusedVariables false
set_option linter.unusedSimpArgs false
set_option linter.unnecessarySimpa false
/- FnExactContentsOf: whatever comes in, the law returns true, and what came in reads behind the call as it read before. Conditions: none. -/
set_option autoImplicit false
set_option linter.unusedVariables false
namespace Go.Proofs.Ytnkjbncagnfnoaa.ContentsOfLaw
open Go.Den Go.ChangeShapes Go.WideShapes Go.ChangeAt Go.RowKit
set_option maxRecDepth 100000 in
theorem lifted (os : Os) (started : os.Started) (H : Type) (enc : TypeId × Value → H) :
    ReturnsInHanded {} Try.checked os 12 .any (Rows.fnExactContentsOfSpec.pre6 enc Try.prog Try.f12 Rows.fnExactContentsOfRow.domain false) (Rows.fnExactContentsOfSpec.post enc Try.prog Try.f12 false true false false) := by
  refine returnsInHanded_of_change_sized (C := Try.checked) own started (by kernel_rfl) Try.func12
    (ChangeSpec.witness6 (enc := enc) (C := Try.checked) false ⟨#[], #[.slice none 0 0, .slice none 0 0, .int .i64 0], []⟩ 8 (by kernel_rfl) (by kernel_rfl) (by kernel_rfl) (by kernel_rfl)) ?_
  intro W base args ds gs before hval0 hW hcnd hsz0 _
  have hval : ∀ (j : Nat) t v, Try.f12.params[j]? = some t → args[j]? = some v → Value.okWide Try.prog W .any base t v := hval0
  have hW' := hW
  obtain ⟨p, q, hA0, hV, rfl, hfz, hnd⟩ := hW
  have hA : DataW.TrodAll enc Try.prog W 0 (fun _ => true) true Try.f12.params.toList args.toList ds p := hA0
  rw [Try.params12] at hA hval
  obtain ⟨v0, vs0, d0, ds0, p0, q0, hargs, rfl, rfl, h0, r0⟩ := trodAll_cons hA
  obtain ⟨v1, vs1, d1, ds1, p1, q1, rfl, rfl, rfl, h1, r1⟩ := trodAll_cons r0
  obtain ⟨v2, vs2, d2, ds2, p2, q2, rfl, rfl, rfl, h2, r2⟩ := trodAll_cons r1
  obtain ⟨rfl, rfl, rfl⟩ := trodAll_nil r2
  obtain ⟨rfl, rfl⟩ := trodVars_none hV
  obtain rfl : args = #[v0, v1, v2] := by cases args; simp_all
  have hv0 := hval 0 29 v0 rfl rfl
  have k0 := h0
  have lt0 : ∀ x ∈ p0, x.block < W.heap.size := by obtain ⟨m, hm⟩ := k0; exact DataW.trod_lt m _ _ _ hm
  obtain ⟨m0, hm0⟩ := h0
  have hv1 := hval 1 30 v1 rfl rfl
  have k1 := h1
  have lt1 : ∀ x ∈ p1, x.block < W.heap.size := by obtain ⟨m, hm⟩ := k1; exact DataW.trod_lt m _ _ _ hm
  obtain ⟨m1, hm1⟩ := h1
  have hv2 := hval 2 3 v2 rfl rfl
  have k2 := h2
  have lt2 : ∀ x ∈ p2, x.block < W.heap.size := by obtain ⟨m, hm⟩ := k2; exact DataW.trod_lt m _ _ _ hm
  obtain ⟨m2, hm2⟩ := h2
  obtain ⟨us0, ⟨w0, ns0, rfl, hS0⟩, hl0, hrc0⟩ := oBs.2 hm0 fun _ => lies_of_ok hv0
  have hR0 : R Try.prog W .rep (fun k => k < W.heap.size) w0 v0 := by
    have := hrc0.2 0 (by simp)
    cases v0
    case agg a =>
      exfalso
      unfold Value.okWide at hv0
      rw [Try.underlying29] at hv0
      obtain ⟨b, o, n, c, h, _⟩ := hv0 <;> simp at *
    all_goals exact this
  obtain ⟨us1, ⟨w1, ns1, rfl, hS1⟩, hl1, hrc1⟩ := oIs.2 hm1 fun _ => lies_of_ok hv1
  have hR1 : R Try.prog W .rep (fun k => k < W.heap.size) w1 v1 := by
    have := hrc1.2 0 (by simp)
    cases v1
    case agg a =>
      exfalso
      unfold Value.okWide at hv1
      rw [Try.underlying30] at hv1
      obtain ⟨b, o, n, c, h, _⟩ := hv1 <;> simp at *
    all_goals exact this
  obtain ⟨us2, ⟨n2, rfl⟩, hl2, hrc2⟩ := (oI (need := false)).2 hm2 fun h => by cases h
  have hR2 : R Try.prog W .rep (fun _ => False) (I n2) v2 := intArg hv2 hrc2
  clear hA0 hval0 hsz0
  refine (lift_core v12 rfl (W := W) (args := [v0, v1, v2]) (pvs := [w0, w1, I n2]) rfl rfl (fun i p hp => ?_) ⟨w0, ns0, w1, ns1, n2, rfl, hS0, hS1, rfl⟩).mono fun e W' ⟨he, bel⟩ => ?_
  · match i with
    | 0 => simp at hp; subst hp; exact .inl ⟨rfl, hR0⟩
    | 1 => simp at hp; subst hp; exact .inl ⟨rfl, hR1⟩
    | 2 => simp at hp; subst hp; exact .inr ⟨rfl, hR2⟩
    | i + 3 => simp at hp
  subst he
  exact ⟨_, rfl, _, _, _, [], _, [], hW', trodAll_mk1 (shut_bool Try.underlying4 _), (trodAll_cons_mk (Below.trod laidOut (by kernel_rfl) (of_decide_eq_true (by kernel_rfl)) k0 bel lt0) (trodAll_cons_mk (Below.trod laidOut (by kernel_rfl) (of_decide_eq_true (by kernel_rfl)) k1 bel lt1) (trodAll_cons_mk (Below.trod laidOut (by kernel_rfl) (of_decide_eq_true (by kernel_rfl)) k2 bel lt2) trodAll_mk0))), rfl, bel.frame _, fun h => by cases h⟩
theorem over : Rows.fnExactContentsOfRow.holds Try.pinned (OpenSpec.ofChange Rows.fnExactContentsOfSpec) :=
  OpenClaim.holds_of_wide 12 Try.f12 rfl rfl rfl rfl rfl rfl rfl ⟨rfl, rfl, rfl, rfl, rfl⟩ rfl rfl rfl rfl rfl (by kernel_rfl) Try.func12 (by kernel_rfl)
    (of_decide_eq_true (by kernel_rfl)) (by unfold Func.isWrapper; first | (rw [if_pos (by decide +kernel)]; kernel_rfl) | (rw [if_neg (by decide +kernel)]; exact ⟨rfl, rfl⟩))
    (fun os started H enc _ => lifted os started H enc)
end Go.Proofs.Ytnkjbncagnfnoaa.ContentsOfLaw
namespace Go.Proofs.Ytnkjbncagnfnoaa
/-- The row, under a short name, for the claim. -/
theorem fnExactContentsOf_holds : Rows.FnExactContentsOfSaid := ContentsOfLaw.over
end Go.Proofs.Ytnkjbncagnfnoaa
