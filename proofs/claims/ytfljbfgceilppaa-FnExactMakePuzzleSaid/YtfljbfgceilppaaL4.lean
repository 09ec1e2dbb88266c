/- FnExactMakePuzzle: whatever numbers come in, the law returns true, and they read behind the call as they read before. Conditions: none. -/
import Derived.Test.YtfljbfgceilppaaV2
import Derived.Test.YtfljbfgceilppaaV5
import Derived.Test.YtfljbfgceilppaaRows
import Derived.Carry
set_option linter.unusedVariables false
set_option linter.unusedSimpArgs false
set_option linter.unnecessarySimpa false
/- FnExactMakePuzzle: whatever numbers come in, the law returns true, and they read behind the call as they read before. Conditions: none. -/
set_option autoImplicit false
set_option linter.unusedVariables false
namespace Go.Proofs.Ytfljbfgceilppaa.MakePuzzleLaw
open Go.Den Go.ChangeShapes Go.WideShapes Go.ChangeAt Go.RowKit
theorem intArg {W : World} {base : Nat} {n : Int} {v : Value} (hv : Value.okWide Try.prog W .any base 3 v) (hrc : RC Try.prog W [I n] v.cells.toList) : R Try.prog W .rep (fun _ => False) (I n) v := by
  have := hrc.2 0 (by simp)
  have key : R Try.prog W .rep (fun k => k < W.heap.size) (I n) v → R Try.prog W .rep (fun _ => False) (I n) v := fun h => by
    cases h with
    | flat h => exact .flat h
  cases v
  case agg a =>
    exfalso
    unfold Value.okWide at hv
    rw [Try.underlying3] at hv
    simp [Cell.okWide] at hv
    unfold Cell.ok at hv
    rw [Try.underlying3] at hv
    simp at hv
  all_goals exact key this
set_option maxRecDepth 100000 in
theorem lifted (os : Os) (started : os.Started) (H : Type) (enc : TypeId × Value → H) :
    ReturnsInHanded {} Try.checked os 4 .any (Rows.fnExactMakePuzzleSpec.pre6 enc Try.prog Try.f4 Rows.fnExactMakePuzzleRow.domain false) (Rows.fnExactMakePuzzleSpec.post enc Try.prog Try.f4 false true false false) := by
  refine returnsInHanded_of_change_sized (C := Try.checked) own started (by kernel_rfl) Try.func4
    (ChangeSpec.witness6 (enc := enc) (C := Try.checked) false ⟨#[], #[.slice none 0 0, .int .i64 0, .int .i64 0], []⟩ 8 (by kernel_rfl) (by kernel_rfl) (by kernel_rfl) (by kernel_rfl)) ?_
  intro W base args ds gs before hval0 hW hcnd hsz0 _
  have hval : ∀ (j : Nat) t v, Try.f4.params[j]? = some t → args[j]? = some v → Value.okWide Try.prog W .any base t v := hval0
  have hW' := hW
  obtain ⟨p, q, hA0, hV, rfl, hfz, hnd⟩ := hW
  have hA : DataW.TrodAll enc Try.prog W 0 (fun _ => true) true Try.f4.params.toList args.toList ds p := hA0
  rw [Try.params4] at hA hval
  obtain ⟨v0, vs0, d0, ds0, p0, q0, hargs, rfl, rfl, h0, r0⟩ := trodAll_cons hA
  obtain ⟨v1, vs1, d1, ds1, p1, q1, rfl, rfl, rfl, h1, r1⟩ := trodAll_cons r0
  obtain ⟨v2, vs2, d2, ds2, p2, q2, rfl, rfl, rfl, h2, r2⟩ := trodAll_cons r1
  obtain ⟨rfl, rfl, rfl⟩ := trodAll_nil r2
  obtain ⟨rfl, rfl⟩ := trodVars_none hV
  obtain rfl : args = #[v0, v1, v2] := by cases args; simp_all
  have hv0 := hval 0 24 v0 rfl rfl
  have hv1 := hval 1 3 v1 rfl rfl
  have hv2 := hval 2 3 v2 rfl rfl
  have k0 := h0
  have k1 := h1
  have k2 := h2
  have lt0 : ∀ x ∈ p0, x.block < W.heap.size := by obtain ⟨m, hm⟩ := k0; exact DataW.trod_lt m _ _ _ hm
  have lt1 : ∀ x ∈ p1, x.block < W.heap.size := by obtain ⟨m, hm⟩ := k1; exact DataW.trod_lt m _ _ _ hm
  have lt2 : ∀ x ∈ p2, x.block < W.heap.size := by obtain ⟨m, hm⟩ := k2; exact DataW.trod_lt m _ _ _ hm
  obtain ⟨m0, hm0⟩ := h0
  obtain ⟨m1, hm1⟩ := h1
  obtain ⟨m2, hm2⟩ := h2
  obtain ⟨vs0, ⟨v, xs, rfl, hS⟩, hlen0, hrc0⟩ := o24.2 hm0 fun _ => lies_of_ok hv0
  obtain ⟨vs1, ⟨m, rfl⟩, hlen1, hrc1⟩ := (oI (need := false)).2 hm1 fun h => by cases h
  obtain ⟨vs2, ⟨seed, rfl⟩, hlen2, hrc2⟩ := (oI (need := false)).2 hm2 fun h => by cases h
  have hR0 : R Try.prog W .rep (fun k => k < W.heap.size) v v0 := by
    have := hrc0.2 0 (by simp)
    cases v0
    case agg a =>
      exfalso
      unfold Value.okWide at hv0
      rw [Try.underlying24] at hv0
      obtain ⟨b, o, n, c, h, _⟩ := hv0 <;> simp at *
    all_goals exact this
  have hR1 : R Try.prog W .rep (fun _ => False) (I m) v1 := intArg hv1 hrc1
  have hR2 : R Try.prog W .rep (fun _ => False) (I seed) v2 := intArg hv2 hrc2
  clear hA0 hval0 hsz0
  refine (lift_core v4 rfl (W := W) (args := [v0, v1, v2]) (pvs := [v, I m, I seed]) rfl rfl (fun i p hp => ?_) ⟨v, xs, m, seed, rfl, hS, rfl⟩).mono fun e W' ⟨he, bel⟩ => ?_
  · match i with
    | 0 => simp at hp; subst hp; exact .inl ⟨rfl, hR0⟩
    | 1 => simp at hp; subst hp; exact .inr ⟨rfl, hR1⟩
    | 2 => simp at hp; subst hp; exact .inr ⟨rfl, hR2⟩
    | i + 3 => simp at hp
  subst he
  exact ⟨_, rfl, _, _, _, [], _, [], hW', trodAll_mk1 (shut_bool Try.underlying4 _), (trodAll_cons_mk (Below.trod laidOut (by kernel_rfl) (of_decide_eq_true (by kernel_rfl)) k0 bel lt0) (trodAll_cons_mk (Below.trod laidOut (by kernel_rfl) (of_decide_eq_true (by kernel_rfl)) k1 bel lt1) (trodAll_cons_mk (Below.trod laidOut (by kernel_rfl) (of_decide_eq_true (by kernel_rfl)) k2 bel lt2) trodAll_mk0))), rfl, bel.frame _, fun h => by cases h⟩
theorem over : Rows.fnExactMakePuzzleRow.holds Try.pinned (OpenSpec.ofChange Rows.fnExactMakePuzzleSpec) :=
  OpenClaim.holds_of_wide 4 Try.f4 rfl rfl rfl rfl rfl rfl rfl ⟨rfl, rfl, rfl, rfl, rfl⟩ rfl rfl rfl rfl rfl (by kernel_rfl) Try.func4 (by kernel_rfl)
    (of_decide_eq_true (by kernel_rfl)) (by unfold Func.isWrapper; first | (rw [if_pos (by decide +kernel)]; kernel_rfl) | (rw [if_neg (by decide +kernel)]; exact ⟨rfl, rfl⟩))
    (fun os started H enc _ => lifted os started H enc)
end Go.Proofs.Ytfljbfgceilppaa.MakePuzzleLaw
namespace Go.Proofs.Ytfljbfgceilppaa
/-- The row, under a short name, for the claim. -/
theorem fnExactMakePuzzle_holds : Rows.FnExactMakePuzzleSaid := MakePuzzleLaw.over
end Go.Proofs.Ytfljbfgceilppaa
