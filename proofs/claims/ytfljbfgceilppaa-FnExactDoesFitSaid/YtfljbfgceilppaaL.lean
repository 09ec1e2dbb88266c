/- FnExactDoesFit: whatever clue and whatever numbers come in, the law returns true, and both read behind the call as they read before. Conditions: none. -/
import Derived.Test.YtfljbfgceilppaaDenC
import Derived.Test.YtfljbfgceilppaaV
import Derived.Test.YtfljbfgceilppaaRows
import Derived.Carry
set_option linter.unusedVariables false
set_option linter.unusedSimpArgs false
set_option linter.unnecessarySimpa false
/- FnExactDoesFit: whatever clue and whatever row of numbers comes in, the law returns true, and what came in reads behind the call as before. Conditions: none. -/
set_option autoImplicit false
set_option linter.unusedVariables false
namespace Go.Proofs.Ytfljbfgceilppaa.DoesFitLaw
open Go.Den Go.ChangeShapes Go.WideShapes Go.ChangeAt Go.RowKit

theorem toSl {α : Type} {e : Nat} {f : α → PV} {agg : Bool} {Q : List PV → Prop} {v : PV} {xs : List (List PV)} (hq : ∀ x, Q x → ∃ a : α, mkEl agg x = f a) (h : v = .nil ∧ xs = [] ∨ v = .sl e (xs.map (mkEl agg))) (hl : xs.length ≤ 9223372036854775807) (hx : ∀ x ∈ xs, Q x) : ∃ ns, Sl e f v ns := by
  have key : ∀ xs : List (List PV), (∀ x ∈ xs, Q x) → ∃ ns : List α, xs.map (mkEl agg) = ns.map f := by
    intro xs
    induction xs with
    | nil => intro _; exact ⟨[], rfl⟩
    | cons x xs ih =>
      intro hx
      obtain ⟨ns, h1⟩ := ih fun y hy => hx y (by simp [hy])
      obtain ⟨a, h2⟩ := hq x (hx x (by simp))
      exact ⟨a :: ns, by simp [h1, h2]⟩
  rcases h with ⟨rfl, rfl⟩ | rfl
  · exact ⟨[], .inr ⟨rfl, rfl⟩, by simp⟩
  · obtain ⟨ns, h1⟩ := key xs hx
    have : ns.length = xs.length := by have := congrArg List.length h1; simpa using this.symm
    exact ⟨ns, .inl (by rw [h1]), by omega⟩

theorem cells3 : Try.prog.cellsOf 3 = 1 := by kernel_rfl
theorem oI {need : Bool} : Opens need Try.prog 3 1 (fun vs => ∃ n, vs = [I n]) := (Opens.int Try.underlying3 cells3).mono fun _ ⟨n, h, _⟩ => ⟨n, h⟩
theorem o23 : Opens false Try.prog 23 4 (fun vs => ∃ x : Cl, vs = [I x.k, I x.a, I x.b, I x.c]) := (Opens.st4 Try.underlying23 (by kernel_rfl) oI oI oI oI rfl rfl rfl rfl).mono fun vs ⟨a, b, c, d, h, ⟨n0, h0⟩, ⟨n1, h1⟩, ⟨n2, h2⟩, ⟨n3, h3⟩⟩ => ⟨⟨n0, n1, n2, n3⟩, by rw [h, h0, h1, h2, h3]; rfl⟩
theorem o24 : Opens true Try.prog 24 1 (fun vs => ∃ v ns, vs = [v] ∧ Sl 3 I v ns) :=
  (Opens.sl false oI Try.underlying24 (by kernel_rfl) (by omega) (fun _ => ⟨rfl, fun vs ⟨n, h⟩ => by rw [h]; rfl⟩)).mono fun vs ⟨v, xs, h1, h2, h3, h4⟩ => by
    obtain ⟨ns, hs⟩ := toSl (f := I) (fun x ⟨n, h⟩ => ⟨n, by rw [h]; rfl⟩) h2 h3 h4
    exact ⟨v, ns, h1, hs⟩
theorem own : ownKnob Try.prog.godebug = none := by kernel_rfl
theorem laidOut : laidOutB Try.prog = true := by kernel_rfl
set_option maxRecDepth 100000 in
theorem lifted (os : Os) (started : os.Started) (H : Type) (enc : TypeId × Value → H) :
    ReturnsInHanded {} Try.checked os 3 .any (Rows.fnExactDoesFitSpec.pre6 enc Try.prog Try.f3 Rows.fnExactDoesFitRow.domain false) (Rows.fnExactDoesFitSpec.post enc Try.prog Try.f3 false true false false) := by
  refine returnsInHanded_of_change_sized (C := Try.checked) own started (by kernel_rfl) Try.func3
    (ChangeSpec.witness6 (enc := enc) (C := Try.checked) false ⟨#[], #[.agg #[.int .i64 0, .int .i64 0, .int .i64 0, .int .i64 0], .slice none 0 0], []⟩ 8 (by kernel_rfl) (by kernel_rfl) (by kernel_rfl) (by kernel_rfl)) ?_
  intro W base args ds gs before hval0 hW hcnd hsz0 _
  have hval : ∀ (j : Nat) t v, Try.f3.params[j]? = some t → args[j]? = some v → Value.okWide Try.prog W .any base t v := hval0
  have hW' := hW
  obtain ⟨p, q, hA0, hV, rfl, hfz, hnd⟩ := hW
  have hA : DataW.TrodAll enc Try.prog W 0 (fun _ => true) true Try.f3.params.toList args.toList ds p := hA0
  rw [Try.params3] at hA hval
  obtain ⟨v0, vs0, d0, ds0, p0, q0, hargs, rfl, rfl, h0, r0⟩ := trodAll_cons hA
  obtain ⟨v1, vs1, d1, ds1, p1, q1, rfl, rfl, rfl, h1, r1⟩ := trodAll_cons r0
  obtain ⟨rfl, rfl, rfl⟩ := trodAll_nil r1
  obtain ⟨rfl, rfl⟩ := trodVars_none hV
  obtain rfl : args = #[v0, v1] := by cases args; simp_all
  have hv0 := hval 0 23 v0 rfl rfl
  have hv1 := hval 1 24 v1 rfl rfl
  have k0 := h0
  have k1 := h1
  have lt0 : ∀ x ∈ p0, x.block < W.heap.size := by obtain ⟨m, hm⟩ := k0; exact DataW.trod_lt m _ _ _ hm
  have lt1 : ∀ x ∈ p1, x.block < W.heap.size := by obtain ⟨m, hm⟩ := k1; exact DataW.trod_lt m _ _ _ hm
  obtain ⟨m0, hm0⟩ := h0
  obtain ⟨m1, hm1⟩ := h1
  obtain ⟨vs, ⟨x, rfl⟩, hlen0, hrc0⟩ := o23.2 hm0 fun h => by cases h
  obtain ⟨vs1, ⟨v, ns, rfl, hS⟩, hlen1, hrc1⟩ := o24.2 hm1 fun _ => lies_of_ok hv1
  obtain ⟨cs, rfl⟩ : ∃ cs, v0 = .agg cs := by
    unfold Value.okWide at hv0
    rw [Try.underlying23] at hv0
    obtain ⟨cs, h, _⟩ := hv0; exact ⟨cs, h⟩
  have hR0 : R Try.prog W .rep (fun _ => False) (pC x) (.agg cs) := by
    refine .agg (fun _ => 0) (by have := hrc0.1; simpa [Value.cells] using this.symm) fun i hi => ?_
    have := hrc0.2 i hi
    have e : ((Value.agg cs).cells.toList).getD i undef = cs.getD i undef := by simp [Value.cells, List.getD_eq_getElem?_getD, Array.getD_eq_getD_getElem?]
    rw [e] at this
    have hi4 : i < 4 := hi
    have key : ∀ n : Int, R Try.prog W .rep (fun k => k < W.heap.size) (I n) (cs.getD i undef) → R Try.prog W .rep (Go.Den.part .rep (fun _ => False) (fun _ => 0) none i) (I n) (cs.getD i undef) := fun n h => by
      cases h with
      | flat h => exact .flat h
    match i, hi4 with
    | 0, _ => exact key _ this
    | 1, _ => exact key _ this
    | 2, _ => exact key _ this
    | 3, _ => exact key _ this
  have hR1 : R Try.prog W .rep (fun k => k < W.heap.size) v v1 := by
    have := hrc1.2 0 (by simp)
    cases v1
    case agg a =>
      exfalso
      unfold Value.okWide at hv1
      rw [Try.underlying24] at hv1
      obtain ⟨b, o, n, c, h, _⟩ := hv1 <;> simp at *
    all_goals exact this
  clear hA0 hval0 hsz0
  refine (lift_core v3 rfl (W := W) (args := [.agg cs, v1]) (pvs := [pC x, v]) rfl rfl (fun i p hp => ?_) ⟨x, v, ns, rfl, hS, rfl⟩).mono fun e W' ⟨he, bel⟩ => ?_
  · match i with
    | 0 => simp at hp; subst hp; exact .inr ⟨rfl, hR0⟩
    | 1 => simp at hp; subst hp; exact .inl ⟨rfl, hR1⟩
    | i + 2 => simp at hp
  subst he
  exact ⟨_, rfl, _, _, _, [], _, [], hW', trodAll_mk1 (shut_bool Try.underlying4 _), (trodAll_cons_mk (Below.trod laidOut (by kernel_rfl) (of_decide_eq_true (by kernel_rfl)) k0 bel lt0) (trodAll_cons_mk (Below.trod laidOut (by kernel_rfl) (of_decide_eq_true (by kernel_rfl)) k1 bel lt1) trodAll_mk0)), rfl, bel.frame _, fun h => by cases h⟩
theorem over : Rows.fnExactDoesFitRow.holds Try.pinned (OpenSpec.ofChange Rows.fnExactDoesFitSpec) :=
  OpenClaim.holds_of_wide 3 Try.f3 rfl rfl rfl rfl rfl rfl rfl ⟨rfl, rfl, rfl, rfl, rfl⟩ rfl rfl rfl rfl rfl (by kernel_rfl) Try.func3 (by kernel_rfl)
    (of_decide_eq_true (by kernel_rfl)) (by unfold Func.isWrapper; first | (rw [if_pos (by decide +kernel)]; kernel_rfl) | (rw [if_neg (by decide +kernel)]; exact ⟨rfl, rfl⟩))
    (fun os started H enc _ => lifted os started H enc)
end Go.Proofs.Ytfljbfgceilppaa.DoesFitLaw
namespace Go.Proofs.Ytfljbfgceilppaa
/-- The row, under a short name, for the claim. -/
theorem fnExactDoesFit_holds : Rows.FnExactDoesFitSaid := DoesFitLaw.over
end Go.Proofs.Ytfljbfgceilppaa
