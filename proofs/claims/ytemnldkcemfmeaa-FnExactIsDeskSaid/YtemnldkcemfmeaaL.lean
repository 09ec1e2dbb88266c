/- FnExactIsDesk: whatever desk comes in, the law returns true, and the desk reads behind the call as it read before. Conditions: none. -/
import Derived.Test.YtemnldkcemfmeaaDenC
import Derived.Test.YtemnldkcemfmeaaV
import Derived.Test.YtemnldkcemfmeaaRows
import Derived.Carry
set_option linter.unusedVariables false
set_option linter.unusedSimpArgs false
set_option linter.unnecessarySimpa false
/- FnExactIsDesk: whatever desk comes in, the law returns true, and the desk reads behind the call as it read before. Conditions: none. -/
set_option autoImplicit false
set_option linter.unusedVariables false
namespace Go.Proofs.Ytemnldkcemfmeaa.IsDeskLaw
open Go.Den Go.ChangeShapes Go.WideShapes Go.ChangeAt Go.RowKit

theorem toSl {α : Type} {e : Nat} {f : α → PV} {agg : Bool} {Q : List PV → Prop} {v : PV} {xs : List (List PV)} (hq : ∀ x, Q x → ∃ a : α, mkEl agg x = f a) (h : v = .nil ∧ xs = [] ∨ v = .sl e (xs.map (mkEl agg))) (hl : xs.length ≤ 9223372036854775807) (hx : ∀ x ∈ xs, Q x) : ∃ ns, Sl e f v ns := by
  have key : ∀ xs : List (List PV), (∀ x ∈ xs, Q x) → ∃ ns : List α, xs.map (mkEl agg) = ns.map f := by
    intro xs
    induction xs with
    | nil => intro _; exact ⟨[], rfl⟩
    | cons x xs ih =>
      intro hx
      obtain ⟨ns, h1⟩ := ih fun y hy => hx y (by simp [hy])
      obtain ⟨a, h2⟩ := hq x (hx x (by simp))
      exact ⟨a :: ns, by simp [h1, h2]⟩
  rcases h with ⟨rfl, rfl⟩ | rfl
  · exact ⟨[], .inr ⟨rfl, rfl⟩, by simp⟩
  · obtain ⟨ns, h1⟩ := key xs hx
    have : ns.length = xs.length := by have := congrArg List.length h1; simpa using this.symm
    exact ⟨ns, .inl (by rw [h1]), by omega⟩

theorem cells3 : Try.prog.cellsOf 3 = 1 := by kernel_rfl
theorem oI {need : Bool} : Opens need Try.prog 3 1 (fun vs => ∃ n, vs = [I n]) := (Opens.int Try.underlying3 cells3).mono fun _ ⟨n, h, _⟩ => ⟨n, h⟩
def QB (vs : List PV) : Prop := ∃ b : B3, vs = [I b.a, I b.b, I b.c]
theorem o51 : Opens false Try.prog 51 3 QB := (Opens.st3 Try.underlying51 (by kernel_rfl) oI oI oI rfl rfl rfl).mono fun vs ⟨a, b, c, h, ⟨n0, h0⟩, ⟨n1, h1⟩, ⟨n2, h2⟩⟩ => ⟨⟨n0, n1, n2⟩, by rw [h, h0, h1, h2]; rfl⟩
theorem o55 : Opens false Try.prog 55 3 QB := (Opens.st3 Try.underlying55 (by kernel_rfl) oI oI oI rfl rfl rfl).mono fun vs ⟨a, b, c, h, ⟨n0, h0⟩, ⟨n1, h1⟩, ⟨n2, h2⟩⟩ => ⟨⟨n0, n1, n2⟩, by rw [h, h0, h1, h2]; rfl⟩
theorem o22 : Opens true Try.prog 22 1 (fun vs => ∃ v ns, vs = [v] ∧ Sl 3 I v ns) :=
  (Opens.sl false oI Try.underlying22 (by kernel_rfl) (by omega) (fun _ => ⟨rfl, fun vs ⟨n, h⟩ => by rw [h]; rfl⟩)).mono fun vs ⟨v, xs, h1, h2, h3, h4⟩ => by
    obtain ⟨ns, hs⟩ := toSl (f := I) (fun x ⟨n, h⟩ => ⟨n, by rw [h]; rfl⟩) h2 h3 h4
    exact ⟨v, ns, h1, hs⟩
theorem o23 : Opens true Try.prog 23 1 (fun vs => ∃ v ns, vs = [v] ∧ Sl 51 pB v ns) :=
  (Opens.sl true o51 Try.underlying23 (by kernel_rfl) (by omega) (fun h => by cases h)).mono fun vs ⟨v, xs, h1, h2, h3, h4⟩ => by
    obtain ⟨ns, hs⟩ := toSl (f := pB) (fun x ⟨n, h⟩ => ⟨n, by rw [h]; rfl⟩) h2 h3 h4
    exact ⟨v, ns, h1, hs⟩
theorem o24 : Opens true Try.prog 24 1 (fun vs => ∃ v ns, vs = [v] ∧ Sl 55 pB v ns) :=
  (Opens.sl true o55 Try.underlying24 (by kernel_rfl) (by omega) (fun h => by cases h)).mono fun vs ⟨v, xs, h1, h2, h3, h4⟩ => by
    obtain ⟨ns, hs⟩ := toSl (f := pB) (fun x ⟨n, h⟩ => ⟨n, by rw [h]; rfl⟩) h2 h3 h4
    exact ⟨v, ns, h1, hs⟩
theorem o26 : Opens true Try.prog 26 3 (fun vs => ∃ th bx st, Dk 51 55 (.agg vs) th bx st) := (Opens.st3 Try.underlying26 (by kernel_rfl) o22 o23 o24 rfl rfl rfl).mono
  fun vs ⟨a, b, c, h, ⟨v0, n0, h0, s0⟩, ⟨v1, n1, h1, s1⟩, ⟨v2, n2, h2, s2⟩⟩ => ⟨n0, n1, n2, v0, v1, v2, by rw [h, h0, h1, h2]; rfl, s0, s1, s2⟩

theorem own : ownKnob Try.prog.godebug = none := by kernel_rfl
theorem laidOut : laidOutB Try.prog = true := by kernel_rfl
set_option maxRecDepth 100000 in
theorem lifted (os : Os) (started : os.Started) (H : Type) (enc : TypeId × Value → H) :
    ReturnsInHanded {} Try.checked os 3 .any (Rows.fnExactIsDeskSpec.pre6 enc Try.prog Try.f3 Rows.fnExactIsDeskRow.domain false) (Rows.fnExactIsDeskSpec.post enc Try.prog Try.f3 false true false false) := by
  refine returnsInHanded_of_change_sized (C := Try.checked) own started (by kernel_rfl) Try.func3
    (ChangeSpec.witness6 (enc := enc) (C := Try.checked) false ⟨#[], #[.agg #[.slice none 0 0, .slice none 0 0, .slice none 0 0]], []⟩ 8 (by kernel_rfl) (by kernel_rfl) (by kernel_rfl) (by kernel_rfl)) ?_
  intro W base args ds gs before hval0 hW hcnd hsz0 _
  have hval : ∀ (j : Nat) t v, Try.f3.params[j]? = some t → args[j]? = some v → Value.okWide Try.prog W .any base t v := hval0
  have hW' := hW
  obtain ⟨p, q, hA0, hV, rfl, hfz, hnd⟩ := hW
  have hA : DataW.TrodAll enc Try.prog W 0 (fun _ => true) true Try.f3.params.toList args.toList ds p := hA0
  rw [Try.params3] at hA hval
  obtain ⟨v0, vs0, d0, ds0, p0, q0, hargs, rfl, rfl, h0, r0⟩ := trodAll_cons hA
  obtain ⟨rfl, rfl, rfl⟩ := trodAll_nil r0
  obtain rfl : args = #[v0] := by cases args; simp_all
  obtain ⟨rfl, rfl⟩ := trodVars_none hV
  have hv := hval 0 26 v0 rfl rfl
  have k0 := h0
  have lt0 : ∀ x ∈ p0, x.block < W.heap.size := by obtain ⟨m, hm⟩ := k0; exact DataW.trod_lt m _ _ _ hm
  obtain ⟨m, hm⟩ := h0
  obtain ⟨vs, ⟨th, bx, st, hD⟩, hlen, hrc⟩ := o26.2 hm fun _ => lies_of_ok hv
  obtain ⟨cs, rfl⟩ : ∃ cs, v0 = .agg cs := by
    unfold Value.okWide at hv
    rw [Try.underlying26] at hv
    obtain ⟨cs, h, _⟩ := hv; exact ⟨cs, h⟩
  have hR : R Try.prog W .rep (fun k => k < W.heap.size) (.agg vs) (.agg cs) := by
    refine .agg (fun _ => 0) (by have := hrc.1; simpa [Value.cells] using this.symm) fun i hi => ?_
    have := hrc.2 i hi
    have e : ((Value.agg cs).cells.toList).getD i undef = cs.getD i undef := by simp [Value.cells, List.getD_eq_getElem?_getD, Array.getD_eq_getD_getElem?]
    rw [e] at this
    exact this
  clear hA0 hval0 hsz0
  refine (lift_core v3 rfl (W := W) (args := [.agg cs]) (pvs := [.agg vs]) rfl rfl (fun i p hp => ?_) ⟨_, th, bx, st, rfl, hD, rfl⟩).mono fun e W' ⟨he, bel⟩ => ?_
  · cases i with
    | zero => simp at hp; subst hp; exact .inl ⟨rfl, hR⟩
    | succ i => simp at hp
  subst he
  exact ⟨_, rfl, _, _, _, [], _, [], hW', trodAll_mk1 (shut_bool Try.underlying4 _), (trodAll_cons_mk (Below.trod laidOut (by kernel_rfl) (of_decide_eq_true (by kernel_rfl)) k0 bel lt0) trodAll_mk0), rfl, bel.frame _, fun h => by cases h⟩
theorem over : Rows.fnExactIsDeskRow.holds Try.pinned (OpenSpec.ofChange Rows.fnExactIsDeskSpec) :=
  OpenClaim.holds_of_wide 3 Try.f3 rfl rfl rfl rfl rfl rfl rfl ⟨rfl, rfl, rfl, rfl, rfl⟩ rfl rfl rfl rfl rfl (by kernel_rfl) Try.func3 (by kernel_rfl)
    (of_decide_eq_true (by kernel_rfl)) (by unfold Func.isWrapper; first | (rw [if_pos (by decide +kernel)]; kernel_rfl) | (rw [if_neg (by decide +kernel)]; exact ⟨rfl, rfl⟩))
    (fun os started H enc _ => lifted os started H enc)
end Go.Proofs.Ytemnldkcemfmeaa.IsDeskLaw
namespace Go.Proofs.Ytemnldkcemfmeaa
/-- The row, under a short name, for the claim. -/
theorem fnExactIsDesk_holds : Rows.FnExactIsDeskSaid := IsDeskLaw.over
end Go.Proofs.Ytemnldkcemfmeaa
