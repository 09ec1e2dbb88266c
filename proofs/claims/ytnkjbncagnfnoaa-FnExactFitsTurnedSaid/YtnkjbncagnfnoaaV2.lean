/- FitsTurned on both sides; what comes in, by its type. Conditions: none. -/
import Derived.Test.YtnkjbncagnfnoaaV
import Derived.Test.YtnkjbncagnfnoaaFi
import Derived.Test.YtnkjbncagnfnoaaDenC
import Derived.Test.YtnkjbncagnfnoaaProg
import Derived.KernelRfl
set_option linter.unusedVariables false
set_option linter.unusedSimpArgs false
set_option linter.unnecessarySimpa false
set_option autoImplicit false
set_option linter.unusedVariables false
set_option linter.unusedSimpArgs false
set_option linter.unnecessarySimpa false
namespace Go.Proofs.Ytnkjbncagnfnoaa
open Go.Den
/- spec.neFits -/
def R55 : Rel := fun _ vs _ rs _ => ∃ x y, vs = [pB x, pB y] ∧ rs = [.bool (fitB x y)]
theorem v55 : SpecR Try.prog 55 sg55 R55 := by
  refine fnZ 34 (by kernel_rfl) (fn := Try.f55) (by kernel_rfl) (by kernel_rfl) (k55 R88) (by kernel_rfl) ⟨v88, trivial⟩ ?_
  rintro lim vs H rs H' ⟨x, y, rfl, rfl⟩ - - -
  obtain ⟨p, q, r, h1⟩ := sortB_three x
  obtain ⟨p', q', r', h2⟩ := sortB_three y
  rw [fitB_eq h1 h2]
  simp [c55, l55, List.replicate, pB]
  refine goCall_pure rfl ⟨x, rfl, rfl⟩ (by simp) ?_
  simp
  refine goCall_pure rfl ⟨y, rfl, rfl⟩ (by simp) ?_
  rw [h1, h2]
  by_cases k1 : p < p'
  · by_cases k2 : q < q'
    · simp [k1, k2]
    · simp [k1, k2]
  · simp [k1]
/- spec.FitsTurned -/
def R16 : Rel := fun _ vs _ rs _ => ∃ x y, vs = [pB x, pB y] ∧ rs = [.bool (okB x && okB y && fitB x y), .bool (okB x && okB y)]
theorem v16 : SpecR Try.prog 16 sg16 R16 := by
  refine fnZ 15 (by kernel_rfl) (fn := Try.f16) (by kernel_rfl) (by kernel_rfl) (k16 R54 R55) (by kernel_rfl) ⟨v54, v55, trivial⟩ ?_
  rintro lim vs H rs H' ⟨x, y, rfl, rfl⟩ - - -
  simp [c16, l16, List.replicate, pB]
  refine goCall_pure rfl ⟨x, rfl, rfl⟩ (by simp) ?_
  cases h1 : okB x
  · simp
  · simp
    refine goCall_pure rfl ⟨y, rfl, rfl⟩ (by simp) ?_
    cases h2 : okB y
    · simp
    · simp
      refine goCall_pure rfl ⟨x, y, rfl, rfl⟩ (by simp) ?_
      simp
/- impl.FitsTurned -/
def R18 : Rel := fun _ vs _ rs _ => ∃ x y, vs = [pB x, pB y] ∧ rs = [.bool (okB x && okB y && fitB x y), .bool (okB x && okB y)]
theorem v18 : SpecR Try.prog 18 sg18 R18 := by
  refine fnZ 15 (by kernel_rfl) (fn := Try.f18) (by kernel_rfl) (by kernel_rfl) (k18 R56 R57) (by kernel_rfl) ⟨v56, v57, trivial⟩ ?_
  rintro lim vs H rs H' ⟨x, y, rfl, rfl⟩ - - -
  simp [c18, l18, List.replicate, pB]
  refine goCall_pure rfl ⟨x, rfl, rfl⟩ (by simp) ?_
  cases h1 : okB x
  · simp
  · simp
    refine goCall_pure rfl ⟨y, rfl, rfl⟩ (by simp) ?_
    cases h2 : okB y
    · simp
    · simp
      refine goCall_pure rfl ⟨x, y, rfl, rfl⟩ (by simp) ?_
      simp
/- laws.FnExactFitsTurned -/
def R3 : Rel := fun _ vs _ rs _ => ∃ x y, vs = [pB x, pB y] ∧ rs = [.bool true]
theorem v3 : SpecR Try.prog 3 sg3 R3 := by
  refine fnZ 31 (by kernel_rfl) (fn := Try.f3) (by kernel_rfl) (by kernel_rfl) (k3 R17 R16 R18) (by kernel_rfl) ⟨v17, v16, v18, trivial⟩ ?_
  rintro lim vs H rs H' ⟨x, y, rfl, rfl⟩ - - -
  simp [c3, l3, List.replicate, pB]
  refine goCall_pure rfl ⟨x, rfl, rfl⟩ (by simp) ?_
  simp
  refine goCall_pure rfl ⟨y, rfl, rfl⟩ (by simp) ?_
  simp
  refine goCall_pure rfl ⟨x, y, rfl, rfl⟩ (by simp) ?_
  simp
  refine goCall_pure rfl ⟨x, rfl, rfl⟩ (by simp) ?_
  simp
  refine goCall_pure rfl ⟨y, rfl, rfl⟩ (by simp) ?_
  simp
  refine goCall_pure rfl ⟨x, y, rfl, rfl⟩ (by simp) ?_
  simp
end Go.Proofs.Ytnkjbncagnfnoaa
/- What comes in, by its type. Conditions: none. -/
set_option autoImplicit false
set_option linter.unusedVariables false
namespace Go.Proofs.Ytnkjbncagnfnoaa
open Go.Den Go.ChangeShapes Go.WideShapes Go.ChangeAt Go.RowKit

theorem toSl {α : Type} {e : Nat} {f : α → PV} {agg : Bool} {Q : List PV → Prop} {v : PV} {xs : List (List PV)} (hq : ∀ x, Q x → ∃ a : α, mkEl agg x = f a) (h : v = .nil ∧ xs = [] ∨ v = .sl e (xs.map (mkEl agg))) (hl : xs.length ≤ 9223372036854775807) (hx : ∀ x ∈ xs, Q x) : ∃ ns, Sl e f v ns := by
  have key : ∀ xs : List (List PV), (∀ x ∈ xs, Q x) → ∃ ns : List α, xs.map (mkEl agg) = ns.map f := by
    intro xs
    induction xs with
    | nil => intro _; exact ⟨[], rfl⟩
    | cons x xs ih =>
      intro hx
      obtain ⟨ns, h1⟩ := ih fun y hy => hx y (by simp [hy])
      obtain ⟨a, h2⟩ := hq x (hx x (by simp))
      exact ⟨a :: ns, by simp [h1, h2]⟩
  rcases h with ⟨rfl, rfl⟩ | rfl
  · exact ⟨[], .inr ⟨rfl, rfl⟩, by simp⟩
  · obtain ⟨ns, h1⟩ := key xs hx
    have : ns.length = xs.length := by have := congrArg List.length h1; simpa using this.symm
    exact ⟨ns, .inl (by rw [h1]), by omega⟩

theorem cells3 : Try.prog.cellsOf 3 = 1 := by kernel_rfl
theorem oI {need : Bool} : Opens need Try.prog 3 1 (fun vs => ∃ n, vs = [I n]) := (Opens.int Try.underlying3 cells3).mono fun _ ⟨n, h, _⟩ => ⟨n, h⟩
set_option maxRecDepth 100000 in
theorem intArg {W : World} {base : Nat} {n : Int} {v : Value} (hv : Value.okWide Try.prog W .any base 3 v) (hrc : RC Try.prog W [I n] v.cells.toList) : R Try.prog W .rep (fun _ => False) (I n) v := by
  have := hrc.2 0 (by simp)
  have key : R Try.prog W .rep (fun k => k < W.heap.size) (I n) v → R Try.prog W .rep (fun _ => False) (I n) v := fun h => by
    cases h with
    | flat h => exact .flat h
  cases v
  case agg a =>
    exfalso
    unfold Value.okWide at hv
    rw [Try.underlying3] at hv
    simp [Cell.okWide] at hv
    unfold Cell.ok at hv
    rw [Try.underlying3] at hv
    simp at hv
  all_goals exact key this
theorem oIs : Opens true Try.prog 30 1 (fun vs => ∃ v ns, vs = [v] ∧ Sl 3 I v ns) :=
  (Opens.sl false oI Try.underlying30 (by kernel_rfl) (by omega) (fun _ => ⟨rfl, fun vs ⟨n, h⟩ => by rw [h]; rfl⟩)).mono fun vs ⟨v, xs, h1, h2, h3, h4⟩ => by
    obtain ⟨ns, hs⟩ := toSl (f := I) (fun x ⟨n, h⟩ => ⟨n, by rw [h]; rfl⟩) h2 h3 h4
    exact ⟨v, ns, h1, hs⟩
theorem oB : Opens false Try.prog 23 3 (fun vs => ∃ b : B3, vs = [I b.a, I b.b, I b.c]) := (Opens.st3 Try.underlying23 (by kernel_rfl) oI oI oI rfl rfl rfl).mono fun vs ⟨a, b, c, h, ⟨n0, h0⟩, ⟨n1, h1⟩, ⟨n2, h2⟩⟩ => ⟨⟨n0, n1, n2⟩, by rw [h, h0, h1, h2]; rfl⟩
theorem oBs : Opens true Try.prog 29 1 (fun vs => ∃ v ns, vs = [v] ∧ Sl 23 pB v ns) :=
  (Opens.sl true oB Try.underlying29 (by kernel_rfl) (by omega) (fun h => by cases h)).mono fun vs ⟨v, xs, h1, h2, h3, h4⟩ => by
    obtain ⟨ns, hs⟩ := toSl (f := pB) (fun x ⟨n, h⟩ => ⟨n, by rw [h]; rfl⟩) h2 h3 h4
    exact ⟨v, ns, h1, hs⟩
theorem own : ownKnob Try.prog.godebug = none := by kernel_rfl
theorem laidOut : laidOutB Try.prog = true := by kernel_rfl
end Go.Proofs.Ytnkjbncagnfnoaa
