/- Regions, commands, functions, the reckoning, what came in. Conditions: none. -/
import Derived.Test.YtemnldkcemfmeaaDenB
import Derived.Orders
import Derived.WalkKit
import Derived.ProofKit
import Derived.OpenShut
import Derived.ShutString
import Derived.ChangeOld
import Derived.ChangeArms
import Derived.ChangeSame
import Derived.Below
import Derived.SizedLaws
set_option linter.unusedVariables false
set_option linter.unusedSimpArgs false
set_option linter.unnecessarySimpa false
set_option autoImplicit false
namespace Go.Den

/-! ### Operations one after the other, some of them guarded -/
structure GOp where
  cop : COp
  g : Option (Nat × Bool)
  d : Option Nat
  fl : Bool
  deriving Inhabited

def skipV (fl : Bool) : PV := if fl then .no else .undef
def GOp.run (Tb : Nat → Rel) (lim : Nat) (p : GOp) (σ : List PV) (H : Boxes) (σ' : List PV) (H' : Boxes) : Prop :=
  match p.g with
  | none => ∃ v, p.cop.run Tb lim σ H v H' ∧ σ' = setD σ p.cop.dst v
  | some (j, b) => match σ.getD j .undef with
    | .bool c => if c = b then ∃ v, p.cop.run Tb lim σ H v H' ∧ σ' = setD σ p.cop.dst v else σ' = setD σ p.d (skipV p.fl) ∧ H' = H
    | .no => σ' = setD σ p.d (skipV p.fl) ∧ H' = H
    | _ => False
def wpGs (Tb : Nat → Rel) (lim : Nat) : List GOp → KV → List PV → Boxes → Prop
  | [], K, σ, H => K σ H
  | g :: gs, K, σ, H => ∃ σ' H', g.run Tb lim σ H σ' H' ∧ wpGs Tb lim gs K σ' H'

def skipOk (d : Option Nat) (Γ Γ' : List G) : Bool :=
  match d with
  | none => leG Γ Γ'
  | some d => leG (setG none false d (Γ'.getD d .dead) Γ) Γ'
def elabG (E : Env) (ops : List Oper) (Γ : List G) (o : Oper) : Option (GOp × List G) :=
  match elabOp E Γ o with
  | none => none
  | some (cop, Γ') => match o.guard with
    | none => some (⟨cop, none, o.dst, false⟩, Γ')
    | some (j, b) => match (ops[j]?).bind (·.dst) with
      | none => none
      | some dj => if kdO Γ (.tmp dj) = .fl ∧ skipOk o.dst Γ Γ' = true ∧ (∀ d, o.dst = some d → d < Γ.length) then some (⟨cop, some (dj, b), o.dst, match o.dst with | some d => Γ'.getD d .dead == .fl | none => false⟩, Γ') else none
def elabL (E : Env) (ops : List Oper) : List Oper → List G → Option (List GOp × List G)
  | [], Γ => some ([], Γ)
  | o :: os, Γ => match elabG E ops Γ o with
    | none => none
    | some (g, Γ1) => match elabL E ops os Γ1 with
      | none => none
      | some (gs, Γ2) => some (g :: gs, Γ2)

section
variable {X : Cx} {Γ : List G} {s : S} {L0 : Nat → Lab} {w0 : World} {K : KV} {o : Oper} {Q : Exit → Act → World → Prop} {E : Env} {Tb : Nat → Rel} {Γ' : List G} {H' : Boxes}

theorem Good.mono {a : Act} {w : World} {K' : KV} (h : Good X Γ L0 w0 K a w) (hk : ∀ σ H, K σ H → K' σ H) : Good X Γ L0 w0 K' a w := by
  obtain ⟨s, h1, h2, h3, h4, h5⟩ := h
  exact ⟨s, h1, h2, h3, h4, hk _ _ h5⟩
theorem Good.weaken {a : Act} {w : World} (h : Good X Γ L0 w0 K a w) (hl : leG Γ Γ' = true) : Good X Γ' L0 w0 K a w := by
  obtain ⟨s, h1, h2, h3, h4, h5⟩ := h
  exact ⟨s, h1, h2, h3.weaken hl, h4, h5⟩

theorem skip_sound {d : Option Nat} {fl : Bool} (h : Sim X Γ s) (f : Fr X L0 w0 s.L s.w) (hs : skipOk d Γ Γ' = true) (hd : ∀ d', d = some d' → d' < Γ.length) (hfl : fl = true → ∃ d', d = some d' ∧ Γ'.getD d' .dead = .fl)
    (hk : K (setD s.σ d (skipV fl)) s.H) : Good X Γ' L0 w0 K (s.a.put d undef) s.w := by
  cases d with
  | none => exact ⟨s, rfl, rfl, h.weaken hs, f, hk⟩
  | some d =>
    refine ⟨s.put d (skipV fl) undef, rfl, rfl, Sim.weaken (h.set (g := Γ'.getD d .dead) (hd d rfl) ?_) hs, f, hk⟩
    cases fl with
    | false => exact .inl rfl
    | true =>
      obtain ⟨d', h1, h2⟩ := hfl rfl
      injection h1 with h1; subst h1
      rw [h2]
      exact .inr (.flat rfl)

/-- What the machine sees of a guard. -/
theorem yield_bool {ops : Array Oper} {j dj : Nat} {c : Bool} (h : Sim X Γ s) (hj : (ops[j]?).bind (·.dst) = some dj) (hk : kdO Γ (.tmp dj) = .fl) (hv : s.σ.getD dj .undef = .bool c) : yielded ops s.a.tmps j = some c := by
  have := (fl_of (x := .tmp dj) h hk hv (by simp)).bool_inv
  simp only [Act.eval] at this
  unfold yielded
  rw [hj]
  simp only [Option.bind_some]
  rw [Array.getD_eq_getD_getElem?] at this
  cases ht : s.a.tmps[dj]? with
  | none => rw [ht] at this; cases this
  | some x => rw [ht] at this; simp only [Option.getD_some] at this; subst this; rfl
theorem yield_no {ops : Array Oper} {j dj : Nat} (h : Sim X Γ s) (hj : (ops[j]?).bind (·.dst) = some dj) (hk : kdO Γ (.tmp dj) = .fl) (hv : s.σ.getD dj .undef = .no) : yielded ops s.a.tmps j = none := by
  have hr := fl_of (x := .tmp dj) h hk hv (by simp)
  have : s.a.eval (.tmp dj) = .tuple #[] := by
    cases hr with
    | flat h => simpa [PV.flat] using h.symm
  simp only [Act.eval] at this
  unfold yielded
  rw [hj]
  simp only [Option.bind_some]
  rw [Array.getD_eq_getD_getElem?] at this
  cases ht : s.a.tmps[dj]? with
  | none => rfl
  | some x => rw [ht] at this; simp only [Option.getD_some] at this; subst this; rfl

/-- One guarded operation. -/
theorem elabG_sound {ops : Array Oper} {g : GOp} {σ' : List PV} (hE : E.P = X.P) (hT : Known X.P E Tb) (he : elabG E ops.toList Γ o = some (g, Γ')) (h : Sim X Γ s) (f : Fr X L0 w0 s.L s.w)
    (hr : g.run Tb X.lim s.σ s.H σ' H') (hk : K σ' H') :
    if Region.wanted o (yielded ops s.a.tmps) then o.wp X.P s.a s.w (Good X Γ' L0 w0 K) Q else Good X Γ' L0 w0 K (s.a.put o.dst undef) s.w := by
  unfold elabG at he
  split at he
  · cases he
  · rename_i cop Γ1 hop
    split at he
    · rename_i hg
      simp only [Option.some.injEq, Prod.mk.injEq] at he
      obtain ⟨rfl, rfl⟩ := he
      obtain ⟨v, hr, rfl⟩ := hr
      rw [if_pos (by simp [Region.wanted, hg])]
      exact op_sound hE hT hop h f hr hk
    · rename_i j b hg
      split at he
      · cases he
      · rename_i dj hdj
        split at he
        · rename_i hc
          obtain ⟨hfl, hsk, hdl⟩ := hc
          simp only [Option.some.injEq, Prod.mk.injEq] at he
          obtain ⟨rfl, rfl⟩ := he
          have hdj' : (ops[j]?).bind (·.dst) = some dj := by simpa using hdj
          simp only [GOp.run] at hr
          have hskip : σ' = setD s.σ o.dst (skipV (match o.dst with | some d => Γ1.getD d .dead == .fl | none => false)) ∧ H' = s.H → Good X Γ1 L0 w0 K (s.a.put o.dst undef) s.w := by
            rintro ⟨rfl, rfl⟩
            refine skip_sound h f hsk hdl (fun hx => ?_) hk
            cases hd : o.dst with
            | none => rw [hd] at hx; cases hx
            | some d => rw [hd] at hx; exact ⟨d, rfl, by simpa using hx⟩
          split at hr
          · rename_i c hv
            have hy := yield_bool h hdj' hfl hv
            split at hr
            · rename_i hcb
              obtain ⟨v, hr, rfl⟩ := hr
              rw [if_pos (by simp [Region.wanted, hg, hy, hcb])]
              exact op_sound hE hT hop h f hr hk
            · rename_i hcb
              rw [if_neg (by simp [Region.wanted, hg, hy, hcb])]
              exact hskip hr
          · rename_i hv
            have hy := yield_no h hdj' hfl hv
            rw [if_neg (by simp [Region.wanted, hg, hy])]
            exact hskip hr
          · exact hr.elim
        · cases he

theorem elabL_sound {ops : Array Oper} (hE : E.P = X.P) (hT : Known X.P E Tb) : ∀ (l : List Oper) (Γ Γ' : List G) (gs : List GOp) (s : S), elabL E ops.toList l Γ = some (gs, Γ') → Sim X Γ s → Fr X L0 w0 s.L s.w → wpGs Tb X.lim gs K s.σ s.H →
    (∀ a w, Good X Γ' L0 w0 K a w → Q .normal a w) → wpList X.P ops Q l s.a s.w
  | [], Γ, Γ', gs, s, he, h, f, hk, hQ => by
    simp only [elabL, Option.some.injEq, Prod.mk.injEq] at he
    obtain ⟨rfl, rfl⟩ := he
    exact hQ _ _ ⟨s, rfl, rfl, h, f, hk⟩
  | o :: os, Γ, Γ', gs, s, he, h, f, hk, hQ => by
    simp only [elabL] at he
    split at he
    · cases he
    · rename_i g Γ1 he1
      split at he
      · cases he
      · rename_i gs' Γ2 he2
        simp only [Option.some.injEq, Prod.mk.injEq] at he
        obtain ⟨rfl, rfl⟩ := he
        obtain ⟨σ', H', hr, hk⟩ := hk
        refine wpList_step fun K' hK' => ?_
        have next : ∀ a w, Good X Γ1 L0 w0 (wpGs Tb X.lim gs' K) a w → K' a w := by
          rintro a w ⟨s1, rfl, rfl, h1, f1, k1⟩
          exact hK' _ _ (elabL_sound hE hT os Γ1 Γ2 gs' s1 he2 h1 f1 k1 hQ)
        have := elabG_sound (Q := Q) hE hT he1 h f hr (K := wpGs Tb X.lim gs' K) hk
        split
        · rename_i hw
          rw [if_pos hw] at this
          exact Oper.wp_mono next this
        · rename_i hw
          rw [if_neg hw] at this
          exact next _ _ this
end
end Go.Den
set_option autoImplicit false
namespace Go.Den

/-! ### Sameness by sight -/
def cSame : Value → Value → Bool
  | .int k n, .int k' n' => k == k' && n == n'
  | .bool b, .bool b' => b == b'
  | .string s, .string s' => decide (s = s')
  | .slice none 0 0, .slice none 0 0 => true
  | .pointer none, .pointer none => true
  | .nilFunc, .nilFunc => true
  | _, _ => false
theorem cSame_eq {a b : Value} (h : cSame a b = true) : a = b := by
  unfold cSame at h
  split at h <;> (try simp at h) <;> first | rfl | (obtain ⟨rfl, rfl⟩ := h; rfl) | (subst h; rfl)
def oSame : Operand → Operand → Bool
  | .tmp t, .tmp t' => t == t'
  | .const v, .const v' => cSame v v'
  | .func f, .func f' => f == f'
  | _, _ => false
theorem oSame_eq {a b : Operand} (h : oSame a b = true) : a = b := by
  unfold oSame at h
  split at h
  · simp at h; subst h; rfl
  · rw [cSame_eq h]
  · simp at h; subst h; rfl
  · cases h
def lSame : List Operand → List Operand → Bool
  | [], [] => true
  | x :: xs, y :: ys => oSame x y && lSame xs ys
  | _, _ => false
theorem lSame_eq : ∀ {a b : List Operand}, lSame a b = true → a = b
  | [], [], _ => rfl
  | x :: xs, y :: ys, h => by simp only [lSame, Bool.and_eq_true] at h; rw [oSame_eq h.1, lSame_eq h.2]
  | [], _ :: _, h => by cases h
  | _ :: _, [], h => by cases h
def pSame1 : PV → PV → Bool
  | .int k n, .int k' n' => k == k' && n == n'
  | .bool b, .bool b' => b == b'
  | .str s, .str s' => decide (s = s')
  | .nil, .nil => true
  | .nilp, .nilp => true
  | .nilf, .nilf => true
  | _, _ => false
theorem pSame1_eq {a b : PV} (h : pSame1 a b = true) : a = b := by
  unfold pSame1 at h
  split at h <;> (try simp at h) <;> first | rfl | (obtain ⟨rfl, rfl⟩ := h; rfl) | (subst h; rfl)
def pSames : List PV → List PV → Bool
  | [], [] => true
  | x :: xs, y :: ys => pSame1 x y && pSames xs ys
  | _, _ => false
theorem pSames_eq : ∀ {a b : List PV}, pSames a b = true → a = b
  | [], [], _ => rfl
  | x :: xs, y :: ys, h => by simp only [pSames, Bool.and_eq_true] at h; rw [pSame1_eq h.1, pSames_eq h.2]
  | [], _ :: _, h => by cases h
  | _ :: _, [], h => by cases h
def pSame : PV → PV → Bool
  | .agg xs, .agg ys => pSames xs ys
  | a, b => pSame1 a b
theorem pSame_eq {a b : PV} (h : pSame a b = true) : a = b := by
  unfold pSame at h
  split at h
  · rw [pSames_eq h]
  · exact pSame1_eq h
def psSame : List (Nat × Operand) → List (Nat × Operand) → Bool
  | [], [] => true
  | (i, x) :: xs, (j, y) :: ys => i == j && oSame x y && psSame xs ys
  | _, _ => false
theorem psSame_eq : ∀ {a b : List (Nat × Operand)}, psSame a b = true → a = b
  | [], [], _ => rfl
  | (i, x) :: xs, (j, y) :: ys, h => by simp only [psSame, Bool.and_eq_true, beq_iff_eq] at h; rw [h.1.1, oSame_eq h.1.2, psSame_eq h.2]
  | [], _ :: _, h => by cases h
  | _ :: _, [], h => by cases h
def ooSame : Option Operand → Option Operand → Bool
  | none, none => true
  | some x, some y => oSame x y
  | _, _ => false
theorem ooSame_eq {a b : Option Operand} (h : ooSame a b = true) : a = b := by
  unfold ooSame at h
  split at h
  · rfl
  · rw [oSame_eq h]
  · cases h

def COp.same : COp → COp → Bool
  | .copy d x, .copy d' x' => d == d' && oSame x x'
  | .take d x s, .take d' x' s' => d == d' && oSame x x' && decide (s = s')
  | .bin d op x y, .bin d' op' x' y' => d == d' && decide (op = op') && oSame x x' && oSame y y'
  | .un d op x, .un d' op' x' => d == d' && decide (op = op') && oSame x x'
  | .conv d k x, .conv d' k' x' => d == d' && k == k' && oSame x x'
  | .pick d a b c, .pick d' a' b' c' => d == d' && oSame a a' && oSame b b' && oSame c c'
  | .beq d n x y, .beq d' n' x' y' => d == d' && n == n' && oSame x x' && oSame y y'
  | .len d n x, .len d' n' x' => d == d' && n == n' && oSame x x'
  | .isnil d n x, .isnil d' n' x' => d == d' && n == n' && oSame x x'
  | .mm d n x y, .mm d' n' x' y' => d == d' && n == n' && oSame x x' && oSame y y'
  | .ext d t j, .ext d' t' j' => d == d' && t == t' && j == j'
  | .loadB d u n f, .loadB d' u' n' f' => d == d' && oSame u u' && decide (n = n') && f == f'
  | .storeB u x n s, .storeB u' x' n' s' => oSame u u' && oSame x x' && decide (n = n') && decide (s = s')
  | .fadd d u o, .fadd d' u' o' => d == d' && oSame u u' && o == o'
  | .iadd d t e i, .iadd d' t' e' i' => d == d' && t == t' && e == e' && oSame i i'
  | .loadE d t u n f, .loadE d' t' u' n' f' => d == d' && t == t' && u == u' && decide (n = n') && f == f'
  | .storeE x u n y, .storeE x' u' n' y' => x == x' && u == u' && decide (n = n') && oSame y y'
  | .sli d x a b c, .sli d' x' a' b' c' => d == d' && oSame x x' && ooSame a a' && ooSame b b' && ooSame c c'
  | .mks d e b z l c, .mks d' e' b' z' l' c' => d == d' && e == e' && b == b' && pSame z z' && oSame l l' && oSame c c'
  | .lit d e n xs ss, .lit d' e' n' xs' ss' => d == d' && e == e' && n == n' && lSame xs xs' && decide (ss = ss')
  | .build d zs ps ss, .build d' zs' ps' ss' => d == d' && pSames zs zs' && psSame ps ps' && decide (ss = ss')
  | .field d x o n f, .field d' x' o' n' f' => d == d' && oSame x x' && o == o' && decide (n = n') && f == f'
  | .app d e b x y ss, .app d' e' b' x' y' ss' => d == d' && e == e' && b == b' && oSame x x' && oSame y y' && decide (ss = ss')
  | .call d g sg xs ss, .call d' g' sg' xs' ss' => decide (d = d') && g == g' && decide (sg = sg') && lSame xs xs' && decide (ss = ss')
  | .callv d f g nc sg xs ss, .callv d' f' g' nc' sg' xs' ss' => decide (d = d') && oSame f f' && g == g' && nc == nc' && decide (sg = sg') && lSame xs xs' && decide (ss = ss')
  | .mkfn d g xs, .mkfn d' g' xs' => d == d' && g == g' && lSame xs xs'
  | .sidx d x y, .sidx d' x' y' => d == d' && oSame x x' && oSame y y'
  | .ssl d x a b, .ssl d' x' a' b' => d == d' && oSame x x' && ooSame a a' && ooSame b b'
  | .sstr d x, .sstr d' x' => d == d' && oSame x x'
  | _, _ => false
theorem COp.same_eq {a b : COp} (h : a.same b = true) : a = b := by
  unfold COp.same at h
  split at h <;> simp only [Bool.and_eq_true, beq_iff_eq, decide_eq_true_eq, Bool.false_eq_true] at h
  all_goals grind [oSame_eq, lSame_eq, ooSame_eq, pSame_eq, pSames_eq, psSame_eq]
end Go.Den
set_option autoImplicit false
namespace Go.Den

/-! ### What an operation reads, and whether it changes variables in memory -/
def opS : Operand → List Nat
  | .tmp t => [t]
  | _ => []
def srcS : Src → List Nat
  | .box u _ => [u]
  | _ => []
def srcN : Src → Bool
  | .box _ _ => false
  | _ => true
def oopS : Option Operand → List Nat
  | some x => opS x
  | none => []
def COp.rd : COp → List Nat
  | .fail => []
  | .copy _ x => opS x
  | .take _ x s => opS x ++ srcS s
  | .bin _ _ x y | .beq _ _ x y | .mm _ _ x y | .sidx _ x y => opS x ++ opS y
  | .un _ _ x | .conv _ _ x | .len _ _ x | .isnil _ _ x => opS x
  | .pick _ a b c => opS a ++ opS b ++ opS c
  | .ext _ t _ => [t]
  | .box _ _ x s => opS x ++ srcS s
  | .alloc _ _ _ => []
  | .loadB _ u _ _ => opS u
  | .storeB u x _ s => opS u ++ opS x ++ srcS s
  | .fadd _ u _ => opS u
  | .iadd _ t _ i => t :: opS i
  | .loadE _ t u _ _ => [t, u]
  | .storeE x u _ y => x :: u :: opS y
  | .sli _ x a b c => opS x ++ oopS a ++ oopS b ++ oopS c
  | .mks _ _ _ _ l c => opS l ++ opS c
  | .lit _ _ _ xs ss => xs.flatMap opS ++ ss.flatMap srcS
  | .build _ _ ps ss => (ps.map (·.2)).flatMap opS ++ ss.flatMap srcS
  | .field _ x _ _ _ => opS x
  | .app _ _ _ x y ss => opS x ++ opS y ++ ss.flatMap srcS
  | .call _ _ _ xs ss => xs.flatMap opS ++ ss.flatMap srcS
  | .callv _ f _ _ _ xs ss => opS f ++ xs.flatMap opS ++ ss.flatMap srcS
  | .mkfn _ _ xs => xs.flatMap opS
  | .ssl _ x a b => opS x ++ oopS a ++ oopS b
  | .sstr _ x => opS x
/-- Variables in memory stay. -/
def COp.still : COp → Bool
  | .take _ _ s => srcN s
  | .box _ _ _ _ | .alloc _ _ _ | .storeB _ _ _ _ | .fail => false
  | .lit _ _ _ _ ss | .build _ _ _ ss | .app _ _ _ _ _ ss => ss.all srcN
  | .call _ _ sg _ ss | .callv _ _ _ _ sg _ ss => sg.pure && ss.all srcN
  | _ => true

theorem valO_congr {σ σ' : List PV} {x : Operand} (h : ∀ y ∈ opS x, σ'.getD y .undef = σ.getD y .undef) : valO σ' x = valO σ x := by
  cases x with
  | tmp t => exact h t (by simp [opS])
  | _ => rfl
theorem valOs_congr {σ σ' : List PV} {xs : List Operand} (h : ∀ y ∈ xs.flatMap opS, σ'.getD y .undef = σ.getD y .undef) : xs.map (valO σ') = xs.map (valO σ) :=
  List.map_congr_left fun x hx => valO_congr fun y hy => h y (List.mem_flatMap.2 ⟨x, hx, hy⟩)
theorem eatH_congr {σ σ' : List PV} {H : Boxes} {s : Src} (h : ∀ y ∈ srcS s, σ'.getD y .undef = σ.getD y .undef) : eatH σ' H s = eatH σ H s := by
  cases s with
  | box u n => simp only [eatH]; rw [h u (by simp [srcS])]
  | _ => rfl
theorem eatsH_congr {σ σ' : List PV} : ∀ {ss : List Src} {H : Boxes}, (∀ y ∈ ss.flatMap srcS, σ'.getD y .undef = σ.getD y .undef) → eatsH σ' H ss = eatsH σ H ss
  | [], H, h => rfl
  | s :: ss, H, h => by
    simp only [eatsH]
    rw [eatH_congr fun y hy => h y (by simp [hy]), eatsH_congr fun y hy => h y (by simp only [List.flatMap_cons, List.mem_append]; exact .inr hy)]
theorem eatH_still {σ : List PV} {H : Boxes} {s : Src} (h : srcN s = true) : eatH σ H s = H := by cases s <;> first | rfl | cases h
theorem eatsH_still {σ : List PV} : ∀ {ss : List Src} {H : Boxes}, ss.all srcN = true → eatsH σ H ss = H
  | [], H, h => rfl
  | s :: ss, H, h => by
    simp only [List.all_cons, Bool.and_eq_true] at h
    simp only [eatsH]
    rw [eatH_still h.1, eatsH_still h.2]

theorem COp.run_loc {Tb : Nat → Rel} {lim : Nat} {cop : COp} {σ σ' : List PV} {H H' : Boxes} {v : PV} (h : ∀ y ∈ cop.rd, σ'.getD y .undef = σ.getD y .undef) (hr : cop.run Tb lim σ H v H') : cop.run Tb lim σ' H v H' := by
  have hO : ∀ x : Operand, (∀ y ∈ opS x, y ∈ cop.rd) → valO σ' x = valO σ x := fun x hx => valO_congr fun y hy => h y (hx y hy)
  have hOs : ∀ xs : List Operand, (∀ y ∈ xs.flatMap opS, y ∈ cop.rd) → xs.map (valO σ') = xs.map (valO σ) := fun x hx => valOs_congr fun y hy => h y (hx y hy)
  have hS : ∀ s : Src, (∀ y ∈ srcS s, y ∈ cop.rd) → eatH σ' H s = eatH σ H s := fun x hx => eatH_congr fun y hy => h y (hx y hy)
  have hSs : ∀ s : List Src, (∀ y ∈ s.flatMap srcS, y ∈ cop.rd) → eatsH σ' H s = eatsH σ H s := fun x hx => eatsH_congr fun y hy => h y (hx y hy)
  cases cop <;> simp only [COp.run, COp.rd] at hr h hO hOs hS hSs ⊢
  case copy d x => rw [hO x (by simp)]; exact hr
  case take d x s => rw [hO x (by simp +contextual), hS s (by simp +contextual)]; exact hr
  case bin d op x y => rw [hO x (by simp +contextual), hO y (by simp +contextual)]; exact hr
  case un d op x => rw [hO x (by simp)]; exact hr
  case conv d k x => rw [hO x (by simp)]; exact hr
  case pick d a b c => rw [hO a (by simp +contextual), hO b (by simp +contextual), hO c (by simp +contextual)]; exact hr
  case beq d op x y => rw [hO x (by simp +contextual), hO y (by simp +contextual)]; exact hr
  case len d k x => rw [hO x (by simp)]; exact hr
  case isnil d k x => rw [hO x (by simp)]; exact hr
  case mm d op x y => rw [hO x (by simp +contextual), hO y (by simp +contextual)]; exact hr
  case box d ck x s => rw [hO x (by simp +contextual), hS s (by simp +contextual)]; exact hr
  case alloc d ck zs => exact hr
  case loadB d u n f => rw [hO u (by simp)]; exact hr
  case storeB u x n s => rw [hO u (by simp +contextual), hO x (by simp +contextual), hS s (by simp +contextual)]; exact hr
  case fadd d u o => rw [hO u (by simp)]; exact hr
  case iadd d t e i => rw [h t (by simp), hO i (by simp +contextual)]; exact hr
  case loadE d t u n f => rw [h t (by simp), h u (by simp)]; exact hr
  case storeE x u n y => rw [h x (by simp), h u (by simp), hO y (by simp +contextual)]; exact hr
  case mks d e b z l c => rw [hO l (by simp +contextual), hO c (by simp +contextual)]; exact hr
  case lit d e n xs ss => rw [hOs xs (by simp +contextual), hSs ss (by simp +contextual)]; exact hr
  case call d g sg xs ss => rw [hOs xs (by simp +contextual), hSs ss (by simp +contextual)]; exact hr
  case callv d f g nc sg xs ss => rw [hO f (by simp +contextual), hOs xs (by simp +contextual), hSs ss (by simp +contextual)]; exact hr
  case mkfn d g xs => rw [hOs xs (by simp +contextual)]; exact hr
  case sidx d x y => rw [hO x (by simp +contextual), hO y (by simp +contextual)]; exact hr
  case ssl d x a b =>
    cases a <;> cases b <;> simp only [COp.run] at hr ⊢
    rw [hO x (by simp [oopS])]; exact hr

theorem COp.run_still {Tb : Nat → Rel} {lim : Nat} {cop : COp} {σ : List PV} {H H' : Boxes} {v : PV} (hs : cop.still = true) (hr : cop.run Tb lim σ H v H') : H' = H := by
  cases cop <;> simp only [COp.run, COp.still, Bool.false_eq_true] at hr hs
  case take d x s => rw [hr.2.2, eatH_still hs]
  case lit d e n xs ss => rw [hr.2.2, eatsH_still hs]
  case call d g sg xs ss =>
    simp only [Bool.and_eq_true] at hs
    obtain ⟨_, rs, H2, _, _, rfl⟩ := hr
    rw [if_pos hs.1, eatsH_still hs.2]
  case callv d f g nc sg xs ss =>
    simp only [Bool.and_eq_true] at hs
    obtain ⟨caps, _, _, _, rs, H2, _, _, rfl⟩ := hr
    rw [if_pos hs.1, eatsH_still hs.2]
  case ssl d x a b =>
    cases a <;> cases b <;> simp only [COp.run] at hr
    exact hr.2
  case mkfn d g xs => exact hr.2.2
  all_goals exact hr.2

/-! ### Updates -/
abbrev Upd := Option (Nat × PV)
def app (u : Upd) (σ : List PV) : List PV := match u with
  | some (d, v) => σ.set d v
  | none => σ
def updOf (d : Option Nat) (v : PV) : Upd := d.map fun d => (d, v)
theorem app_updOf (d : Option Nat) (v : PV) (σ : List PV) : app (updOf d v) σ = setD σ d v := by cases d <;> rfl

def GOp.rd (p : GOp) : List Nat := p.cop.rd ++ (match p.g with | some (j, _) => [j] | none => [])
def GOp.runU (Tb : Nat → Rel) (lim : Nat) (p : GOp) (σ : List PV) (H : Boxes) (u : Upd) (H' : Boxes) : Prop :=
  match p.g with
  | none => ∃ v, p.cop.run Tb lim σ H v H' ∧ u = updOf p.cop.dst v
  | some (j, b) => match σ.getD j .undef with
    | .bool c => if c = b then ∃ v, p.cop.run Tb lim σ H v H' ∧ u = updOf p.cop.dst v else u = updOf p.d (skipV p.fl) ∧ H' = H
    | .no => u = updOf p.d (skipV p.fl) ∧ H' = H
    | _ => False

theorem GOp.run_iff {Tb : Nat → Rel} {lim : Nat} {p : GOp} {σ σ' : List PV} {H H' : Boxes} : p.run Tb lim σ H σ' H' ↔ ∃ u, p.runU Tb lim σ H u H' ∧ σ' = app u σ := by
  unfold GOp.run GOp.runU
  cases hg : p.g with
  | none =>
    simp only
    constructor
    · rintro ⟨v, h1, rfl⟩; exact ⟨_, ⟨v, h1, rfl⟩, (app_updOf _ _ _).symm⟩
    · rintro ⟨_, ⟨v, h1, rfl⟩, rfl⟩; exact ⟨v, h1, app_updOf _ _ _⟩
  | some jb =>
    obtain ⟨j, b⟩ := jb
    simp only
    cases σ.getD j .undef <;> simp only [false_and, exists_false]
    · constructor
      · rintro ⟨rfl, rfl⟩; exact ⟨_, ⟨rfl, rfl⟩, (app_updOf _ _ _).symm⟩
      · rintro ⟨_, ⟨rfl, rfl⟩, rfl⟩; exact ⟨app_updOf _ _ _, rfl⟩
    · split
      · constructor
        · rintro ⟨v, h1, rfl⟩; exact ⟨_, ⟨v, h1, rfl⟩, (app_updOf _ _ _).symm⟩
        · rintro ⟨_, ⟨v, h1, rfl⟩, rfl⟩; exact ⟨v, h1, app_updOf _ _ _⟩
      · constructor
        · rintro ⟨rfl, rfl⟩; exact ⟨_, ⟨rfl, rfl⟩, (app_updOf _ _ _).symm⟩
        · rintro ⟨_, ⟨rfl, rfl⟩, rfl⟩; exact ⟨app_updOf _ _ _, rfl⟩

theorem GOp.runU_loc {Tb : Nat → Rel} {lim : Nat} {p : GOp} {σ σ' : List PV} {H H' : Boxes} {u : Upd} (h : ∀ y ∈ p.rd, σ'.getD y .undef = σ.getD y .undef) (hr : p.runU Tb lim σ H u H') : p.runU Tb lim σ' H u H' := by
  have hc : ∀ v, p.cop.run Tb lim σ H v H' → p.cop.run Tb lim σ' H v H' := fun v => COp.run_loc fun y hy => h y (by simp [GOp.rd, hy])
  unfold GOp.runU at hr ⊢
  cases hg : p.g with
  | none =>
    rw [hg] at hr
    obtain ⟨v, h1, h2⟩ := hr
    exact ⟨v, hc v h1, h2⟩
  | some jb =>
    obtain ⟨j, b⟩ := jb
    rw [hg] at hr
    simp only at hr ⊢
    rw [h j (by simp [GOp.rd, hg])]
    cases hv : σ.getD j .undef <;> rw [hv] at hr <;> simp only at hr ⊢
    · exact hr
    · split
      · rename_i hcb
        rw [if_pos hcb] at hr
        obtain ⟨v, h1, h2⟩ := hr
        exact ⟨v, hc v h1, h2⟩
      · rename_i hcb
        rw [if_neg hcb] at hr
        exact hr

theorem GOp.runU_still {Tb : Nat → Rel} {lim : Nat} {p : GOp} {σ : List PV} {H H' : Boxes} {u : Upd} (hs : p.cop.still = true) (hr : p.runU Tb lim σ H u H') : H' = H := by
  unfold GOp.runU at hr
  cases hg : p.g with
  | none =>
    rw [hg] at hr
    obtain ⟨v, h1, _⟩ := hr
    exact COp.run_still hs h1
  | some jb =>
    obtain ⟨j, b⟩ := jb
    rw [hg] at hr
    simp only at hr
    split at hr
    · split at hr
      · obtain ⟨v, h1, _⟩ := hr
        exact COp.run_still hs h1
      · exact hr.2
    · exact hr.2
    · exact hr.elim

theorem GOp.runU_slot {Tb : Nat → Rel} {lim : Nat} {p : GOp} {σ : List PV} {H H' : Boxes} {d : Nat} {v : PV} (hd : p.d = none ∨ p.d = p.cop.dst ∨ p.g = none) (hr : p.runU Tb lim σ H (some (d, v)) H') : p.cop.dst = some d := by
  have up : ∀ {o : Option Nat} {w : PV}, some (d, v) = updOf o w → o = some d := by
    intro o w h
    cases o with
    | none => cases h
    | some e => simp only [updOf, Option.map_some, Option.some.injEq, Prod.mk.injEq] at h; rw [h.1]
  unfold GOp.runU at hr
  cases hg : p.g with
  | none =>
    rw [hg] at hr
    obtain ⟨w, _, h2⟩ := hr
    exact up h2
  | some jb =>
    obtain ⟨j, b⟩ := jb
    have hd' : p.d = some d → p.cop.dst = some d := fun h => by
      rcases hd with h1 | h1 | h1
      · rw [h1] at h; cases h
      · rw [← h1]; exact h
      · rw [hg] at h1; cases h1
    rw [hg] at hr
    simp only at hr
    split at hr
    · split at hr
      · obtain ⟨w, _, h2⟩ := hr
        exact up h2
      · exact hd' (up hr.1)
    · exact hd' (up hr.1)
    · exact hr.elim

/-- A run in the order of the text, told. -/
theorem wpGs_trace {Tb : Nat → Rel} {lim : Nat} {K : KV} : ∀ {gs : List GOp} {σ : List PV} {H : Boxes}, wpGs Tb lim gs K σ H →
    ∃ (σs : Nat → List PV) (Hs : Nat → Boxes) (us : Nat → Upd), σs 0 = σ ∧ Hs 0 = H ∧ (∀ i g, gs[i]? = some g → g.runU Tb lim (σs i) (Hs i) (us i) (Hs (i + 1)) ∧ σs (i + 1) = app (us i) (σs i)) ∧ K (σs gs.length) (Hs gs.length)
  | [], σ, H, h => ⟨fun _ => σ, fun _ => H, fun _ => none, rfl, rfl, fun i g hg => by simp at hg, h⟩
  | g :: gs, σ, H, h => by
    obtain ⟨σ1, H1, hr, hk⟩ := h
    obtain ⟨u, hu, rfl⟩ := GOp.run_iff.1 hr
    obtain ⟨σs, Hs, us, e1, e2, e3, e4⟩ := wpGs_trace hk
    refine ⟨fun i => match i with | 0 => σ | i + 1 => σs i, fun i => match i with | 0 => H | i + 1 => Hs i, fun i => match i with | 0 => u | i + 1 => us i, rfl, rfl, fun i g' hg => ?_, e4⟩
    cases i with
    | zero =>
      simp only [List.getElem?_cons_zero, Option.some.injEq] at hg
      subst hg
      exact ⟨by simp only; rw [e2]; exact hu, e1⟩
    | succ i =>
      simp only [List.getElem?_cons_succ] at hg
      exact e3 i g' hg

end Go.Den
set_option autoImplicit false
namespace Go.Den

/-! ### Regions whose order is drawn: every order leads to where the text's order leads -/
def gSame (a b : GOp) : Bool := a.cop.same b.cop && decide (a.g = b.g) && decide (a.d = b.d) && a.fl == b.fl
theorem gSame_eq {a b : GOp} (h : gSame a b = true) : a = b := by
  simp only [gSame, Bool.and_eq_true, decide_eq_true_eq, beq_iff_eq] at h
  cases a; cases b
  simp only at h
  rw [COp.same_eq h.1.1.1, h.1.1.2, h.1.2, h.2]

def predsIn (m : Nat) (o : Oper) : Bool := o.after.toList.all fun e => !Region.binds .any e || m.testBit e.on
def readyM (os : List Oper) (m i : Nat) : Bool := !m.testBit i && (match os[i]? with | some o => predsIn m o | none => false)
def condC (gs : List GOp) (m i : Nat) (g : GOp) : Bool :=
  (List.range gs.length).all fun j => j == i || match gs[j]? with
    | some gj => (match gj.cop.dst with | some y => !(g.rd.contains y || g.cop.dst == some y) || (m.testBit j == decide (j < i)) | none => true) && (gj.cop.still || (m.testBit j == decide (j < i)))
    | none => true

abbrev Ent := Nat × List G
def ins (m : Nat) (Γ : List G) : List Ent → Option (List Ent)
  | [] => some [(m, Γ)]
  | e :: es => if m = e.1 then (if Γ = e.2 then some (e :: es) else none) else match ins m Γ es with
    | some es' => some (e :: es')
    | none => none
def nx1 (E : Env) (os : List Oper) (gs : List GOp) (e : Ent) : List Nat → List Ent → Option (List Ent)
  | [], acc => some acc
  | i :: is, acc =>
    if readyM os e.1 i = true then
      match os[i]?, gs[i]? with
      | some o, some g => match elabG E os e.2 o with
        | some (g', Γ') => if gSame g' g = true ∧ condC gs e.1 i g = true then
            (match ins (e.1 ||| 1 <<< i) Γ' acc with
            | some acc' => nx1 E os gs e is acc'
            | none => none) else none
        | none => none
      | _, _ => none
    else nx1 E os gs e is acc
def nxs (E : Env) (os : List Oper) (gs : List GOp) : List Ent → List Ent → Option (List Ent)
  | [], acc => some acc
  | e :: es, acc => match nx1 E os gs e (List.range os.length) acc with
    | some acc' => nxs E os gs es acc'
    | none => none
def chk (E : Env) (os : List Oper) (gs : List GOp) (Γf : List G) : Nat → List Ent → Bool
  | 0, es => es.all fun e => (List.range os.length).all (fun i => e.1.testBit i) && decide (e.2 = Γf)
  | k + 1, es => (es.all fun e => (List.range os.length).any fun i => readyM os e.1 i) && match nxs E os gs es [] with
    | some es' => chk E os gs Γf k es'
    | none => false
def statOk (gs : List GOp) (n : Nat) : Bool := gs.all fun g => (decide (g.d = none) || decide (g.d = g.cop.dst) || g.g.isNone) && (match g.cop.dst with | some d => decide (d < n) | none => true)
def elabDraw (E : Env) (os : List Oper) (Γ : List G) : Option (List GOp × List G) :=
  match elabL E os os Γ with
  | some (gs, Γ') => if statOk gs Γ.length = true ∧ chk E os gs Γ' os.length [(0, Γ)] = true then some (gs, Γ') else none
  | none => none

theorem ins_mem {m : Nat} {Γ : List G} : ∀ {es es' : List Ent}, ins m Γ es = some es' → (m, Γ) ∈ es' ∧ ∀ e ∈ es, e ∈ es'
  | [], es', h => by simp only [ins, Option.some.injEq] at h; subst h; simp
  | e :: es, es', h => by
    simp only [ins] at h
    split at h
    · rename_i h1
      split at h
      · rename_i h2
        injection h with h; subst h
        exact ⟨by rw [h1, h2]; simp, fun _ h => h⟩
      · cases h
    · split at h
      · rename_i es2 h2
        injection h with h; subst h
        obtain ⟨g1, g2⟩ := ins_mem h2
        exact ⟨by simp [g1], fun x hx => by
          rcases List.mem_cons.1 hx with rfl | hx
          · simp
          · simp [g2 x hx]⟩
      · cases h

def NxOk (E : Env) (os : List Oper) (gs : List GOp) (e : Ent) (es' : List Ent) (i : Nat) : Prop :=
  ∃ o g Γ', os[i]? = some o ∧ gs[i]? = some g ∧ elabG E os e.2 o = some (g, Γ') ∧ condC gs e.1 i g = true ∧ (e.1 ||| 1 <<< i, Γ') ∈ es'

theorem nx1_mem {E : Env} {os : List Oper} {gs : List GOp} {e : Ent} : ∀ {is : List Nat} {acc es' : List Ent}, nx1 E os gs e is acc = some es' → (∀ x ∈ acc, x ∈ es') ∧ ∀ i ∈ is, readyM os e.1 i = true → NxOk E os gs e es' i
  | [], acc, es', h => by simp only [nx1, Option.some.injEq] at h; subst h; exact ⟨fun _ h => h, fun i hi => by simp at hi⟩
  | i :: is, acc, es', h => by
    simp only [nx1] at h
    split at h
    · split at h
      · rename_i o g ho hg
        split at h
        · rename_i g' Γ' he
          split at h
          · rename_i hc
            split at h
            · rename_i acc' hi
              obtain ⟨i1, i2⟩ := ins_mem hi
              obtain ⟨h1, h2⟩ := nx1_mem h
              refine ⟨fun x hx => h1 x (i2 x hx), fun j hj hr => ?_⟩
              rcases List.mem_cons.1 hj with rfl | hj
              · have := gSame_eq hc.1
                subst this
                exact ⟨o, g', Γ', ho, hg, he, hc.2, h1 _ i1⟩
              · exact h2 j hj hr
            · cases h
          · cases h
        · cases h
      · cases h
    · rename_i hnr
      obtain ⟨h1, h2⟩ := nx1_mem h
      refine ⟨h1, fun j hj hr => ?_⟩
      rcases List.mem_cons.1 hj with rfl | hj
      · exact absurd hr hnr
      · exact h2 j hj hr
theorem nxs_mem {E : Env} {os : List Oper} {gs : List GOp} : ∀ {es acc es' : List Ent}, nxs E os gs es acc = some es' → (∀ x ∈ acc, x ∈ es') ∧ ∀ e ∈ es, ∀ i, i < os.length → readyM os e.1 i = true → NxOk E os gs e es' i
  | [], acc, es', h => by simp only [nxs, Option.some.injEq] at h; subst h; exact ⟨fun _ h => h, fun e he => by simp at he⟩
  | e :: es, acc, es', h => by
    simp only [nxs] at h
    split at h
    · rename_i acc' h1
      obtain ⟨a1, a2⟩ := nx1_mem h1
      obtain ⟨b1, b2⟩ := nxs_mem h
      refine ⟨fun x hx => b1 x (a1 x hx), fun x hx i hi hr => ?_⟩
      rcases List.mem_cons.1 hx with rfl | hx
      · obtain ⟨o, g, Γ', q1, q2, q3, q4, q5⟩ := a2 i (List.mem_range.2 hi) hr
        exact ⟨o, g, Γ', q1, q2, q3, q4, b1 _ q5⟩
      · exact b2 x hx i hi hr
    · cases h

/-! #### values behind a set of the operations -/
def val (us : Nat → Upd) (σ0 : List PV) (p : Nat → Bool) : Nat → Nat → PV
  | 0, y => σ0.getD y .undef
  | k + 1, y => match us k with
    | some (d, v) => if p k = true ∧ d = y then v else val us σ0 p k y
    | none => val us σ0 p k y
def slotU (u : Upd) : Option Nat := u.map (·.1)

theorem val_step {us : Nat → Upd} {σ0 : List PV} {p : Nat → Bool} {k y : Nat} (h : slotU (us k) = some y → p k = false) : val us σ0 p (k + 1) y = val us σ0 p k y := by
  simp only [val]
  cases hu : us k with
  | none => rfl
  | some dv =>
    obtain ⟨d, v⟩ := dv
    simp only
    rw [if_neg]
    rintro ⟨h1, rfl⟩
    rw [h (by rw [hu]; rfl)] at h1
    cases h1
theorem val_same {us : Nat → Upd} {σ0 : List PV} {p q : Nat → Bool} {y : Nat} : ∀ {k : Nat}, (∀ j, j < k → slotU (us j) = some y → p j = q j) → val us σ0 p k y = val us σ0 q k y
  | 0, _ => rfl
  | k + 1, h => by
    have ih := val_same (σ0 := σ0) (k := k) fun j hj => h j (by omega)
    simp only [val]
    cases hu : us k with
    | none => exact ih
    | some dv =>
      obtain ⟨d, v⟩ := dv
      simp only
      by_cases hd : d = y
      · rw [h k (by omega) (by rw [hu, hd]; rfl), ih]
      · rw [if_neg (by simp [hd]), if_neg (by simp [hd]), ih]
theorem val_stop {us : Nat → Upd} {σ0 : List PV} {p : Nat → Bool} {i y : Nat} : ∀ {n : Nat}, i ≤ n → (∀ j, i ≤ j → j < n → slotU (us j) = some y → p j = false) → val us σ0 p n y = val us σ0 p i y
  | 0, hi, _ => by rw [Nat.le_zero.1 hi]
  | n + 1, hi, h => by
    by_cases he : i = n + 1
    · rw [he]
    · rw [val_step (fun hs => h n (by omega) (by omega) hs)]
      exact val_stop (by omega) fun j h1 h2 => h j h1 (by omega)
theorem val_agree {us : Nat → Upd} {σ0 : List PV} {p : Nat → Bool} {i n y : Nat} (hi : i ≤ n) (hp : p i = false) (h : ∀ j, j < n → j ≠ i → slotU (us j) = some y → p j = decide (j < i)) : val us σ0 p n y = val us σ0 (fun _ => true) i y := by
  rw [val_stop hi fun j h1 h2 h3 => by
    by_cases he : j = i
    · rw [he]; exact hp
    · rw [h j h2 he h3]; simp; omega]
  exact val_same fun j hj hs => by rw [h j (by omega) (by omega) hs]; simpa using hj
def selU : Upd → Nat → PV → PV
  | some (d, v), y, x => if d = y then v else x
  | none, _, x => x
theorem val_add {us : Nat → Upd} {σ0 : List PV} {p p' : Nat → Bool} {i n y : Nat} (hi : i < n) (hp' : ∀ j, p' j = (j == i || p j)) (hp : p i = false) (h : slotU (us i) = some y → ∀ j, j < n → j ≠ i → slotU (us j) = some y → p j = decide (j < i)) :
    val us σ0 p' n y = selU (us i) y (val us σ0 p n y) := by
  have hne : slotU (us i) ≠ some y → val us σ0 p' n y = val us σ0 p n y := fun hs => val_same fun j _ hj => by
    rw [hp']
    by_cases he : j = i
    · subst he; exact absurd hj hs
    · simp [he]
  cases hu : us i with
  | none => exact hne (by rw [hu]; simp [slotU])
  | some dv =>
    obtain ⟨d, v⟩ := dv
    simp only [selU]
    by_cases hd : d = y
    · rw [if_pos hd]
      have hs : slotU (us i) = some y := by rw [hu, hd]; rfl
      rw [val_stop (i := i + 1) (by omega) fun j h1 h2 h3 => by
        rw [hp', h hs j h2 (by omega) h3]
        simp; omega]
      simp only [val, hu]
      rw [if_pos ⟨by rw [hp']; simp, hd⟩]
    · rw [if_neg hd]
      exact hne (by rw [hu]; simp [slotU, hd])

theorem app_get {u : Upd} {σ : List PV} {y : Nat} (h : ∀ d, slotU u = some d → d < σ.length) : (app u σ).getD y .undef = selU u y (σ.getD y .undef) := by
  cases u with
  | none => rfl
  | some dv =>
    obtain ⟨d, v⟩ := dv
    have hd := h d rfl
    simp only [app, selU, List.getD_eq_getElem?_getD]
    by_cases hy : d = y
    · subst hy; simp [hd]
    · rw [List.getElem?_set_ne hy, if_neg hy]
theorem app_len {u : Upd} {σ : List PV} : (app u σ).length = σ.length := by cases u <;> simp [app]

theorem getD_ext {σ σ' : List PV} (hl : σ.length = σ'.length) (h : ∀ y, σ.getD y .undef = σ'.getD y .undef) : σ = σ' := by
  apply List.ext_getElem hl
  intro i h1 h2
  have := h i
  simpa [List.getD_eq_getElem?_getD, h1, h2] using this

section
variable {X : Cx} {L0 : Nat → Lab} {w0 : World} {K : KV} {Q : Exit → Act → World → Prop} {E : Env} {Tb : Nat → Rel}

theorem testBit_or {m i j : Nat} : (m ||| 1 <<< i).testBit j = (j == i || m.testBit j) := by
  rw [Nat.testBit_or]
  have : (1 <<< i).testBit j = decide (i = j) := by
    rw [Nat.shiftLeft_eq, Nat.one_mul, Nat.testBit_two_pow]
  rw [this]
  by_cases h : j = i
  · subst h; simp
  · rw [show decide (i = j) = false by simp; exact fun hx => h hx.symm, show (j == i) = false by simpa using h]; simp

/-- The state behind the set m of a region's operations. -/
def At (X : Cx) (L0 : Nat → Lab) (w0 : World) (gs : List GOp) (us : Nat → Upd) (Hs : Nat → Boxes) (σ0 : List PV) (n : Nat) (e : Ent) (listed : Array Bool) (a : Act) (w : World) : Prop :=
  (listed.size = n ∧ ∀ i, (i < n → listed.getD i true = e.1.testBit i ∧ listed.getD i false = e.1.testBit i) ∧ (n ≤ i → e.1.testBit i = false)) ∧ ∃ s : S, s.a = a ∧ s.w = w ∧ Sim X e.2 s ∧ Fr X L0 w0 s.L s.w ∧ s.σ.length = σ0.length ∧ (∀ y, s.σ.getD y .undef = val us σ0 (fun i => e.1.testBit i) n y) ∧
    ∃ k, k ≤ n ∧ s.H = Hs k ∧ ∀ j g, gs[j]? = some g → g.cop.still = false → e.1.testBit j = decide (j < k)

theorem ready_iff {ops : Array Oper} {gs : List GOp} {us : Nat → Upd} {Hs : Nat → Boxes} {σ0 : List PV} {e : Ent} {listed : Array Bool} {a : Act} {w : World} (h : At X L0 w0 gs us Hs σ0 ops.toList.length e listed a w) {i : Nat} : i ∈ Region.ready .any ops listed ↔ i < ops.toList.length ∧ readyM ops.toList e.1 i = true := by
  obtain ⟨⟨hsz, hl⟩, _⟩ := h
  rw [mem_ready]
  have key : ∀ o ∈ ops.toList, (∀ d ∈ o.after, Region.binds .any d = true → listed.getD d.on false = true) ↔ (∀ d ∈ o.after, Region.binds .any d = true → (d.on < ops.toList.length ∧ e.1.testBit d.on = true)) := by
    intro o _
    refine forall_congr' fun d => forall_congr' fun _ => forall_congr' fun _ => ?_
    constructor
    · intro hd
      have hlt : d.on < ops.toList.length := by
        rcases Nat.lt_or_ge d.on ops.toList.length with h1 | h1
        · exact h1
        · rw [Array.getD_eq_getD_getElem?, Array.getElem?_eq_none (by omega)] at hd; cases hd
      exact ⟨hlt, by rw [← ((hl _).1 hlt).2]; exact hd⟩
    · rintro ⟨h1, h2⟩
      rw [((hl _).1 h1).2]; exact h2
  constructor
  · rintro ⟨h1, o, ho, h2⟩
    have hi : i < ops.size := (Array.getElem?_eq_some_iff.1 ho).1
    have hi' : i < ops.toList.length := by simpa using hi
    rw [((hl i).1 hi').1] at h1
    refine ⟨hi', ?_⟩
    have ho' : ops.toList[i]? = some o := by simpa using ho
    have := (key o (List.mem_of_getElem? ho')).1 h2
    simp only [readyM, ho', h1, Bool.not_false, Bool.true_and, predsIn, List.all_eq_true, Bool.or_eq_true, Bool.not_eq_true']
    intro d hd
    cases hb : Region.binds .any d
    · exact .inl rfl
    · exact .inr (this d (by simpa using hd) hb).2
  · rintro ⟨hi, hr⟩
    have ho : ops.toList[i]? = some ops.toList[i] := List.getElem?_eq_getElem hi
    simp only [readyM, ho, Bool.and_eq_true, Bool.not_eq_true'] at hr
    refine ⟨by rw [((hl i).1 hi).1]; exact hr.1, ops.toList[i], by simpa using ho, fun d hd hb => ?_⟩
    have h2 := hr.2
    simp only [predsIn, List.all_eq_true, Bool.or_eq_true, Bool.not_eq_true'] at h2
    have h3 := (h2 d (by simpa using hd)).resolve_left (by simp [hb])
    have hlt : d.on < ops.toList.length := by
      rcases Nat.lt_or_ge d.on ops.toList.length with h4 | h4
      · exact h4
      · rw [(hl _).2 h4] at h3; cases h3
    rw [((hl _).1 hlt).2]; exact h3

theorem hs_const {gs : List GOp} {Hs : Nat → Boxes} (hst : ∀ i g, gs[i]? = some g → g.cop.still = true → Hs (i + 1) = Hs i) : ∀ {k i : Nat}, k ≤ i → i ≤ gs.length → (∀ j g, k ≤ j → j < i → gs[j]? = some g → g.cop.still = true) → Hs i = Hs k
  | k, 0, hk, _, _ => by rw [Nat.le_zero.1 hk]
  | k, i + 1, hk, hi, h => by
    by_cases he : k = i + 1
    · rw [he]
    · have hg : gs[i]? = some gs[i] := List.getElem?_eq_getElem (by omega)
      rw [hst i _ hg (h i _ (by omega) (by omega) hg)]
      exact hs_const hst (by omega) (by omega) fun j g h1 h2 => h j g h1 (by omega)

theorem elabL_len {E : Env} {ops : List Oper} : ∀ {l : List Oper} {Γ Γ' : List G} {gs : List GOp}, elabL E ops l Γ = some (gs, Γ') → gs.length = l.length
  | [], _, _, _, h => by simp only [elabL, Option.some.injEq, Prod.mk.injEq] at h; rw [← h.1]; rfl
  | o :: os, Γ, Γ', gs, h => by
    simp only [elabL] at h
    split at h
    · cases h
    · split at h
      · cases h
      · rename_i gs' Γ2 h2
        simp only [Option.some.injEq, Prod.mk.injEq] at h
        rw [← h.1, List.length_cons, elabL_len h2, List.length_cons]

theorem draw_step {ops : Array Oper} {gs : List GOp} {Γf : List G} {σs : Nat → List PV} {Hs : Nat → Boxes} {us : Nat → Upd} (hE : E.P = X.P) (hT : Known X.P E Tb) (hlen : gs.length = ops.toList.length)
    (htr : ∀ i g, gs[i]? = some g → g.runU Tb X.lim (σs i) (Hs i) (us i) (Hs (i + 1)) ∧ σs (i + 1) = app (us i) (σs i)) (hstat : statOk gs (σs 0).length = true) (hσl : ∀ i, i ≤ gs.length → (σs i).length = (σs 0).length) (hσv : ∀ i y, i ≤ gs.length → (σs i).getD y .undef = val us (σs 0) (fun _ => true) i y)
    (hK : K (σs gs.length) (Hs gs.length)) (hQ : ∀ a w, Good X Γf L0 w0 K a w → Q .normal a w) : ∀ (fuel : Nat) (es : List Ent) (e : Ent) (listed : Array Bool) (a : Act) (w : World), chk E ops.toList gs Γf fuel es = true → e ∈ es → At X L0 w0 gs us Hs (σs 0) ops.toList.length e listed a w →
    wpAny X.P .any ops Q fuel listed a w := by
  have hst : ∀ i g, gs[i]? = some g → g.cop.still = true → Hs (i + 1) = Hs i := fun i g hg hs => GOp.runU_still hs (htr i g hg).1
  have hstat' : ∀ g ∈ gs, (g.d = none ∨ g.d = g.cop.dst ∨ g.g = none) ∧ ∀ d, g.cop.dst = some d → d < (σs 0).length := by
    intro g hg
    simp only [statOk, List.all_eq_true, Bool.and_eq_true, Bool.or_eq_true, decide_eq_true_eq, Option.isNone_iff_eq_none] at hstat
    obtain ⟨h1, h2⟩ := hstat g hg
    refine ⟨by rcases h1 with (h1 | h1) | h1 <;> simp [h1], fun d hd => ?_⟩
    rw [hd] at h2; simpa using h2
  have hslot : ∀ i g d, gs[i]? = some g → slotU (us i) = some d → g.cop.dst = some d := fun i g d hg hd => by
    cases hu : us i with
    | none => rw [hu] at hd; cases hd
    | some dv =>
      obtain ⟨d', v⟩ := dv
      rw [hu] at hd
      simp only [slotU, Option.map_some, Option.some.injEq] at hd
      subst hd
      have := (htr i g hg).1
      rw [hu] at this
      exact GOp.runU_slot (hstat' g (List.mem_of_getElem? hg)).1 this
  intro fuel
  induction fuel with
  | zero =>
    intro es e listed a w hc he hat
    have hr : Region.ready .any ops listed = [] := by
      rw [List.eq_nil_iff_forall_not_mem]
      intro i hi
      obtain ⟨h1, h2⟩ := (ready_iff hat).1 hi
      simp only [chk, List.all_eq_true, Bool.and_eq_true, List.mem_range, decide_eq_true_eq] at hc
      have := (hc e he).1 i h1
      simp [readyM, this] at h2
    refine ⟨hr, hQ _ _ ?_⟩
    simp only [chk, List.all_eq_true, Bool.and_eq_true, List.mem_range, decide_eq_true_eq] at hc
    obtain ⟨hc1, hc2⟩ := hc e he
    obtain ⟨_, s, rfl, rfl, hs, hf, hl, hv, k, hk, hH, hkk⟩ := hat
    have e1 : s.σ = σs gs.length := by
      refine getD_ext (by rw [hl, hσl _ (Nat.le_refl _)]) fun y => ?_
      rw [hv, hσv _ _ (Nat.le_refl _), hlen]
      exact val_same fun j hj _ => hc1 j hj
    have e2 : s.H = Hs gs.length := by
      rw [hH]
      refine (hs_const hst (by omega) (Nat.le_refl _) fun j g h1 h2 hg => ?_).symm
      cases hq : g.cop.still with
      | true => rfl
      | false =>
        have := hkk j g hg hq
        rw [hc1 j (by omega)] at this
        have : j < k := by simpa using this.symm
        omega
    exact ⟨s, rfl, rfl, by rw [← hc2]; exact hs, hf, by rw [e1, e2]; exact hK⟩
  | succ fuel ih =>
    intro es e listed a w hc he hat
    simp only [chk, Bool.and_eq_true] at hc
    obtain ⟨hc1, hc2⟩ := hc
    split at hc2
    · rename_i es' hnx
      refine ⟨fun hr => ?_, fun i hi => ?_⟩
      · exfalso
        simp only [List.all_eq_true, List.any_eq_true, List.mem_range] at hc1
        obtain ⟨i, h1, h2⟩ := hc1 e he
        have := (ready_iff hat).2 ⟨h1, h2⟩
        rw [hr] at this; cases this
      · obtain ⟨hin, hrd⟩ := (ready_iff hat).1 hi
        obtain ⟨o, g, Γ', ho, hg, hel, hcc, hmem⟩ := (nxs_mem hnx).2 e he i hin hrd
        obtain ⟨⟨hsz, hli⟩, s, rfl, rfl, hs, hf, hl, hv, k, hk, hH, hkk⟩ := hat
        have hbit : e.1.testBit i = false := by
          simp only [readyM, Bool.and_eq_true, Bool.not_eq_true'] at hrd; exact hrd.1
        -- what is asked of the others
        have hcc' : ∀ j gj, gs[j]? = some gj → j ≠ i → (∀ y, gj.cop.dst = some y → (y ∈ g.rd ∨ g.cop.dst = some y) → e.1.testBit j = decide (j < i)) ∧ (gj.cop.still = false → e.1.testBit j = decide (j < i)) := by
          intro j gj hj hne
          have hjl := (List.getElem?_eq_some_iff.1 hj).1
          simp only [condC, List.all_eq_true, List.mem_range] at hcc
          have := hcc j hjl
          rw [hj] at this
          simp only [Bool.or_eq_true, beq_iff_eq, hne, false_or, Bool.and_eq_true] at this
          obtain ⟨t1, t2⟩ := this
          refine ⟨fun y hy hyy => ?_, fun hq => ?_⟩
          · rw [hy] at t1
            simp only [Bool.or_eq_true, beq_iff_eq, Bool.not_eq_true', Bool.or_eq_false_iff] at t1
            rcases t1 with t1 | t1
            · exfalso
              rcases hyy with h1 | h1
              · have : g.rd.contains y = true := by simpa using h1
                rw [this] at t1; cases t1.1
              · have := t1.2; simp [h1] at this
            · exact t1
          · rcases t2 with t2 | t2
            · rw [hq] at t2; cases t2
            · exact t2
        obtain ⟨hrun, hσ⟩ := htr i g hg
        have hloc : ∀ y, (y ∈ g.rd ∨ g.cop.dst = some y) → ∀ j, j < ops.toList.length → j ≠ i → slotU (us j) = some y → e.1.testBit j = decide (j < i) := fun y hy j hj hne hsl => by
          have hgj : gs[j]? = some gs[j] := List.getElem?_eq_getElem (by omega)
          exact (hcc' j _ hgj hne).1 y (hslot j _ y hgj hsl) hy
        have hread : ∀ y ∈ g.rd, s.σ.getD y .undef = (σs i).getD y .undef := fun y hy => by
          rw [hv, hσv i y (by omega)]
          exact val_agree (by omega) hbit (hloc y (.inl hy))
        have hHi : s.H = Hs i := by
          rw [hH]
          rcases Nat.le_total k i with hki | hki
          · refine (hs_const hst hki (by omega) fun j gj h1 h2 hgj => ?_).symm
            cases hq : gj.cop.still with
            | true => rfl
            | false =>
              have a1 := hkk j gj hgj hq
              have a2 := (hcc' j gj hgj (by omega)).2 hq
              rw [a1] at a2
              have : j < k := by simpa [h2] using a2
              omega
          · refine hs_const hst hki (by omega) fun j gj h1 h2 hgj => ?_
            cases hq : gj.cop.still with
            | true => rfl
            | false =>
              have a1 := hkk j gj hgj hq
              by_cases hji : j = i
              · subst hji; rw [hbit] at a1; have : ¬ j < k := by simpa using a1.symm
                omega
              · have a2 := (hcc' j gj hgj hji).2 hq
                rw [a1] at a2
                have : ¬ (j < i) := by omega
                simp [this, h2] at a2
        have hrun' : g.run Tb X.lim s.σ s.H (app (us i) s.σ) (Hs (i + 1)) := by
          rw [hHi]
          exact GOp.run_iff.2 ⟨us i, GOp.runU_loc hread hrun, rfl⟩
        have hop : ops[i]? = some o := by simpa using ho
        have := elabG_sound (Q := Q) (K := fun σ' H' => σ' = app (us i) s.σ ∧ H' = Hs (i + 1)) hE hT hel hs hf hrun' ⟨rfl, rfl⟩
        have next : ∀ a w, Good X Γ' L0 w0 (fun σ' H' => σ' = app (us i) s.σ ∧ H' = Hs (i + 1)) a w → wpAny X.P .any ops Q fuel (listed.setIfInBounds i true) a w := by
          rintro a' w' ⟨s1, rfl, rfl, hs1, hf1, e1, e2⟩
          refine ih es' (e.1 ||| 1 <<< i, Γ') _ _ _ hc2 hmem ⟨⟨by simp [hsz], fun j => ⟨fun hj => ?_, fun hj => ?_⟩⟩, s1, rfl, rfl, hs1, hf1, by rw [e1, app_len, hl], fun y => ?_, (if g.cop.still then k else i + 1), ?_, ?_, ?_⟩
          · simp only [testBit_or]
            by_cases hji : j = i
            · subst hji
              have hjs : j < listed.size := by omega
              simp [Array.getD_eq_getD_getElem?, hjs]
            · obtain ⟨b1, b2⟩ := (hli j).1 hj
              rw [getD_set_ne true (Ne.symm hji), getD_set_ne false (Ne.symm hji), b1, b2]
              simp [hji]
          · simp only [testBit_or, (hli j).2 hj]
            simp; omega
          · rw [e1, app_get (fun d hd => by rw [hl]; exact (hstat' g (List.mem_of_getElem? hg)).2 d (hslot i g d hg hd))]
            have := val_add (us := us) (σ0 := σs 0) (p := fun j => e.1.testBit j) (p' := fun j => (e.1 ||| 1 <<< i).testBit j) (i := i) (n := ops.toList.length) (y := y) hin (fun j => testBit_or) hbit (fun hsl => hloc y (.inr (hslot i g y hg hsl)))
            simp only at this ⊢
            rw [this, hv]
          · split <;> omega
          · rw [e2]
            split
            · rename_i hq; rw [hst i g hg hq, ← hHi, hH]
            · rfl
          · intro j gj hgj hq
            simp only [testBit_or]
            by_cases hji : j = i
            · subst hji
              rw [hg] at hgj; injection hgj with hgj; subst hgj
              rw [if_neg (by rw [hq]; simp)]
              simp
            · have a2 := (hcc' j gj hgj hji).2 hq
              rw [a2]
              split
              · have a1 := hkk j gj hgj hq
                rw [a2] at a1
                simp [hji, a1]
              · have e0 : decide (j < i) = decide (j < i + 1) := decide_eq_decide.2 ⟨by omega, by omega⟩
                rw [← e0]; simp [hji]
        show wpOp X.P ops Q i (wpAny X.P .any ops Q fuel (listed.setIfInBounds i true)) s.a s.w
        unfold wpOp
        simp only [hop]
        split
        · rename_i hw
          rw [if_pos hw] at this
          exact .inl (Oper.wp_mono next this)
        · rename_i hw
          rw [if_neg hw] at this
          exact next _ _ this
    · cases hc2

theorem drawn_sim {s : S} {Γ : List G} (h : Sim X Γ s) (n : Nat) : Sim X Γ { s with w := { s.w with drawn := n } } := by
  have hR : ∀ {m : M} {fp : Nat → Prop} {v : PV} {c : Value}, R X.P s.w m fp v c → R X.P { s.w with drawn := n } m fp v c := fun hr => R.frame hr fun _ _ => rfl
  refine ⟨h.lenG, h.lenA, h.defs, fun i g hg => ?_, fun r b hb => ?_, h.top, h.n0⟩
  · exact (h.slot i g hg).out ⟨rfl, rfl, fun _ _ => ⟨rfl, rfl⟩, fun _ _ => ⟨rfl, rfl⟩, fun _ r b hr => ⟨b, hr, rfl, rfl, fun _ _ => ⟨rfl, rfl⟩⟩⟩
  · exact BoxOk.step (h.box r b hb) ⟨rfl, rfl⟩ (fun _ _ => ⟨rfl, rfl⟩) (H_lt hb) (Nat.le_refl _) (fun _ _ => rfl)

theorem draw_sound {id : Nat} {ops : Array Oper} {gs : List GOp} {Γ Γ' : List G} {s : S} (hE : E.P = X.P) (hm : X.P.follows .mixedOrders = true) (hT : Known X.P E Tb) (he : elabDraw E ops.toList Γ = some (gs, Γ')) (h : Sim X Γ s) (f : Fr X L0 w0 s.L s.w)
    (hk : wpGs Tb X.lim gs K s.σ s.H) (hQ : ∀ a w, Good X Γ' L0 w0 K a w → Q .normal a w) : (Code.region id ops true).wp X.P Q s.a s.w := by
  unfold elabDraw at he
  split at he
  · rename_i gs' Γ2 hel
    split at he
    · rename_i hc
      simp only [Option.some.injEq, Prod.mk.injEq] at he
      obtain ⟨rfl, rfl⟩ := he
      obtain ⟨hstat, hchk⟩ := hc
      obtain ⟨σs, Hs, us, e1, e2, htr, hK⟩ := wpGs_trace hk
      have hlen := elabL_len hel
      have hσl : ∀ i, i ≤ gs'.length → (σs i).length = (σs 0).length := by
        intro i
        induction i with
        | zero => intro _; rfl
        | succ i ih =>
          intro hi
          have hg : gs'[i]? = some gs'[i] := List.getElem?_eq_getElem (by omega)
          rw [(htr i _ hg).2, app_len, ih (by omega)]
      have hΓl : Γ.length = (σs 0).length := by rw [e1, h.lenG]
      have hstat2 : statOk gs' (σs 0).length = true := by rw [← hΓl]; exact hstat
      have hσv : ∀ i y, i ≤ gs'.length → (σs i).getD y .undef = val us (σs 0) (fun _ => true) i y := by
        intro i
        induction i with
        | zero => intro y _; rfl
        | succ i ih =>
          intro y hi
          have hg : gs'[i]? = some gs'[i] := List.getElem?_eq_getElem (by omega)
          obtain ⟨hr, hσ⟩ := htr i _ hg
          rw [hσ, app_get (fun d hd => by
            rw [hσl i (by omega)]
            simp only [statOk, List.all_eq_true, Bool.and_eq_true, Bool.or_eq_true, decide_eq_true_eq, Option.isNone_iff_eq_none] at hstat2
            obtain ⟨h1, h2⟩ := hstat2 _ (List.getElem_mem (show i < gs'.length by omega))
            have hd' : gs'[i].d = none ∨ gs'[i].d = gs'[i].cop.dst ∨ gs'[i].g = none := by rcases h1 with (h1 | h1) | h1 <;> simp [h1]
            cases hu : us i with
            | none => rw [hu] at hd; cases hd
            | some dv =>
              obtain ⟨d', v⟩ := dv
              rw [hu] at hd hr
              simp only [slotU, Option.map_some, Option.some.injEq] at hd
              subst hd
              have := GOp.runU_slot hd' hr
              rw [this] at h2; simpa using h2), ih y (by omega)]
          simp only [val]
          cases us i with
          | none => rfl
          | some dv => simp [selU]
      refine wp_region_any hm ?_
      have hsz : ops.size = ops.toList.length := by simp
      rw [hsz]
      refine draw_step (K := K) hE hT hlen htr hstat2 hσl hσv hK hQ ops.toList.length [(0, Γ)] (0, Γ) _ _ _ hchk (by simp) ⟨⟨by simp, fun i => ⟨fun hi => ?_, fun _ => by simp⟩⟩, { s with w := { s.w with drawn := s.w.drawn + 1 } }, rfl, rfl, drawn_sim h _, ⟨f.os, f.tape, f.output, f.size, f.keep⟩, ?_, fun y => ?_, 0, Nat.zero_le _, ?_, ?_⟩
      · have hi' : i < ops.size := by simpa using hi
        simp [Array.getD_eq_getD_getElem?, hi']
      · rw [e1]
      · rw [e1]
        exact (val_stop (i := 0) (Nat.zero_le _) fun j _ _ _ => by simp).symm
      · exact e2.symm
      · intro j g _ _; simp
    · cases he
  · cases he
end
end Go.Den
set_option autoImplicit false
namespace Go.Den

/-- What is returned: a slot; a variable in memory. -/
inductive RV where
  | tmp (t : Nat)
  | cell (u : Nat) (n : Option Nat) (fl : Bool)
  deriving Inhabited
def retV (σ : List PV) (H : Boxes) : List RV → Option (List PV)
  | [] => some []
  | .tmp t :: is => match retV σ H is with
    | some vs => some (σ.getD t .undef :: vs)
    | none => none
  | .cell u n fl :: is => match loadV H (σ.getD u .undef) n with
    | some v => if fl = true → v.isFlat = true then (match retV σ H is with
      | some vs => some (v :: vs)
      | none => none) else none
    | none => none

/-! ### Commands -/
inductive Cmd where
  | skip
  | ops (l : List GOp)
  | seq (a b : Cmd)
  | cond (c : Operand) (a b : Cmd)
  | block (id : Nat) (a : Cmd)
  | loop (ms : List Bool) (a : Cmd)
  | exit (id : Nat)
  | ret (ts : List RV) (ss : List Src)
  | dead
  deriving Inhabited
structure Ks where
  n : KV
  r : KV
  x : Nat → KV

def maskL : List Bool → List PV → List PV
  | b :: bs, v :: vs => (if b then v else .undef) :: maskL bs vs
  | [], v :: vs => .undef :: maskL [] vs
  | _, [] => []

def wpC (Tb : Nat → Rel) (lim : Nat) : Cmd → Ks → List PV → Boxes → Prop
  | .skip, K, σ, H => K.n σ H
  | .ops l, K, σ, H => wpGs Tb lim l K.n σ H
  | .seq a b, K, σ, H => wpC Tb lim a { K with n := wpC Tb lim b K } σ H
  | .cond c a b, K, σ, H => match valO σ c with
    | .bool t => if t then wpC Tb lim a K σ H else wpC Tb lim b K σ H
    | _ => False
  | .block id a, K, σ, H => wpC Tb lim a { K with x := fun i => if i = id then K.n else K.x i } σ H
  | .loop ms a, K, σ, H => ∃ (I : Nat → KV) (n0 : Nat), I n0 (maskL ms σ) H ∧ ∀ n σ H, I n σ H → wpC Tb lim a { K with n := fun σ' H' => ∃ m, m < n ∧ I m (maskL ms σ') H' } σ H
  | .exit id, K, σ, H => K.x id σ H
  | .ret ts ss, K, σ, H => ∃ vs, retV σ H ts = some vs ∧ vs.all (fun v => !v.isUndef) = true ∧ K.r vs (eatsH σ H ss)
  | .dead, _, _, _ => False

structure FI where
  ts : List ResultVar
  rs : List TK
def retG (E : Env) (N : Nat) : List ResultVar → List G → Option (List G × List Operand × List RV)
  | [], Γ => some (Γ, [], [])
  | .tmp t :: is, Γ => if t < N then (match retG E N is Γ with
    | some (Γ', xs, rvs) => some (Γ', .tmp t :: xs, .tmp t :: rvs)
    | none => none) else none
  | .cell u T :: is, Γ => if u < N then (match elabLoadB E (Γ ++ [.dead]) Γ.length T (.tmp u) with
    | some (.loadB d u' n fl, Γ1) => if d = Γ.length ∧ oSame u' (.tmp u) = true then (match retG E N is Γ1 with
      | some (Γ', xs, rvs) => some (Γ', .tmp Γ.length :: xs, .cell u n fl :: rvs)
      | none => none) else none
    | _ => none) else none
def elabRet (E : Env) (F : FI) (Γ : List G) : Option Cmd :=
  match retG E Γ.length F.ts Γ with
  | some (Γ1, xs, rvs) => match eats (F.rs.map some) xs Γ1 with
    | some (_, ss) => if (ss.flatMap srcS).all (fun u => decide (u < Γ.length)) = true then some (.ret rvs ss) else none
    | none => none
  | none => none
structure Outs where
  n : Option (List G)
  x : List (Nat × List G)
abbrev HS := List (List Nat)

def joinG (Γ Γ' : List G) : List G := List.zipWith (fun a b => if a = b then a else if a.le b then b else if b.le a then a else .dead) Γ Γ'
def joinAll (l : List (List G)) : Option (Option (List G)) :=
  match l with
  | [] => some none
  | a :: rest =>
    let j := rest.foldl joinG a
    if l.all (fun g => leG g j) then some (some j) else none
def dropL (ks : List Nat) (Γ : List G) : List G := ks.foldl (fun Γ k => Γ.set k .dead) Γ
def clean1 (Γ : List G) : List G := Γ.map fun g => match g with
  | .al x => if Γ.getD x .dead = .dead then .dead else g
  | .bal u _ => if Γ.getD u .dead = .dead then .dead else g
  | .ea t => if Γ.getD t .dead = .dead then .dead else g
  | g => g
def clean (Γ : List G) : List G := clean1 (clean1 Γ)
def loops : Code → Nat
  | .seq a b => loops a + loops b
  | .cond _ a b => loops a + loops b
  | .block _ a => loops a
  | .loop a => 1 + loops a
  | _ => 0
def iter (f : List G → Option (Cmd × Outs × HS)) (ks : List Nat) : Nat → List G → Option (List G × Cmd × Outs × HS)
  | 0, _ => none
  | k + 1, Γ =>
    let Γh := clean (dropL ks Γ)
    if maskOk Γh = true then
      match f Γh with
      | some (c, o, hs) => match o.n with
        | none => some (Γh, c, o, hs)
        | some Γn => if leG Γn Γh = true then some (Γh, c, o, hs) else iter f ks k (joinG Γh Γn)
      | none => none
    else none

def compile (E : Env) (F : FI) : Code → HS → List G → Option (Cmd × Outs × HS)
  | .skip, hs, Γ => some (.skip, ⟨some Γ, []⟩, hs)
  | .label _, hs, Γ => some (.skip, ⟨some Γ, []⟩, hs)
  | .region _ ops dr, hs, Γ => match (if dr then elabDraw E ops.toList Γ else elabL E ops.toList ops.toList Γ) with
    | some (gs, Γ') => some (.ops gs, ⟨some Γ', []⟩, hs)
    | none => none
  | .seq a b, hs, Γ => match compile E F a hs Γ with
    | some (ca, oa, hs1) => match oa.n with
      | none => some (.seq ca .dead, ⟨none, oa.x⟩, hs1.drop (loops b))
      | some Γ1 => match compile E F b hs1 Γ1 with
        | some (cb, ob, hs2) => some (.seq ca cb, ⟨ob.n, oa.x ++ ob.x⟩, hs2)
        | none => none
    | none => none
  | .cond c a b, hs, Γ =>
    if kdO Γ c = .fl then
      match compile E F a hs Γ with
      | some (ca, oa, hs1) => match compile E F b hs1 Γ with
        | some (cb, ob, hs2) => match joinAll (oa.n.toList ++ ob.n.toList) with
          | some n => some (.cond c ca cb, ⟨n, oa.x ++ ob.x⟩, hs2)
          | none => none
        | none => none
      | none => none
    else none
  | .block id a, hs, Γ => match compile E F a hs Γ with
    | some (ca, oa, hs1) => match joinAll (oa.n.toList ++ (oa.x.filter fun e => e.1 == id).map (·.2)) with
      | some n => some (.block id ca, ⟨n, oa.x.filter fun e => e.1 != id⟩, hs1)
      | none => none
    | none => none
  | .loop a, hs, Γ => match iter (compile E F a hs.tail) (hs.headD []) 6 Γ with
    | some (Γh, c, o, hs') => if leG Γ Γh = true then some (.loop (Γh.map fun g => g != .dead) c, ⟨none, o.x⟩, hs') else none
    | none => none
  | .exit id, hs, Γ => some (.exit id, ⟨none, [(id, Γ)]⟩, hs)
  | .ret, hs, Γ => match elabRet E F Γ with
    | some c => some (c, ⟨none, []⟩, hs)
    | none => none
  | _, _, _ => none

theorem maskL_eq : ∀ {Γ : List G} {σ : List PV}, maskL (Γ.map fun g => g != .dead) σ = maskσ Γ σ
  | [], [] => rfl
  | [], v :: vs => by
    have := maskL_eq (Γ := []) (σ := vs)
    simp only [List.map_nil, maskL, maskσ, List.mapIdx_cons] at this ⊢
    rw [this]; simp
  | g :: Γ, [] => by simp [maskL, maskσ]
  | g :: Γ, v :: vs => by
    have := maskL_eq (Γ := Γ) (σ := vs)
    simp only [List.map_cons, maskL, maskσ, List.mapIdx_cons] at this ⊢
    rw [this]
    congr 1
    by_cases h : g = .dead <;> simp [h]

theorem joinAll_le {l : List (List G)} {n : Option (List G)} (h : joinAll l = some n) : ∀ g ∈ l, ∃ j, n = some j ∧ leG g j = true := by
  unfold joinAll at h
  split at h
  · intro g hg; simp at hg
  · rename_i a rest
    simp only at h
    split at h
    · rename_i hc
      injection h with h
      subst h
      intro g hg
      simp only [List.all_eq_true] at hc
      exact ⟨_, rfl, hc g hg⟩
    · cases h

theorem iter_spec {f : List G → Option (Cmd × Outs × HS)} {ks : List Nat} : ∀ {k : Nat} {Γ Γh : List G} {c : Cmd} {o : Outs} {hs : HS}, iter f ks k Γ = some (Γh, c, o, hs) → f Γh = some (c, o, hs) ∧ maskOk Γh = true ∧ ∀ Γn, o.n = some Γn → leG Γn Γh = true
  | 0, _, _, _, _, _, h => by simp [iter] at h
  | k + 1, Γ, Γh, c, o, hs, h => by
    simp only [iter] at h
    split at h
    · rename_i hm
      split at h
      · rename_i c' o' hs' hf
        split at h
        · rename_i hn
          simp only [Option.some.injEq, Prod.mk.injEq] at h
          obtain ⟨rfl, rfl, rfl, rfl⟩ := h
          exact ⟨hf, hm, fun Γn h => by rw [hn] at h; cases h⟩
        · rename_i Γn hn
          split at h
          · rename_i hl
            simp only [Option.some.injEq, Prod.mk.injEq] at h
            obtain ⟨rfl, rfl, rfl, rfl⟩ := h
            exact ⟨hf, hm, fun Γn' h => by rw [hn] at h; injection h with h; subst h; exact hl⟩
          · exact iter_spec h
      · cases h
    · cases h

section
variable {X : Cx} {L0 : Nat → Lab} {w0 : World} {E : Env} {Tb : Nat → Rel} {F : FI}

def resF (tmps : Array Value) (x : ResultVar) : Sem Value :=
  match x with
  | .tmp t => pure (tmps.getD t undef)
  | .cell a t => do loadVar t (← asAddr (tmps.getD a undef))
def RetP (X : Cx) (L0 : Nat → Lab) (w0 : World) (F : FI) (K : KV) (a : Act) (w : World) : Prop :=
  ∃ s' : S, a.defers = [] ∧ (F.ts.mapM (resF a.tmps)).run X.P w = .ok s'.a.tmps.toList w ∧ s'.w = w ∧ Sim X (F.rs.map TK.toG) s' ∧ Fr X L0 w0 s'.L s'.w ∧ K s'.σ s'.H
def QF (X : Cx) (L0 : Nat → Lab) (w0 : World) (F : FI) (o : Outs) (K : Ks) : Exit → Act → World → Prop
  | .normal, a, w => ∃ Γ, o.n = some Γ ∧ Good X Γ L0 w0 K.n a w
  | .ret, a, w => RetP X L0 w0 F K.r a w
  | .exit id, a, w => ∃ Γ, (id, Γ) ∈ o.x ∧ Good X Γ L0 w0 (K.x id) a w
  | _, _, _ => False

theorem Sim.snoc {Γ : List G} {s : S} (h : Sim X Γ s) : Sim X (Γ ++ [.dead]) { s with σ := s.σ ++ [.undef], a := { s.a with tmps := s.a.tmps.push undef } } := by
  have hv : ∀ i, S.v { s with σ := s.σ ++ [.undef], a := { s.a with tmps := s.a.tmps.push undef } } i = s.v i := fun i => by
    simp only [S.v, List.getD_eq_getElem?_getD]
    by_cases hi : i < s.σ.length
    · rw [List.getElem?_append_left hi]
    · rw [List.getElem?_append_right (by omega), List.getElem?_eq_none (l := s.σ) (by omega)]
      cases i - s.σ.length <;> simp
  have hc : ∀ i, S.c { s with σ := s.σ ++ [.undef], a := { s.a with tmps := s.a.tmps.push undef } } i = s.c i := fun i => by
    simp only [S.c, Array.getD_eq_getD_getElem?, Array.getElem?_push]
    split
    · rename_i hi; rw [hi]; simp
    · rfl
  refine ⟨by simp [h.lenG], by simp [h.lenA], h.defs, fun i g hg => ?_, fun r b hb => h.box r b hb, h.top, h.n0⟩
  by_cases hi : i < Γ.length
  · rw [List.getElem?_append_left hi] at hg
    exact (h.slot i g hg).out ⟨hv i, hc i, fun _ _ => ⟨rfl, rfl⟩, fun x _ => ⟨hv x, hc x⟩, fun _ r b hr => ⟨b, hr, rfl, rfl, fun _ _ => ⟨rfl, rfl⟩⟩⟩
  · rw [List.getElem?_append_right (by omega)] at hg
    have := List.mem_of_getElem? hg
    simp at this
    rw [this]; exact .inr trivial

theorem retV_congr {σ σ' : List PV} {H : Boxes} {N : Nat} (hσ : ∀ t, t < N → σ'.getD t .undef = σ.getD t .undef) (hE : E.P = X.P) : ∀ {is : List ResultVar} {Γ Γ' : List G} {xs : List Operand} {rvs : List RV}, retG E N is Γ = some (Γ', xs, rvs) → retV σ' H rvs = retV σ H rvs
  | [], Γ, Γ', xs, rvs, h => by simp only [retG, Option.some.injEq, Prod.mk.injEq] at h; obtain ⟨_, _, rfl⟩ := h; rfl
  | .tmp t :: is, Γ, Γ', xs, rvs, h => by
    simp only [retG] at h
    split at h
    · rename_i ht
      split at h
      · rename_i Γ2 xs2 rvs2 h2
        simp only [Option.some.injEq, Prod.mk.injEq] at h
        obtain ⟨_, _, rfl⟩ := h
        simp only [retV]
        rw [retV_congr hσ hE h2, hσ t ht]
      · cases h
    · cases h
  | .cell u T :: is, Γ, Γ', xs, rvs, h => by
    simp only [retG] at h
    split at h
    · rename_i hu
      split at h
      · split at h
        · split at h
          · rename_i Γ2 xs2 rvs2 h2
            simp only [Option.some.injEq, Prod.mk.injEq] at h
            obtain ⟨_, _, rfl⟩ := h
            simp only [retV]
            rw [retV_congr hσ hE h2, hσ u hu]
          · cases h
        · cases h
      · cases h
    · cases h

theorem retG_sound (hE : E.P = X.P) {N : Nat} {tmps0 : Array Value} {σ0 : List PV} : ∀ (is : List ResultVar) (Γ Γ' : List G) (xs : List Operand) (rvs : List RV) (s : S) (vs : List PV), retG E N is Γ = some (Γ', xs, rvs) → Sim X Γ s → N ≤ Γ.length →
    (∀ t, t < N → s.σ.getD t .undef = σ0.getD t .undef) → (∀ t, t < N → s.a.tmps.getD t undef = tmps0.getD t undef) → retV σ0 s.H rvs = some vs →
    ∃ s' : S, Sim X Γ' s' ∧ s'.H = s.H ∧ s'.L = s.L ∧ s'.w = s.w ∧ s'.bm = s.bm ∧ (∀ t, t < Γ.length → s'.σ.getD t .undef = s.σ.getD t .undef) ∧ (∀ t, t < Γ.length → s'.a.tmps.getD t undef = s.a.tmps.getD t undef) ∧ xs.map (valO s'.σ) = vs ∧ (is.mapM (resF tmps0)).run X.P s.w = .ok (xs.map s'.a.eval) s.w
  | [], Γ, Γ', xs, rvs, s, vs, he, h, hN, hσ, ha, hv => by
    simp only [retG, Option.some.injEq, Prod.mk.injEq] at he
    obtain ⟨rfl, rfl, rfl⟩ := he
    simp only [retV, Option.some.injEq] at hv
    exact ⟨s, h, rfl, rfl, rfl, rfl, fun _ _ => rfl, fun _ _ => rfl, hv, rfl⟩
  | .tmp t :: is, Γ, Γ', xs, rvs, s, vs, he, h, hN, hσ, ha, hv => by
    simp only [retG] at he
    split at he
    · rename_i ht
      split at he
      · rename_i Γ2 xs2 rvs2 h2
        simp only [Option.some.injEq, Prod.mk.injEq] at he
        obtain ⟨rfl, rfl, rfl⟩ := he
        simp only [retV] at hv
        split at hv
        · rename_i vs2 hv2
          injection hv with hv
          obtain ⟨s', g1, g2, g3, g4, g5, g6, g7, g8, g9⟩ := retG_sound hE is Γ Γ2 xs2 rvs2 s vs2 h2 h hN hσ ha hv2
          refine ⟨s', g1, g2, g3, g4, g5, g6, g7, ?_, ?_⟩
          · rw [List.map_cons, g8, ← hv]
            congr 1
            show s'.σ.getD t .undef = _
            rw [g6 t (Nat.lt_of_lt_of_le ht hN), hσ t ht]
          · rw [List.mapM_cons]
            simp only [resF, Sem.run_bind, Sem.run_pure, Result.andThen_ok, g9, List.map_cons]
            congr 2
            show _ = s'.a.tmps.getD t undef
            rw [g7 t (Nat.lt_of_lt_of_le ht hN), ha t ht]
        · cases hv
      · cases he
    · cases he
  | .cell u T :: is, Γ, Γ', xs, rvs, s, vs, he, h, hN, hσ, ha, hv => by
    simp only [retG] at he
    split at he
    · rename_i hu
      split at he
      · rename_i d u' n fl Γ1 hel
        split at he
        · rename_i hc
          obtain ⟨rfl, hou⟩ := hc
          have hou := oSame_eq hou
          subst hou
          split at he
          · rename_i Γ2 xs2 rvs2 h2
            simp only [Option.some.injEq, Prod.mk.injEq] at he
            obtain ⟨rfl, rfl, rfl⟩ := he
            simp only [retV] at hv
            split at hv
            · rename_i v hlv
              split at hv
              · rename_i hfl
                split at hv
                · rename_i vs2 hv2
                  injection hv with hv
                  have hsn := h.snoc
                  have hl : s.σ.length = Γ.length := h.lenG.symm
                  have hla : s.a.tmps.size = Γ.length := by rw [h.lenA, hl]
                  let s1 : S := { s with σ := s.σ ++ [.undef], a := { s.a with tmps := s.a.tmps.push undef } }
                  have q1 : ∀ t, t < Γ.length → s1.σ.getD t .undef = s.σ.getD t .undef := fun t ht => by
                    simp only [s1, List.getD_eq_getElem?_getD]; rw [List.getElem?_append_left (by omega)]
                  have q2 : ∀ t, t < Γ.length → s1.a.tmps.getD t undef = s.a.tmps.getD t undef := fun t ht => by
                    simp only [s1, Array.getD_eq_getD_getElem?, Array.getElem?_push]; rw [if_neg (by omega)]
                  obtain ⟨c, g, ad, hp, hrun, rfl, hnew⟩ := loadB_core (s := s1) (v := v) hE hel hsn (by
                    show loadV s.H (s1.σ.getD u .undef) n = some v
                    rw [q1 u (Nat.lt_of_lt_of_le hu hN), hσ u hu]; exact hlv) hfl
                  have hs2 := hsn.set (d := Γ.length) (by simp) hnew
                  have hlen2 : (setG none false Γ.length g (Γ ++ [.dead])).length = Γ.length + 1 := by rw [setG_len]; simp
                  have p1 : ∀ t, t < Γ.length → (s1.put Γ.length v c).σ.getD t .undef = s.σ.getD t .undef := fun t ht => (S.put_v_ne (s := s1) (by omega)).trans (q1 t ht)
                  have p2 : ∀ t, t < Γ.length → (s1.put Γ.length v c).a.tmps.getD t undef = s.a.tmps.getD t undef := fun t ht => (S.put_c_ne (s := s1) (by omega)).trans (q2 t ht)
                  obtain ⟨s', g1, g2, g3, g4, g5, g6, g7, g8, g9⟩ := retG_sound hE is _ Γ2 xs2 rvs2 (s1.put Γ.length v c) vs2 h2 hs2 (by omega) (fun t ht => (p1 t (by omega)).trans (hσ t ht)) (fun t ht => (p2 t (by omega)).trans (ha t ht)) hv2
                  refine ⟨s', g1, g2, g3, g4, g5, fun t ht => (g6 t (by omega)).trans (p1 t ht), fun t ht => (g7 t (by omega)).trans (p2 t ht), ?_, ?_⟩
                  · rw [List.map_cons, g8, ← hv]
                    congr 1
                    show s'.σ.getD Γ.length .undef = v
                    rw [g6 _ (by omega)]
                    exact S.put_v (s := s1) (by simp [s1, hl])
                  · rw [List.mapM_cons]
                    have hp' : tmps0.getD u undef = .pointer (some ad) := by
                      rw [← ha u hu, ← q2 u (Nat.lt_of_lt_of_le hu hN)]; exact hp
                    have hc : s'.a.tmps.getD Γ.length undef = c := by
                      rw [g7 _ (by omega)]
                      exact S.put_c (s := s1) (by simp [s1, hla])
                    change (loadVar T ad).run X.P s.w = .ok c s.w at hrun
                    have g9' : (is.mapM (resF tmps0)).run X.P s.w = .ok (xs2.map s'.a.eval) s.w := g9
                    simp only [resF, hp', asAddr, Sem.run_bind, Sem.run_pure, Result.andThen_ok, hrun, g9', List.map_cons]
                    congr 2
                    exact hc.symm
                · cases hv
              · cases hv
            · cases hv
          · cases he
        · cases he
      · cases he
    · cases he

theorem ret_sound (hE : E.P = X.P) {Γ : List G} {s : S} {cmd : Cmd} {K : Ks} (he : elabRet E F Γ = some cmd) (h : Sim X Γ s) (f : Fr X L0 w0 s.L s.w)
    (hk : wpC Tb X.lim cmd K s.σ s.H) : RetP X L0 w0 F K.r s.a s.w := by
  unfold elabRet at he
  split at he
  · rename_i Γ1 xs rvs hrg
    split at he
    · rename_i Γ' ss hea
      split at he
      · rename_i hss
        injection he with he
        subst he
        obtain ⟨vs, hrv, hall, hk⟩ := hk
        obtain ⟨s', k1, k2, k3, k4, k5, k6, k7, k8, k9⟩ := retG_sound (X := X) hE F.ts Γ Γ1 xs rvs s vs hrg h (Nat.le_refl _) (fun _ _ => rfl) (fun _ _ => rfl) hrv
        have hlen : F.rs.length = xs.length := by
          have : ∀ (ms : List (Option TK)) (xs : List Operand) (Γ Γ' : List G) (ss : List Src), eats ms xs Γ = some (Γ', ss) → ms.length = xs.length := by
            intro ms
            induction ms with
            | nil => intro xs Γ Γ' ss h; cases xs with | nil => rfl | cons => simp [eats] at h
            | cons m ms ih =>
              intro xs Γ Γ' ss h
              cases xs with
              | nil => cases m <;> simp [eats] at h
              | cons x xs =>
                cases m with
                | none =>
                  simp only [eats] at h
                  split at h
                  · rename_i h1; simp [ih _ _ _ _ h1]
                  · cases h
                | some m =>
                  simp only [eats] at h
                  split at h
                  · split at h
                    · rename_i h1; simp [ih _ _ _ _ h1]
                    · cases h
                  · cases h
          simpa using this _ _ _ _ _ hea
        obtain ⟨L1, hs1, hh, hf1, _⟩ := Sim.eats _ _ Γ1 Γ' s' ss 0 k1 hea (fun j m x hm hx => by
          right
          have hm' : valO s'.σ x ∈ vs := by rw [← k8]; exact List.mem_map.2 ⟨x, List.mem_of_getElem? hx, rfl⟩
          simp only [List.all_eq_true, Bool.not_eq_true'] at hall
          have := hall _ hm'
          intro hx; rw [hx] at this; cases this)
        let L2 : Nat → Lab := fun k => match L1 k with
          | .res j => .s j
          | .s _ | .t _ _ => .no
          | l => l
        let s2 : S := { σ := vs, H := eatsH s'.σ s'.H ss, L := L2, bm := s'.bm, a := ⟨(xs.map s'.a.eval).toArray, []⟩, w := s'.w }
        have hL : ∀ k, (∀ j, L1 k ≠ .res j) → (∀ x, L1 k ≠ .s x) → (∀ x j, L1 k ≠ .t x j) → L2 k = L1 k := fun k h1 h2 h3 => by
          cases hl : L1 k <;> first | exact absurd hl (h1 _) | exact absurd hl (h2 _) | exact absurd hl (h3 _ _) | (simp only [L2, hl])
        have hvl : vs.length = xs.length := by rw [← k8]; simp
        have eH : eatsH s'.σ s'.H ss = eatsH s.σ s.H ss := by
          rw [k2]
          refine eatsH_congr fun y hy => ?_
          simp only [List.all_eq_true, decide_eq_true_eq] at hss
          exact k6 y (hss y hy)
        refine ⟨s2, h.defs, by rw [k9], k4, ⟨by simp [s2, hlen, hvl], by simp [s2, hvl], rfl, fun i g hg => ?_, fun r b hb => ?_, fun k hk => ?_, hs1.n0⟩, (f.trans (by rw [k3, k4] at hf1; exact hf1)).trans ⟨by show s'.w.os = s.w.os; rw [k4], by show s'.w.tape = s.w.tape; rw [k4], by show s'.w.output = s.w.output; rw [k4], by show _ ≤ s'.w.heap.size; rw [k4]; exact Nat.le_refl _, fun k _ hl => ⟨by show s'.w.heap[k]? = _; rw [k4], ?_⟩⟩, by show K.r vs (eatsH s'.σ s'.H ss); rw [eH]; exact hk⟩
        · simp only [List.getElem?_map, Option.map_eq_some_iff] at hg
          obtain ⟨tk, htk, rfl⟩ := hg
          have hi : i < xs.length := by rw [← hlen]; exact (List.getElem?_eq_some_iff.1 htk).1
          have ht : xs[i]? = some xs[i] := List.getElem?_eq_getElem hi
          have h1 := hh i tk xs[i] (by simp [htk]) ht
          rw [Nat.zero_add] at h1
          have e1 : s2.v i = valO s'.σ xs[i] := by simp [s2, S.v, ← k8, ht]
          have e2 : s2.c i = s'.a.eval xs[i] := by
            simp only [s2, S.c]
            rw [Array.getD_eq_getD_getElem?]
            simp [ht]
          right
          rw [e1, e2]
          cases tk with
          | fl => exact R.nowhere h1 fun _ h => h
          | own => exact R.relabel (s1 := s2) h1 fun k hk => ⟨by show L2 k = .s i; simp only [L2]; rw [show L1 k = .res i from hk], rfl⟩
          | sh => exact R.relabel (s1 := s2) h1 fun k hk => ⟨by show L2 k = .sh; simp only [L2]; rw [show L1 k = .sh from hk], rfl⟩
          | fz => exact R.relabel (s1 := s2) h1 fun k hk => ⟨by show L2 k = .nw; simp only [L2]; rw [show L1 k = .nw from hk], rfl⟩
        · have hb1 := hs1.box r b hb
          obtain ⟨_, _, _, g2, _⟩ := hb1
          change L1 (s'.bm r) = .bk r at g2
          have hbo := hs1.box r b hb
          refine BoxOk.step (s1 := s2) hbo ⟨?_, rfl⟩ (fun k hk => ⟨?_, rfl⟩) (H_lt hb) (Nat.le_refl _) (fun _ _ => rfl)
          · exact hL (s'.bm r) (by rw [g2]; simp) (by rw [g2]; simp) (by rw [g2]; simp)
          · rcases hk with ⟨j, hk⟩ | hk | hk <;> change L1 k = _ at hk <;> exact hL k (by rw [hk]; simp) (by rw [hk]; simp) (by rw [hk]; simp)
        · have : L1 k = .no := hs1.top k hk
          show L2 k = .no
          simp only [L2]; rw [this]
        · exact hL k (fun j hx => by rw [hx] at hl; exact hl) (fun j hx => by rw [hx] at hl; exact hl) (fun x j hx => by rw [hx] at hl; exact hl)
      · cases he
    · cases he
  · cases he

theorem compile_sound (hE : E.P = X.P) (hm : X.P.follows .mixedOrders = true) (hT : Known X.P E Tb) : ∀ (c : Code) (hs : HS) (Γ : List G) (cmd : Cmd) (o : Outs) (hs' : HS), compile E F c hs Γ = some (cmd, o, hs') →
    ∀ (s : S) (K : Ks), Sim X Γ s → Fr X L0 w0 s.L s.w → wpC Tb X.lim cmd K s.σ s.H → c.wp X.P (QF X L0 w0 F o K) s.a s.w := by
  intro c
  induction c with
  | skip =>
    intro hs Γ cmd o hs' he s K h f hk
    simp only [compile, Option.some.injEq, Prod.mk.injEq] at he
    obtain ⟨rfl, rfl, rfl⟩ := he
    exact wp_skip ⟨Γ, rfl, s, rfl, rfl, h, f, hk⟩
  | label l =>
    intro hs Γ cmd o hs' he s K h f hk
    simp only [compile, Option.some.injEq, Prod.mk.injEq] at he
    obtain ⟨rfl, rfl, rfl⟩ := he
    exact wp_label ⟨Γ, rfl, s, rfl, rfl, h, f, hk⟩
  | region id ops dr =>
    intro hs Γ cmd o hs' he s K h f hk
    simp only [compile] at he
    split at he
    · rename_i gs Γ' hel
      simp only [Option.some.injEq, Prod.mk.injEq] at he
      obtain ⟨rfl, rfl, rfl⟩ := he
      cases dr with
      | true =>
        rw [if_pos rfl] at hel
        exact draw_sound hE hm hT hel h f hk fun a w hg => ⟨Γ', rfl, hg⟩
      | false =>
        rw [if_neg (by simp)] at hel
        exact wp_region_list (elabL_sound hE hT _ Γ Γ' gs s hel h f hk fun a w hg => ⟨Γ', rfl, hg⟩)
    · cases he
  | seq a b iha ihb =>
    intro hs Γ cmd o hs' he s K h f hk
    simp only [compile] at he
    split at he
    · rename_i ca oa hs1 hea
      split at he
      · rename_i hn
        simp only [Option.some.injEq, Prod.mk.injEq] at he
        obtain ⟨rfl, rfl, rfl⟩ := he
        refine wp_seq (wp_mono (iha _ _ _ _ _ hea s _ h f hk) fun e a w hq => ?_)
        cases e with
        | normal => obtain ⟨Γ1, h1, _⟩ := hq; rw [hn] at h1; cases h1
        | exit id => exact hq
        | ret => exact hq
        | goto l => exact hq
        | panic ch => exact hq
        | outgrown => exact hq
      · rename_i Γ1 hn
        split at he
        · rename_i cb ob hs2 heb
          simp only [Option.some.injEq, Prod.mk.injEq] at he
          obtain ⟨rfl, rfl, rfl⟩ := he
          refine wp_seq (wp_mono (iha _ _ _ _ _ hea s _ h f hk) fun e a w hq => ?_)
          cases e with
          | normal =>
            obtain ⟨Γ2, h1, s1, rfl, rfl, h2, f2, k2⟩ := hq
            rw [hn] at h1; injection h1 with h1; subst h1
            refine wp_mono (ihb _ _ _ _ _ heb s1 K h2 f2 k2) fun e a w hq => ?_
            cases e with
            | exit id => obtain ⟨Γ3, h3, h4⟩ := hq; exact ⟨Γ3, by simp [h3], h4⟩
            | normal => exact hq
            | ret => exact hq
            | goto l => exact hq
            | panic ch => exact hq
            | outgrown => exact hq
          | exit id => obtain ⟨Γ3, h3, h4⟩ := hq; exact ⟨Γ3, by simp [h3], h4⟩
          | ret => exact hq
          | goto l => exact hq
          | panic ch => exact hq
          | outgrown => exact hq
        · cases he
    · cases he
  | cond c a b iha ihb =>
    intro hs Γ cmd o hs' he s K h f hk
    simp only [compile] at he
    split at he
    · rename_i hfl
      split at he
      · rename_i ca oa hs1 hea
        split at he
        · rename_i cb ob hs2 heb
          split at he
          · rename_i n hj
            simp only [Option.some.injEq, Prod.mk.injEq] at he
            obtain ⟨rfl, rfl, rfl⟩ := he
            have hle := joinAll_le hj
            simp only [wpC] at hk
            split at hk
            · rename_i t hv
              have hc : s.a.eval c = .bool t := (fl_of h hfl hv (by simp)).bool_inv
              refine wp_cond hc ?_
              cases t with
              | true =>
                rw [if_pos rfl] at hk ⊢
                refine wp_mono (iha _ _ _ _ _ hea s K h f hk) fun e a w hq => ?_
                cases e with
                | normal =>
                  obtain ⟨Γ1, h1, hg⟩ := hq
                  obtain ⟨j, h2, h3⟩ := hle Γ1 (by simp [h1])
                  exact ⟨j, h2, hg.weaken h3⟩
                | exit id => obtain ⟨Γ3, h3, h4⟩ := hq; exact ⟨Γ3, by simp [h3], h4⟩
                | ret => exact hq
                | goto l => exact hq
                | panic ch => exact hq
                | outgrown => exact hq
              | false =>
                rw [if_neg (by simp)] at hk ⊢
                refine wp_mono (ihb _ _ _ _ _ heb s K h f hk) fun e a w hq => ?_
                cases e with
                | normal =>
                  obtain ⟨Γ1, h1, hg⟩ := hq
                  obtain ⟨j, h2, h3⟩ := hle Γ1 (by simp [h1])
                  exact ⟨j, h2, hg.weaken h3⟩
                | exit id => obtain ⟨Γ3, h3, h4⟩ := hq; exact ⟨Γ3, by simp [h3], h4⟩
                | ret => exact hq
                | goto l => exact hq
                | panic ch => exact hq
                | outgrown => exact hq
            · exact hk.elim
          · cases he
        · cases he
      · cases he
    · cases he
  | block id a iha =>
    intro hs Γ cmd o hs' he s K h f hk
    simp only [compile] at he
    split at he
    · rename_i ca oa hs1 hea
      split at he
      · rename_i n hj
        simp only [Option.some.injEq, Prod.mk.injEq] at he
        obtain ⟨rfl, rfl, rfl⟩ := he
        have hle := joinAll_le hj
        refine wp_block (wp_mono (iha _ _ _ _ _ hea s _ h f hk) fun e a w hq => ?_)
        cases e with
        | normal =>
          obtain ⟨Γ1, h1, hg⟩ := hq
          obtain ⟨j, h2, h3⟩ := hle Γ1 (by simp [h1])
          exact ⟨j, h2, hg.weaken h3⟩
        | exit id' =>
          obtain ⟨Γ1, h1, hg⟩ := hq
          show if id' = id then _ else _
          by_cases hid : id' = id
          · subst hid
            rw [if_pos rfl]
            simp only [if_pos] at hg
            obtain ⟨j, h2, h3⟩ := hle Γ1 (by
              simp only [List.mem_append, List.mem_map, List.mem_filter]
              exact .inr ⟨(id', Γ1), ⟨h1, by simp⟩, rfl⟩)
            exact ⟨j, h2, hg.weaken h3⟩
          · rw [if_neg hid]
            simp only [if_neg hid] at hg
            exact ⟨Γ1, by simp [List.mem_filter, h1, hid], hg⟩
        | ret => exact hq
        | goto l => exact hq
        | panic ch => exact hq
        | outgrown => exact hq
      · cases he
    · cases he
  | loop a iha =>
    intro hs Γ cmd o hs' he s K h f hk
    simp only [compile] at he
    split at he
    · rename_i Γh c o' hs1 hit
      split at he
      · rename_i hl
        simp only [Option.some.injEq, Prod.mk.injEq] at he
        obtain ⟨rfl, rfl, rfl⟩ := he
        obtain ⟨hf, hmk, hback⟩ := iter_spec hit
        obtain ⟨I, n0, h0, hstep⟩ := hk
        have head : ∀ {s1 : S} {n : Nat}, Sim X Γh s1 → Fr X L0 w0 s1.L s1.w → I n (maskL (Γh.map fun g => g != .dead) s1.σ) s1.H → ∃ s2 : S, s2.a = s1.a ∧ s2.w = s1.w ∧ Sim X Γh s2 ∧ Fr X L0 w0 s2.L s2.w ∧ I n s2.σ s2.H := by
          intro s1 n hs1 hf1 hI
          rw [maskL_eq] at hI
          exact ⟨{ s1 with σ := maskσ Γh s1.σ }, rfl, rfl, hs1.mask hmk, hf1, hI⟩
        refine wp_loop_ghost (fun n a w => ∃ s2 : S, s2.a = a ∧ s2.w = w ∧ Sim X Γh s2 ∧ Fr X L0 w0 s2.L s2.w ∧ I n s2.σ s2.H) n0 (head (h.weaken hl) f h0) ?_
        rintro n a w ⟨s2, rfl, rfl, hs2, hf2, hI⟩
        refine wp_mono (iha _ _ _ _ _ hf s2 _ hs2 hf2 (hstep n s2.σ s2.H hI)) fun e a w hq => ?_
        cases e with
        | normal =>
          obtain ⟨Γ1, h1, s3, rfl, rfl, h3, f3, m, hm1, k3⟩ := hq
          exact ⟨m, hm1, head (h3.weaken (hback Γ1 h1)) f3 k3⟩
        | exit id => exact hq
        | ret => exact hq
        | goto l => exact hq
        | panic ch => exact hq
        | outgrown => exact hq
      · cases he
    · cases he
  | exit id =>
    intro hs Γ cmd o hs' he s K h f hk
    simp only [compile, Option.some.injEq, Prod.mk.injEq] at he
    obtain ⟨rfl, rfl, rfl⟩ := he
    exact wp_exit ⟨Γ, by simp, s, rfl, rfl, h, f, hk⟩
  | ret =>
    intro hs Γ cmd o hs' he s K h f hk
    simp only [compile] at he
    split at he
    · rename_i c hea
      simp only [Option.some.injEq, Prod.mk.injEq] at he
      obtain ⟨rfl, rfl, rfl⟩ := he
      exact wp_ret (ret_sound hE hea h f hk)
    · cases he
  | rangeFunc => intro hs Γ cmd o hs' he; simp [compile] at he
  | scope => intro hs Γ cmd o hs' he; simp [compile] at he
  | goto => intro hs Γ cmd o hs' he; simp [compile] at he
  | refuse => intro hs Γ cmd o hs' he; simp [compile] at he
end
end Go.Den
set_option autoImplicit false
namespace Go.Den

/-! ### Functions -/
def entryG (sg : Sig) (n : Nat) : List G := sg.ps.map PK.toG ++ List.replicate (n - sg.ps.length) .dead
def compileFn (E : Env) (fn : Func) (sg : Sig) (hs : HS) : Option Cmd :=
  match fn.body with
  | some c => match compile E ⟨fn.results.toList, sg.rs⟩ c hs (entryG sg fn.ntmps) with
    | some (cmd, o, _) => match o.x with
      | [] => match o.n with
        | none => some cmd
        | some Γ => match elabRet E ⟨fn.results.toList, sg.rs⟩ Γ with
          | some r => some (.seq cmd r)
          | none => none
      | _ => none
    | none => none
  | none => none

theorem results_run {fn : Func} {cs : List Value} {tmps : Array Value} {P : Program} {w : World} (h : (fn.results.toList.mapM (resF tmps)).run P w = .ok cs w) :
    (results fn tmps).run P w = .ok (packV cs.toArray) w := by
  have e : results fn tmps = (do let vs ← fn.results.mapM (resF tmps); pure (if h : vs.size = 1 then vs[0] else .tuple vs)) := by
    unfold results
    congr 1
  rw [e, Array.mapM_eq_mapM_toList]
  simp only [Sem.run_bind, Sem.run_map, h, Result.andThen_ok]
  rfl

theorem fn_spec {P : Program} {g : Nat} {fn : Func} {sg : Sig} {E : Env} {Tb : Nat → Rel} {R : Rel} {hs : HS} {cmd : Cmd} (hf : P.funcs[g]? = some fn) (hname : (fn.name == "runtime.NumGoroutine") = false) (hE : E.P = P) (hm : P.follows .mixedOrders = true) (hT : Known P E Tb)
    (hc : compileFn E fn sg hs = some cmd)
    (hvc : ∀ (lim : Nat) (vs : List PV) (H : Boxes) (rs : List PV) (H' : Boxes), R lim vs H rs H' → vs.length = sg.ps.length → lim ≤ H.length → (sg.pure = true → lim = H.length) →
      wpC Tb lim cmd ⟨fun _ _ => False, fun rs' H'' => rs' = rs ∧ (sg.pure = true ∨ H'' = H'), fun _ _ _ => False⟩ (vs ++ List.replicate (fn.ntmps - sg.ps.length) .undef) H) : SpecR P g sg R := by
  unfold compileFn at hc
  split at hc
  · rename_i c hb
    split at hc
    · rename_i cmd' o hs' hcomp
      split at hc
      · rename_i hx
        refine ⟨⟨fn, hf, hname, by rw [hb]; rfl⟩, ?_⟩
        rintro X s K rfl hs hn0 hpure ⟨rs, H', hR, hK⟩
        have hlen : s.σ.length = sg.ps.length := by have := hs.lenG; simpa using this.symm
        have hsz : s.a.tmps.size = sg.ps.length := by rw [hs.lenA, hlen]
        refine calls_of_wp hf hb ?_
        rw [hsz]
        -- the frame entered
        let s0 : S := { s with σ := s.σ ++ List.replicate (fn.ntmps - sg.ps.length) .undef, a := ⟨s.a.tmps ++ Array.replicate (fn.ntmps - sg.ps.length) undef, []⟩ }
        have hv : ∀ i, i < sg.ps.length → s0.v i = s.v i := fun i hi => by
          simp only [s0, S.v, List.getD_eq_getElem?_getD]
          rw [List.getElem?_append_left (by omega)]
        have hcc : ∀ i, i < sg.ps.length → s0.c i = s.c i := fun i hi => by
          simp only [s0, S.c, Array.getD_eq_getD_getElem?]
          rw [Array.getElem?_append_left (by omega)]
        have h0 : Sim X (entryG sg fn.ntmps) s0 := by
          refine ⟨by simp [entryG, s0, hlen], by simp [s0, hsz, hlen], rfl, fun i gg hg => ?_, fun r b hb => hs.box r b hb, hs.top, hs.n0⟩
          by_cases hi : i < sg.ps.length
          · have hg' : (sg.ps.map PK.toG)[i]? = some gg := by
              unfold entryG at hg
              rwa [List.getElem?_append_left (by simpa using hi)] at hg
            refine (hs.slot i gg hg').out ⟨hv i hi, hcc i hi, fun _ _ => ⟨rfl, rfl⟩, fun x hx => ?_, fun _ r b hr => ⟨b, hr, rfl, rfl, fun _ _ => ⟨rfl, rfl⟩⟩⟩
            simp only [List.getElem?_map, Option.map_eq_some_iff] at hg'
            obtain ⟨p, _, rfl⟩ := hg'
            cases p <;> exact hx.elim
          · unfold entryG at hg
            rw [List.getElem?_append_right (by simpa using hi)] at hg
            have := List.mem_of_getElem? hg
            rw [List.mem_replicate] at this
            rw [this.2]
            exact .inr trivial
        have hl0 : X.lim ≤ s.H.length := Nat.le_trans hs.n0.1 hs.n0.len
        have hwp := hvc X.lim s.σ s.H rs H' hR hlen hl0 (fun hp => by rw [hpure hp, hn0])
        have fin : ∀ a w, RetP X s.L s.w ⟨fn.results.toList, sg.rs⟩ (fun rs' H'' => rs' = rs ∧ (sg.pure = true ∨ H'' = H')) a w → a.defers = [] ∧ ∃ v, (results fn a.tmps).run X.P w = .ok v w ∧ ∃ s' : S, Ending.returned v = .returned (packV s'.a.tmps) ∧ s'.w = w ∧ Sim X (sg.rs.map TK.toG) s' ∧ Fr X s.L s.w s'.L s'.w ∧ ∃ H', (sg.pure = true ∨ H' = s'.H) ∧ K s'.σ H' := by
          rintro a w ⟨s', q1, q2, q3, q4, q5, q6, q7⟩
          exact ⟨q1, _, results_run q2, s', rfl, q3, q4, q5, H', q7.imp id Eq.symm, by rw [q6]; exact hK⟩
        -- the two endings
        cases hno : o.n with
        | none =>
          rw [hno] at hc
          simp only [Option.some.injEq] at hc
          subst hc
          refine wp_mono (compile_sound (L0 := s.L) (w0 := s.w) hE hm hT c _ _ _ _ _ hcomp s0 _ h0 (Fr.refl _ _ _) hwp) fun e a w hq => ?_
          cases e with
          | normal => obtain ⟨Γ, h1, _⟩ := hq; rw [hno] at h1; cases h1
          | ret => exact fin a w hq
          | exit id => obtain ⟨Γ, h1, _⟩ := hq; rw [hx] at h1; cases h1
          | goto l => exact hq
          | panic ch => exact hq.elim
          | outgrown => exact hq.elim
        | some Γ =>
          rw [hno] at hc
          simp only at hc
          split at hc
          · rename_i r hea
            injection hc with hc
            subst hc
            refine wp_mono (compile_sound (L0 := s.L) (w0 := s.w) hE hm hT c _ _ _ _ _ hcomp s0 _ h0 (Fr.refl _ _ _) hwp) fun e a w hq => ?_
            cases e with
            | normal =>
              obtain ⟨Γ1, h1, s1, rfl, rfl, h2, f2, k2⟩ := hq
              rw [hno] at h1; injection h1 with h1; subst h1
              exact fin _ _ (ret_sound (F := ⟨fn.results.toList, sg.rs⟩) hE hea h2 f2 k2)
            | ret => exact fin a w hq
            | exit id => obtain ⟨Γ, h1, _⟩ := hq; rw [hx] at h1; cases h1
            | goto l => exact hq
            | panic ch => exact hq.elim
            | outgrown => exact hq.elim
          · cases hc
      · cases hc
    · cases hc
  · cases hc
end Go.Den
set_option autoImplicit false
namespace Go.Den

/-! ### What a function calls, with its contracts -/
abbrev Deps := List (Nat × Sig × Rel)
def sigOf : Deps → Nat → Option Sig
  | [], _ => none
  | e :: l, g => if g = e.1 then some e.2.1 else sigOf l g
def relOf : Deps → Nat → Rel
  | [], _ => fun _ _ _ _ _ => False
  | e :: l, g => if g = e.1 then e.2.2 else relOf l g
def vsOf (l : Deps) : List (Nat × Nat × Nat) → Nat → Option (Nat × Sig × Nat)
  | [], _ => none
  | (t', g, nc) :: vs, t => if t = t' then (match sigOf l g with
    | some sg => some (g, sg, nc)
    | none => none) else vsOf l vs t
def ckOf : List (Nat × CK) → Nat → Option CK
  | [], _ => none
  | (d', ck) :: l, d => if d = d' then some ck else ckOf l d
def AllSpec (P : Program) : Deps → Prop
  | [] => True
  | e :: l => SpecR P e.1 e.2.1 e.2.2 ∧ AllSpec P l
def mkE (P : Program) (names : List Nat) (hints : List (Nat × CK)) (l : Deps) (vs : List (Nat × Nat × Nat)) : Env :=
  { P := P, names := fun n => names.contains n, hint := ckOf hints, sig := sigOf l, vsig := vsOf l vs }

theorem AllSpec.get {P : Program} : ∀ {l : Deps} {g : Nat} {sg : Sig}, AllSpec P l → sigOf l g = some sg → SpecR P g sg (relOf l g)
  | [], _, _, _, h => by cases h
  | e :: l, g, sg, ha, h => by
    simp only [sigOf] at h
    simp only [relOf]
    split at h
    · rename_i he
      injection h with h
      subst he; subst h
      rw [if_pos rfl]
      exact ha.1
    · rename_i he
      rw [if_neg he]
      exact AllSpec.get ha.2 h
theorem vsOf_sig {l : Deps} : ∀ {vs : List (Nat × Nat × Nat)} {t g nc : Nat} {sg : Sig}, vsOf l vs t = some (g, sg, nc) → sigOf l g = some sg
  | [], _, _, _, _, h => by cases h
  | (t', g', nc') :: vs, t, g, nc, sg, h => by
    simp only [vsOf] at h
    split at h
    · split at h
      · rename_i sg' hs
        simp only [Option.some.injEq, Prod.mk.injEq] at h
        obtain ⟨rfl, rfl, rfl⟩ := h
        exact hs
      · cases h
    · exact vsOf_sig h
theorem known {P : Program} {names : List Nat} {hints : List (Nat × CK)} {l : Deps} {vs : List (Nat × Nat × Nat)} (h : AllSpec P l) : Known P (mkE P names hints l vs) (relOf l) :=
  ⟨fun _ _ hs => h.get hs, fun _ _ _ _ hs => h.get (vsOf_sig hs)⟩

/-- A function's contract, out of what is to be shown of its commands. -/
theorem fnSpec {P : Program} {g : Nat} {fn : Func} {sg : Sig} {names : List Nat} {hints : List (Nat × CK)} {l : Deps} {vs : List (Nat × Nat × Nat)} {R : Rel} {hs : HS} {cmd : Cmd} (hm : P.follows .mixedOrders = true) (hf : P.funcs[g]? = some fn) (hname : (fn.name == "runtime.NumGoroutine") = false)
    (hc : compileFn (mkE P names hints l vs) fn sg hs = some cmd) (ha : AllSpec P l)
    (hvc : ∀ (lim : Nat) (vs : List PV) (H : Boxes) (rs : List PV) (H' : Boxes), R lim vs H rs H' → vs.length = sg.ps.length → lim ≤ H.length → (sg.pure = true → lim = H.length) →
      wpC (relOf l) lim cmd ⟨fun _ _ => False, fun rs' H'' => rs' = rs ∧ (sg.pure = true ∨ H'' = H'), fun _ _ _ => False⟩ (vs ++ List.replicate (fn.ntmps - sg.ps.length) .undef) H) : SpecR P g sg R :=
  fn_spec hf hname rfl hm (known ha) hc hvc
end Go.Den
set_option autoImplicit false
namespace Go.Den

/-! ### The same as functions of what follows: to be reckoned -/
def guardK (v : PV) (b : Bool) (p q : Prop) : Prop :=
  match v with
  | .bool c => (c = b → p) ∧ (c ≠ b → q)
  | .no => q
  | _ => False
def condK (v : PV) (p q : Prop) : Prop :=
  match v with
  | .bool t => (t = true → p) ∧ (t = false → q)
  | _ => False
def pickK (c a b : PV) (K : PV → Prop) : Prop :=
  match c with
  | .bool t => (t = true → a ≠ .undef ∧ K a) ∧ (t = false → b ≠ .undef ∧ K b)
  | _ => False
def fnK (v : PV) (g nc : Nat) (K : List PV → Prop) : Prop :=
  match v with
  | .fn g' caps => g' = g ∧ caps.length = nc ∧ K caps
  | _ => False
def strK (v : PV) (K : PV → Prop) : Prop :=
  match v with
  | .str b => K (.str b)
  | _ => False
def hK (H : Option Boxes) (K : Boxes → Prop) : Prop :=
  match H with
  | some H => K H
  | none => False
def callK (R : Rel) (lim : Nat) (sg : Sig) (vs : List PV) (H1 : Boxes) (K : PV → Boxes → Prop) : Prop :=
  argsV (limV sg.pure lim H1) H1 sg.ps vs ∧ ∃ rs H2, R (limV sg.pure lim H1) vs H1 rs H2 ∧ K (packP rs) (if sg.pure then H1 else mergeH lim H1 H2)

def ex (Tb : Nat → Rel) (lim : Nat) : COp → List PV → Boxes → (PV → Boxes → Prop) → Prop
  | .copy _ x, σ, H, K => K (valO σ x) H
  | .take _ x src, σ, H, K => (valO σ x).isUndef = false ∧ K (valO σ x) (eatH σ H src)
  | .bin _ op x y, σ, H, K => optK (binV op (valO σ x) (valO σ y)) fun v => K v H
  | .un _ op x, σ, H, K => optK (unV op (valO σ x)) fun v => K v H
  | .conv _ k x, σ, H, K => optK (convV k (valO σ x)) fun v => K v H
  | .pick _ c a b, σ, H, K => pickK (valO σ c) (valO σ a) (valO σ b) fun v => K v H
  | .beq _ neg x y, σ, H, K => optK (beqV neg (valO σ x) (valO σ y)) fun v => K v H
  | .len _ str x, σ, H, K => optK (lenV str (valO σ x)) fun v => K v H
  | .isnil _ neg x, σ, H, K => optK (isnilV neg (valO σ x)) fun v => K v H
  | .mm _ mx x y, σ, H, K => optK (mmV mx (valO σ x) (valO σ y)) fun v => K v H
  | .box _ ck x src, σ, H, K => (valO σ x).isUndef = false ∧ K (.ref H.length 0) (eatH σ H src ++ [(ck, (valO σ x).cells)])
  | .alloc _ ck zs, _, H, K => K (.ref H.length 0) (H ++ [(ck, zs)])
  | .loadB _ u n fl, σ, H, K => optK (loadV H (valO σ u) n) fun v => (fl = true → v.isFlat = true) ∧ K v H
  | .storeB u x n src, σ, H, K => (valO σ x).isUndef = false ∧ hK (storeV (eatH σ H src) (valO σ u) (valO σ x) n) fun H' => K .undef H'
  | .fadd _ u off, σ, H, K => optK (faddV (valO σ u) off) fun v => K v H
  | .iadd _ t e i, σ, H, K => optK (iaddV e (σ.getD t .undef) (valO σ i)) fun v => K v H
  | .loadE _ t u n fl, σ, H, K => optK (elemV (σ.getD t .undef) (σ.getD u .undef) n) fun v => (fl = true → v.isFlat = true) ∧ K v H
  | .storeE x u n y, σ, H, K => optK (storeEV (σ.getD x .undef) (σ.getD u .undef) (valO σ y) n) fun v => K v H
  | .mks _ e by_ z l c, σ, H, K => optK (mksV e by_ z (valO σ l) (valO σ c)) fun v => K v H
  | .lit _ e n xs ss, σ, H, K => litOk n (xs.map (valO σ)) = true ∧ K (.sl e (xs.map (valO σ))) (eatsH σ H ss)
  | .call _ g sg xs ss, σ, H, K => callK (Tb g) lim sg (xs.map (valO σ)) (eatsH σ H ss) K
  | .callv _ f g nc sg xs ss, σ, H, K => fnK (valO σ f) g nc fun caps => callK (Tb g) lim sg (xs.map (valO σ) ++ caps) (eatsH σ H ss) K
  | .mkfn _ g xs, σ, H, K => isRefs (xs.map (valO σ)) = true ∧ K (.fn g (xs.map (valO σ))) H
  | .sidx _ x i, σ, H, K => optK (sidxV (valO σ x) (valO σ i)) fun v => K v H
  | .ssl _ x none none, σ, H, K => strK (valO σ x) fun v => K v H
  | _, _, _, _ => False

theorem isUndef_ne {v : PV} (h : v.isUndef = false) : v ≠ .undef := by rintro rfl; cases h
theorem optK_ex {x : Option PV} {K : PV → Prop} (h : optK x K) : ∃ v, x = some v ∧ K v := h.get
theorem callK_ex {R : Rel} {lim : Nat} {sg : Sig} {vs : List PV} {H1 : Boxes} {K : PV → Boxes → Prop} (h : callK R lim sg vs H1 K) : ∃ v H', callR R lim sg vs H1 v H' ∧ K v H' := by
  obtain ⟨h1, rs, H2, h2, h3⟩ := h
  exact ⟨_, _, ⟨h1, rs, H2, h2, rfl, rfl⟩, h3⟩

theorem ex_run {Tb : Nat → Rel} {lim : Nat} {cop : COp} {σ : List PV} {H : Boxes} {K : PV → Boxes → Prop} (h : ex Tb lim cop σ H K) : ∃ v H', cop.run Tb lim σ H v H' ∧ K v H' := by
  have opt : ∀ {x : Option PV}, (optK x fun v => K v H) → ∃ v H', (x = some v ∧ H' = H) ∧ K v H' := fun h => by
    obtain ⟨v, h1, h2⟩ := h.get
    exact ⟨v, H, ⟨h1, rfl⟩, h2⟩
  cases cop <;> simp only [ex, COp.run] at h ⊢
  case copy d x => exact ⟨_, _, ⟨rfl, rfl⟩, h⟩
  case take d x s => exact ⟨_, _, ⟨isUndef_ne h.1, rfl, rfl⟩, h.2⟩
  case bin => exact opt h
  case un => exact opt h
  case conv => exact opt h
  case pick d c a b =>
    unfold pickK at h
    split at h
    · rename_i t hc
      cases t
      · obtain ⟨h1, h2⟩ := h.2 rfl
        exact ⟨_, _, ⟨⟨false, hc, rfl, h1⟩, rfl⟩, h2⟩
      · obtain ⟨h1, h2⟩ := h.1 rfl
        exact ⟨_, _, ⟨⟨true, hc, rfl, h1⟩, rfl⟩, h2⟩
    · exact h.elim
  case beq => exact opt h
  case len => exact opt h
  case isnil => exact opt h
  case mm => exact opt h
  case box d ck x s => exact ⟨_, _, ⟨isUndef_ne h.1, rfl, rfl⟩, h.2⟩
  case alloc d ck zs => exact ⟨_, _, ⟨rfl, rfl⟩, h⟩
  case loadB d u n fl =>
    obtain ⟨v, h1, h2, h3⟩ := h.get
    exact ⟨v, H, ⟨⟨h1, h2⟩, rfl⟩, h3⟩
  case storeB u x n s =>
    obtain ⟨h1, h2⟩ := h
    unfold hK at h2
    split at h2
    · rename_i H' hs; exact ⟨_, _, ⟨isUndef_ne h1, hs, rfl⟩, h2⟩
    · exact h2.elim
  case fadd => exact opt h
  case iadd => exact opt h
  case loadE d t u n fl =>
    obtain ⟨v, h1, h2, h3⟩ := h.get
    exact ⟨v, H, ⟨⟨h1, h2⟩, rfl⟩, h3⟩
  case storeE => exact opt h
  case mks => exact opt h
  case lit d e n xs ss => exact ⟨_, _, ⟨h.1, rfl, rfl⟩, h.2⟩
  case call d g sg xs ss => exact callK_ex h
  case callv d f g nc sg xs ss =>
    unfold fnK at h
    split at h
    · rename_i g' caps hv
      obtain ⟨rfl, h2, h3⟩ := h
      obtain ⟨v, H', h4, h5⟩ := callK_ex h3
      exact ⟨v, H', ⟨caps, hv, h2, h4⟩, h5⟩
    · exact h.elim
  case mkfn d g xs => exact ⟨_, _, ⟨h.1, rfl, rfl⟩, h.2⟩
  case sidx => exact opt h
  case ssl d x a b =>
    cases a <;> cases b <;> simp only [ex, COp.run] at h ⊢
    unfold strK at h
    split at h
    · rename_i b hv; exact ⟨_, _, ⟨⟨b, hv, rfl⟩, rfl⟩, h⟩
    · exact h.elim

def wpX (Tb : Nat → Rel) (lim : Nat) : List GOp → KV → List PV → Boxes → Prop
  | [], K, σ, H => K σ H
  | ⟨cop, none, _, _⟩ :: gs, K, σ, H => ex Tb lim cop σ H fun v H' => wpX Tb lim gs K (setD σ cop.dst v) H'
  | ⟨cop, some (j, b), d, fl⟩ :: gs, K, σ, H => guardK (σ.getD j .undef) b (ex Tb lim cop σ H fun v H' => wpX Tb lim gs K (setD σ cop.dst v) H') (wpX Tb lim gs K (setD σ d (skipV fl)) H)

theorem run_skip {Tb : Nat → Rel} {lim : Nat} {cop : COp} {j : Nat} {b : Bool} {d : Option Nat} {fl : Bool} {σ : List PV} {H : Boxes} (h : σ.getD j .undef = .no ∨ ∃ c, σ.getD j .undef = .bool c ∧ c ≠ b) : GOp.run Tb lim ⟨cop, some (j, b), d, fl⟩ σ H (setD σ d (skipV fl)) H := by
  unfold GOp.run
  simp only
  rcases h with h | ⟨c, h, hc⟩
  · rw [h]; simp
  · rw [h]; simp [hc]
theorem run_go {Tb : Nat → Rel} {lim : Nat} {cop : COp} {j : Nat} {b : Bool} {d : Option Nat} {fl : Bool} {σ : List PV} {H H' : Boxes} {v : PV} (h : σ.getD j .undef = .bool b) (hr : cop.run Tb lim σ H v H') : GOp.run Tb lim ⟨cop, some (j, b), d, fl⟩ σ H (setD σ cop.dst v) H' := by
  unfold GOp.run
  simp only
  rw [h]; simp only [if_true]; exact ⟨v, hr, rfl⟩
theorem wpX_sound {Tb : Nat → Rel} {lim : Nat} {K : KV} : ∀ {gs : List GOp} {σ : List PV} {H : Boxes}, wpX Tb lim gs K σ H → wpGs Tb lim gs K σ H
  | [], σ, H, h => h
  | ⟨cop, none, d, fl⟩ :: gs, σ, H, h => by
    obtain ⟨v, H', h1, h2⟩ := ex_run h
    exact ⟨_, H', ⟨v, h1, rfl⟩, wpX_sound h2⟩
  | ⟨cop, some (j, b), d, fl⟩ :: gs, σ, H, h => by
    simp only [wpX, guardK] at h
    split at h
    · rename_i c hc
      by_cases hcb : c = b
      · obtain ⟨v, H', h1, h2⟩ := ex_run (h.1 hcb)
        exact ⟨_, H', run_go (by rw [hc, hcb]) h1, wpX_sound h2⟩
      · exact ⟨_, H, run_skip (.inr ⟨c, hc, hcb⟩), wpX_sound (h.2 hcb)⟩
    · rename_i hc
      exact ⟨_, H, run_skip (.inl hc), wpX_sound h⟩
    · exact h.elim

def rvK (σ : List PV) (H : Boxes) : List RV → (List PV → Prop) → Prop
  | [], K => K []
  | .tmp t :: is, K => (σ.getD t .undef).isUndef = false ∧ rvK σ H is fun vs => K (σ.getD t .undef :: vs)
  | .cell u n fl :: is, K => optK (loadV H (σ.getD u .undef) n) fun v => v.isUndef = false ∧ (fl = true → v.isFlat = true) ∧ rvK σ H is fun vs => K (v :: vs)
theorem rvK_sound {σ : List PV} {H : Boxes} : ∀ {is : List RV} {K : List PV → Prop}, rvK σ H is K → ∃ vs, retV σ H is = some vs ∧ vs.all (fun v => !v.isUndef) = true ∧ K vs
  | [], K, h => ⟨[], rfl, rfl, h⟩
  | .tmp t :: is, K, h => by
    obtain ⟨h1, h2⟩ := h
    obtain ⟨vs, h3, h4, h5⟩ := rvK_sound h2
    exact ⟨_, by simp only [retV, h3], by rw [List.all_cons, h1, h4]; rfl, h5⟩
  | .cell u n fl :: is, K, h => by
    obtain ⟨v, h1, h2, h3, h4⟩ := h.get
    obtain ⟨vs, h5, h6, h7⟩ := rvK_sound h4
    refine ⟨v :: vs, ?_, by rw [List.all_cons, h2, h6]; rfl, h7⟩
    simp only [retV, h1, h5]
    rw [if_pos h3]

/-- A loop's claim: a relation that bears a number. -/
def loopK (ms : List Bool) (σ : List PV) (H : Boxes) (body : KV → KV) : Prop :=
  ∃ (I : Nat → KV) (n0 : Nat), I n0 (maskL ms σ) H ∧ ∀ n σ H, I n σ H → body (fun σ' H' => ∃ m, m < n ∧ I m (maskL ms σ') H') σ H

def wpV (Tb : Nat → Rel) (lim : Nat) : Cmd → KV → KV → (Nat → KV) → List PV → Boxes → Prop
  | .skip, n, _, _, σ, H => n σ H
  | .ops l, n, _, _, σ, H => wpX Tb lim l n σ H
  | .seq a b, n, r, x, σ, H => wpV Tb lim a (fun σ H => wpV Tb lim b n r x σ H) r x σ H
  | .cond c a b, n, r, x, σ, H => condK (valO σ c) (wpV Tb lim a n r x σ H) (wpV Tb lim b n r x σ H)
  | .block id a, n, r, x, σ, H => wpV Tb lim a n r (fun i => if i = id then n else x i) σ H
  | .loop ms a, _, r, x, σ, H => loopK ms σ H fun n σ H => wpV Tb lim a n r x σ H
  | .exit id, _, _, x, σ, H => x id σ H
  | .ret ts ss, _, r, _, σ, H => rvK σ H ts fun vs => r vs (eatsH σ H ss)
  | .dead, _, _, _, _, _ => False

theorem wpGs_mono {Tb : Nat → Rel} {lim : Nat} {K K' : KV} (hk : ∀ σ H, K σ H → K' σ H) : ∀ {gs : List GOp} {σ : List PV} {H : Boxes}, wpGs Tb lim gs K σ H → wpGs Tb lim gs K' σ H
  | [], σ, H, h => hk _ _ h
  | g :: gs, σ, H, ⟨σ', H', h1, h2⟩ => ⟨σ', H', h1, wpGs_mono hk h2⟩
theorem wpC_mono {Tb : Nat → Rel} {lim : Nat} : ∀ {c : Cmd} {K K' : Ks} {σ : List PV} {H : Boxes}, (∀ σ H, K.n σ H → K'.n σ H) → (∀ σ H, K.r σ H → K'.r σ H) → (∀ i σ H, K.x i σ H → K'.x i σ H) → wpC Tb lim c K σ H → wpC Tb lim c K' σ H
  | .skip, K, K', σ, H, hn, hr, hx, h => hn _ _ h
  | .ops l, K, K', σ, H, hn, hr, hx, h => wpGs_mono hn h
  | .seq a b, K, K', σ, H, hn, hr, hx, h => wpC_mono (c := a) (K := { K with n := wpC Tb lim b K }) (K' := { K' with n := wpC Tb lim b K' }) (fun σ H h => wpC_mono (c := b) hn hr hx h) hr hx h
  | .cond c a b, K, K', σ, H, hn, hr, hx, h => by
    simp only [wpC] at h ⊢
    split at h
    · split at h
      · rename_i ht; rw [if_pos ht]; exact wpC_mono (c := a) hn hr hx h
      · rename_i ht; rw [if_neg ht]; exact wpC_mono (c := b) hn hr hx h
    · exact h.elim
  | .block id a, K, K', σ, H, hn, hr, hx, h => wpC_mono (c := a) (K := { K with x := fun i => if i = id then K.n else K.x i }) (K' := { K' with x := fun i => if i = id then K'.n else K'.x i }) hn hr (fun i σ H h => by
      by_cases hi : i = id
      · simp only [if_pos hi] at h ⊢; exact hn _ _ h
      · simp only [if_neg hi] at h ⊢; exact hx i _ _ h) h
  | .loop ms a, K, K', σ, H, hn, hr, hx, ⟨I, n0, h0, hs⟩ => ⟨I, n0, h0, fun n σ H hi => wpC_mono (c := a) (K := { K with n := fun σ' H' => ∃ m, m < n ∧ I m (maskL ms σ') H' }) (K' := { K' with n := fun σ' H' => ∃ m, m < n ∧ I m (maskL ms σ') H' }) (fun _ _ h => h) hr hx (hs n σ H hi)⟩
  | .exit id, K, K', σ, H, hn, hr, hx, h => hx id _ _ h
  | .ret ts ss, K, K', σ, H, hn, hr, hx, ⟨vs, h1, h2, h3⟩ => ⟨vs, h1, h2, hr _ _ h3⟩
  | .dead, K, K', σ, H, hn, hr, hx, h => h

theorem wpV_sound {Tb : Nat → Rel} {lim : Nat} : ∀ {c : Cmd} {n r : KV} {x : Nat → KV} {σ : List PV} {H : Boxes}, wpV Tb lim c n r x σ H → wpC Tb lim c ⟨n, r, x⟩ σ H
  | .skip, n, r, x, σ, H, h => h
  | .ops l, n, r, x, σ, H, h => wpX_sound h
  | .seq a b, n, r, x, σ, H, h => wpC_mono (c := a) (K := ⟨fun σ H => wpV Tb lim b n r x σ H, r, x⟩) (fun σ H h => wpV_sound (c := b) h) (fun _ _ h => h) (fun _ _ _ h => h) (wpV_sound (c := a) h)
  | .cond c a b, n, r, x, σ, H, h => by
    simp only [wpV, condK] at h
    simp only [wpC]
    split at h
    · rename_i t ht
      (try rw [ht])
      cases t
      · exact wpV_sound (c := b) (h.2 rfl)
      · exact wpV_sound (c := a) (h.1 rfl)
    · exact h.elim
  | .block id a, n, r, x, σ, H, h => wpV_sound (c := a) (x := fun i => if i = id then n else x i) h
  | .loop ms a, n, r, x, σ, H, ⟨I, n0, h0, hs⟩ => ⟨I, n0, h0, fun m σ H hi => wpV_sound (c := a) (n := fun σ' H' => ∃ k, k < m ∧ I k (maskL ms σ') H') (hs m σ H hi)⟩
  | .exit id, n, r, x, σ, H, h => h
  | .ret ts ss, n, r, x, σ, H, h => rvK_sound h
  | .dead, n, r, x, σ, H, h => h

/-- A function's contract, out of what is to be reckoned. -/
theorem fnX {P : Program} {g : Nat} {fn : Func} {sg : Sig} {names : List Nat} {hints : List (Nat × CK)} {l : Deps} {vs : List (Nat × Nat × Nat)} {R : Rel} {hs : HS} {cmd : Cmd} (nt : Nat) (hm : P.follows .mixedOrders = true) (hf : P.funcs[g]? = some fn) (hname : (fn.name == "runtime.NumGoroutine") = false)
    (hc : compileFn (mkE P names hints l vs) fn sg hs = some cmd) (hnt : fn.ntmps - sg.ps.length = nt) (ha : AllSpec P l)
    (hvc : ∀ (lim : Nat) (vs : List PV) (H : Boxes) (rs : List PV) (H' : Boxes), R lim vs H rs H' → vs.length = sg.ps.length → lim ≤ H.length → (sg.pure = true → lim = H.length) →
      wpV (relOf l) lim cmd (fun _ _ => False) (fun rs' H'' => rs' = rs ∧ (sg.pure = true ∨ H'' = H')) (fun _ _ _ => False) (vs ++ List.replicate nt .undef) H) : SpecR P g sg R :=
  fnSpec hm hf hname hc ha fun lim vs H rs H' hR h1 h2 h3 => wpV_sound (by rw [hnt]; exact hvc lim vs H rs H' hR h1 h2 h3)
end Go.Den
set_option autoImplicit false
namespace Go.Den

/-! ### How the reckoning goes: all of it told by data -/
inductive Frm where
  | s (b : Cmd)
  | bl (id : Nat)
  | lp (J : KV)
def res (Tb : Nat → Rel) (lim : Nat) (r : KV) : List Frm → KV × (Nat → KV)
  | [] => (fun _ _ => False, fun _ _ _ => False)
  | .s b :: st => (fun σ H => wpV Tb lim b (res Tb lim r st).1 r (res Tb lim r st).2 σ H, (res Tb lim r st).2)
  | .bl id :: st => ((res Tb lim r st).1, fun i => if i = id then (res Tb lim r st).1 else (res Tb lim r st).2 i)
  | .lp J :: st => (J, (res Tb lim r st).2)
/-- What the parts of a reckoning share: the contracts, the bound, what must hold at the return. -/
structure Bs where
  Tb : Nat → Rel
  lim : Nat
  r : KV
def goN (B : Bs) (st : List Frm) (σ : List PV) (H : Boxes) : Prop := (res B.Tb B.lim B.r st).1 σ H
def goX (B : Bs) (i : Nat) (st : List Frm) (σ : List PV) (H : Boxes) : Prop := (res B.Tb B.lim B.r st).2 i σ H
def goC (B : Bs) (c : Cmd) (st : List Frm) (σ : List PV) (H : Boxes) : Prop := wpV B.Tb B.lim c (res B.Tb B.lim B.r st).1 B.r (res B.Tb B.lim B.r st).2 σ H
def goO (B : Bs) (gs : List GOp) (st : List Frm) (σ : List PV) (H : Boxes) : Prop := wpX B.Tb B.lim gs (res B.Tb B.lim B.r st).1 σ H
def goL (B : Bs) (ms : List Bool) (a : Cmd) (st : List Frm) (σ : List PV) (H : Boxes) : Prop := goC B (.loop ms a) st σ H
def goR (B : Bs) (ts : List RV) (ss : List Src) (vs : List PV) (σ : List PV) (H : Boxes) : Prop := rvK σ H ts fun us => B.r (vs ++ us) (eatsH σ H ss)
def goIf (B : Bs) (v : PV) (a b : Cmd) (st : List Frm) (σ : List PV) (H : Boxes) : Prop := condK v (goC B a st σ H) (goC B b st σ H)
def goG (B : Bs) (v : PV) (b : Bool) (cop : COp) (d : Option Nat) (fl : Bool) (gs : List GOp) (st : List Frm) (σ : List PV) (H : Boxes) : Prop :=
  guardK v b (goO B (⟨cop, none, d, fl⟩ :: gs) st σ H) (goO B gs st (setD σ d (skipV fl)) H)
def goV (B : Bs) (v : Option PV) (d : Nat) (gs : List GOp) (st : List Frm) (σ : List PV) (H : Boxes) : Prop := optK v fun v => goO B gs st (σ.set d v) H
def goF (B : Bs) (v : Option PV) (fl : Bool) (d : Nat) (gs : List GOp) (st : List Frm) (σ : List PV) (H : Boxes) : Prop := optK v fun v => (fl = true → v.isFlat = true) ∧ goO B gs st (σ.set d v) H
def goH (B : Bs) (H : Option Boxes) (gs : List GOp) (st : List Frm) (σ : List PV) : Prop := hK H fun H => goO B gs st σ H
def goP (B : Bs) (c x y : PV) (d : Nat) (gs : List GOp) (st : List Frm) (σ : List PV) (H : Boxes) : Prop := pickK c x y fun v => goO B gs st (σ.set d v) H
/-- A call. -/
def goCall (B : Bs) (R : Rel) (sg : Sig) (vs : List PV) (H1 : Boxes) (d : Option Nat) (gs : List GOp) (st : List Frm) (σ : List PV) : Prop := callK R B.lim sg vs H1 fun v H' => goO B gs st (setD σ d v) H'
def goFn (B : Bs) (f : PV) (g nc : Nat) (sg : Sig) (vs : List PV) (H1 : Boxes) (d : Option Nat) (gs : List GOp) (st : List Frm) (σ : List PV) : Prop := fnK f g nc fun caps => goCall B (B.Tb g) sg (vs ++ caps) H1 d gs st σ
def goS (B : Bs) (v : PV) (d : Nat) (gs : List GOp) (st : List Frm) (σ : List PV) (H : Boxes) : Prop := strK v fun v => goO B gs st (σ.set d v) H

section
variable {B : Bs} {st : List Frm} {σ : List PV} {H : Boxes} {gs : List GOp} {p : Option Nat} {f : Bool}
@[simp] theorem goN_nil : goN B [] σ H = False := propext Iff.rfl
@[simp] theorem goN_s {b : Cmd} : goN B (.s b :: st) σ H = goC B b st σ H := propext Iff.rfl
@[simp] theorem goN_bl {id : Nat} : goN B (.bl id :: st) σ H = goN B st σ H := propext Iff.rfl
@[simp] theorem goN_lp {J : KV} : goN B (.lp J :: st) σ H = J σ H := propext Iff.rfl
@[simp] theorem goX_nil {i : Nat} : goX B i [] σ H = False := propext Iff.rfl
@[simp] theorem goX_s {b : Cmd} {i : Nat} : goX B i (.s b :: st) σ H = goX B i st σ H := propext Iff.rfl
@[simp] theorem goX_bl {id i : Nat} : goX B i (.bl id :: st) σ H = if i = id then goN B st σ H else goX B i st σ H := by
  show (if i = id then (res B.Tb B.lim B.r st).1 else (res B.Tb B.lim B.r st).2 i) σ H = _
  split <;> rfl
@[simp] theorem goX_lp {J : KV} {i : Nat} : goX B i (.lp J :: st) σ H = goX B i st σ H := propext Iff.rfl
@[simp] theorem goC_skip : goC B .skip st σ H = goN B st σ H := propext Iff.rfl
@[simp] theorem goC_ops {l : List GOp} : goC B (.ops l) st σ H = goO B l st σ H := propext Iff.rfl
@[simp] theorem goC_seq {a b : Cmd} : goC B (.seq a b) st σ H = goC B a (.s b :: st) σ H := propext Iff.rfl
@[simp] theorem goC_cond {c : Operand} {a b : Cmd} : goC B (.cond c a b) st σ H = goIf B (valO σ c) a b st σ H := propext Iff.rfl
@[simp] theorem goC_block {id : Nat} {a : Cmd} : goC B (.block id a) st σ H = goC B a (.bl id :: st) σ H := propext Iff.rfl
@[simp] theorem goC_loop {ms : List Bool} {a : Cmd} : goC B (.loop ms a) st σ H = goL B ms a st σ H := propext Iff.rfl
@[simp] theorem goC_exit {id : Nat} : goC B (.exit id) st σ H = goX B id st σ H := propext Iff.rfl
@[simp] theorem goC_ret {ts : List RV} {ss : List Src} : goC B (.ret ts ss) st σ H = goR B ts ss [] σ H := propext Iff.rfl
@[simp] theorem goC_dead : goC B .dead st σ H = False := propext Iff.rfl
@[simp] theorem goIf_bool {t : Bool} {a b : Cmd} : goIf B (.bool t) a b st σ H = ((t = true → goC B a st σ H) ∧ (t = false → goC B b st σ H)) := propext Iff.rfl
@[simp] theorem goR_nil {ss : List Src} {vs : List PV} : goR B [] ss vs σ H = B.r (vs ++ []) (eatsH σ H ss) := propext Iff.rfl
@[simp] theorem goR_tmp {t : Nat} {ts : List RV} {ss : List Src} {vs : List PV} : goR B (.tmp t :: ts) ss vs σ H = ((σ.getD t .undef).isUndef = false ∧ goR B ts ss (vs ++ [σ.getD t .undef]) σ H) := by
  simp only [goR, rvK, List.append_assoc, List.singleton_append]
@[simp] theorem goR_cell {u : Nat} {n : Option Nat} {fl : Bool} {ts : List RV} {ss : List Src} {vs : List PV} : goR B (.cell u n fl :: ts) ss vs σ H = optK (loadV H (σ.getD u .undef) n) fun v => v.isUndef = false ∧ (fl = true → v.isFlat = true) ∧ goR B ts ss (vs ++ [v]) σ H := by
  simp only [goR, rvK, List.append_assoc, List.singleton_append]
@[simp] theorem goO_nil : goO B [] st σ H = goN B st σ H := propext Iff.rfl
@[simp] theorem goO_guard {cop : COp} {j : Nat} {b : Bool} {d : Option Nat} {fl : Bool} : goO B (⟨cop, some (j, b), d, fl⟩ :: gs) st σ H = goG B (σ.getD j .undef) b cop d fl gs st σ H := propext Iff.rfl
@[simp] theorem goG_bool {c b : Bool} {cop : COp} {d : Option Nat} {fl : Bool} : goG B (.bool c) b cop d fl gs st σ H = ((c = b → goO B (⟨cop, none, d, fl⟩ :: gs) st σ H) ∧ (c ≠ b → goO B gs st (setD σ d (skipV fl)) H)) := propext Iff.rfl
@[simp] theorem goG_no {b : Bool} {cop : COp} {d : Option Nat} {fl : Bool} : goG B .no b cop d fl gs st σ H = goO B gs st (setD σ d (skipV fl)) H := propext Iff.rfl
@[simp] theorem goV_some {v : PV} {d : Nat} : goV B (some v) d gs st σ H = goO B gs st (σ.set d v) H := propext Iff.rfl
@[simp] theorem goF_some {v : PV} {fl : Bool} {d : Nat} : goF B (some v) fl d gs st σ H = ((fl = true → v.isFlat = true) ∧ goO B gs st (σ.set d v) H) := propext Iff.rfl
@[simp] theorem goH_some : goH B (some H) gs st σ = goO B gs st σ H := propext Iff.rfl
@[simp] theorem goP_bool {t : Bool} {x y : PV} {d : Nat} : goP B (.bool t) x y d gs st σ H = ((t = true → x ≠ .undef ∧ goO B gs st (σ.set d x) H) ∧ (t = false → y ≠ .undef ∧ goO B gs st (σ.set d y) H)) := propext Iff.rfl
@[simp] theorem goS_str {b : ByteArray} {d : Nat} : goS B (.str b) d gs st σ H = goO B gs st (σ.set d (.str b)) H := propext Iff.rfl
@[simp] theorem goFn_fn {g' g nc : Nat} {caps : List PV} {sg : Sig} {vs : List PV} {H1 : Boxes} {d : Option Nat} : goFn B (.fn g' caps) g nc sg vs H1 d gs st σ = (g' = g ∧ caps.length = nc ∧ goCall B (B.Tb g) sg (vs ++ caps) H1 d gs st σ) := propext Iff.rfl
@[simp] theorem go_copy {d : Nat} {x : Operand} : goO B (⟨.copy d x, none, p, f⟩ :: gs) st σ H = goO B gs st (σ.set d (valO σ x)) H := propext Iff.rfl
@[simp] theorem go_take {d : Nat} {x : Operand} {s : Src} : goO B (⟨.take d x s, none, p, f⟩ :: gs) st σ H = ((valO σ x).isUndef = false ∧ goO B gs st (σ.set d (valO σ x)) (eatH σ H s)) := propext Iff.rfl
@[simp] theorem go_bin {d : Nat} {op : BinOp} {x y : Operand} : goO B (⟨.bin d op x y, none, p, f⟩ :: gs) st σ H = goV B (binV op (valO σ x) (valO σ y)) d gs st σ H := propext Iff.rfl
@[simp] theorem go_un {d : Nat} {op : UnOp} {x : Operand} : goO B (⟨.un d op x, none, p, f⟩ :: gs) st σ H = goV B (unV op (valO σ x)) d gs st σ H := propext Iff.rfl
@[simp] theorem go_conv {d : Nat} {k : IntKind} {x : Operand} : goO B (⟨.conv d k x, none, p, f⟩ :: gs) st σ H = goV B (convV k (valO σ x)) d gs st σ H := propext Iff.rfl
@[simp] theorem go_pick {d : Nat} {a b c : Operand} : goO B (⟨.pick d a b c, none, p, f⟩ :: gs) st σ H = goP B (valO σ a) (valO σ b) (valO σ c) d gs st σ H := propext Iff.rfl
@[simp] theorem go_beq {d : Nat} {n : Bool} {x y : Operand} : goO B (⟨.beq d n x y, none, p, f⟩ :: gs) st σ H = goV B (beqV n (valO σ x) (valO σ y)) d gs st σ H := propext Iff.rfl
@[simp] theorem go_len {d : Nat} {n : Bool} {x : Operand} : goO B (⟨.len d n x, none, p, f⟩ :: gs) st σ H = goV B (lenV n (valO σ x)) d gs st σ H := propext Iff.rfl
@[simp] theorem go_isnil {d : Nat} {n : Bool} {x : Operand} : goO B (⟨.isnil d n x, none, p, f⟩ :: gs) st σ H = goV B (isnilV n (valO σ x)) d gs st σ H := propext Iff.rfl
@[simp] theorem go_mm {d : Nat} {n : Bool} {x y : Operand} : goO B (⟨.mm d n x y, none, p, f⟩ :: gs) st σ H = goV B (mmV n (valO σ x) (valO σ y)) d gs st σ H := propext Iff.rfl
@[simp] theorem go_box {d : Nat} {ck : CK} {x : Operand} {s : Src} : goO B (⟨.box d ck x s, none, p, f⟩ :: gs) st σ H = ((valO σ x).isUndef = false ∧ goO B gs st (σ.set d (.ref H.length 0)) (eatH σ H s ++ [(ck, (valO σ x).cells)])) := propext Iff.rfl
@[simp] theorem go_alloc {d : Nat} {ck : CK} {zs : List PV} : goO B (⟨.alloc d ck zs, none, p, f⟩ :: gs) st σ H = goO B gs st (σ.set d (.ref H.length 0)) (H ++ [(ck, zs)]) := propext Iff.rfl
@[simp] theorem go_loadB {d : Nat} {u : Operand} {n : Option Nat} {fl : Bool} : goO B (⟨.loadB d u n fl, none, p, f⟩ :: gs) st σ H = goF B (loadV H (valO σ u) n) fl d gs st σ H := propext Iff.rfl
@[simp] theorem go_storeB {u x : Operand} {n : Option Nat} {s : Src} : goO B (⟨.storeB u x n s, none, p, f⟩ :: gs) st σ H = ((valO σ x).isUndef = false ∧ goH B (storeV (eatH σ H s) (valO σ u) (valO σ x) n) gs st σ) := propext Iff.rfl
@[simp] theorem go_fadd {d : Nat} {u : Operand} {o : Nat} : goO B (⟨.fadd d u o, none, p, f⟩ :: gs) st σ H = goV B (faddV (valO σ u) o) d gs st σ H := propext Iff.rfl
@[simp] theorem go_iadd {d t e : Nat} {i : Operand} : goO B (⟨.iadd d t e i, none, p, f⟩ :: gs) st σ H = goV B (iaddV e (σ.getD t .undef) (valO σ i)) d gs st σ H := propext Iff.rfl
@[simp] theorem go_loadE {d t u : Nat} {n : Option Nat} {fl : Bool} : goO B (⟨.loadE d t u n fl, none, p, f⟩ :: gs) st σ H = goF B (elemV (σ.getD t .undef) (σ.getD u .undef) n) fl d gs st σ H := propext Iff.rfl
@[simp] theorem go_storeE {x u : Nat} {n : Option Nat} {y : Operand} : goO B (⟨.storeE x u n y, none, p, f⟩ :: gs) st σ H = goV B (storeEV (σ.getD x .undef) (σ.getD u .undef) (valO σ y) n) x gs st σ H := propext Iff.rfl
@[simp] theorem go_mks {d e b : Nat} {z : PV} {l c : Operand} : goO B (⟨.mks d e b z l c, none, p, f⟩ :: gs) st σ H = goV B (mksV e b z (valO σ l) (valO σ c)) d gs st σ H := propext Iff.rfl
@[simp] theorem go_lit {d e n : Nat} {xs : List Operand} {ss : List Src} : goO B (⟨.lit d e n xs ss, none, p, f⟩ :: gs) st σ H = (litOk n (xs.map (valO σ)) = true ∧ goO B gs st (σ.set d (.sl e (xs.map (valO σ)))) (eatsH σ H ss)) := propext Iff.rfl
@[simp] theorem go_call {d : Option Nat} {g : Nat} {sg : Sig} {xs : List Operand} {ss : List Src} : goO B (⟨.call d g sg xs ss, none, p, f⟩ :: gs) st σ H = goCall B (B.Tb g) sg (xs.map (valO σ)) (eatsH σ H ss) d gs st σ := propext Iff.rfl
@[simp] theorem go_callv {d : Option Nat} {fo : Operand} {g nc : Nat} {sg : Sig} {xs : List Operand} {ss : List Src} : goO B (⟨.callv d fo g nc sg xs ss, none, p, f⟩ :: gs) st σ H = goFn B (valO σ fo) g nc sg (xs.map (valO σ)) (eatsH σ H ss) d gs st σ := propext Iff.rfl
@[simp] theorem go_mkfn {d g : Nat} {xs : List Operand} : goO B (⟨.mkfn d g xs, none, p, f⟩ :: gs) st σ H = (isRefs (xs.map (valO σ)) = true ∧ goO B gs st (σ.set d (.fn g (xs.map (valO σ)))) H) := propext Iff.rfl
@[simp] theorem go_sidx {d : Nat} {x y : Operand} : goO B (⟨.sidx d x y, none, p, f⟩ :: gs) st σ H = goV B (sidxV (valO σ x) (valO σ y)) d gs st σ H := propext Iff.rfl
@[simp] theorem go_ssl {d : Nat} {x : Operand} : goO B (⟨.ssl d x none none, none, p, f⟩ :: gs) st σ H = goS B (valO σ x) d gs st σ H := propext Iff.rfl

/-- A loop, by a relation that bears a number. -/
theorem goL_intro {ms : List Bool} {a : Cmd} (I : Nat → KV) (n0 : Nat) (h0 : I n0 (maskL ms σ) H) (hs : ∀ n σ H, I n σ H → goC B a (.lp (fun σ' H' => ∃ m, m < n ∧ I m (maskL ms σ') H') :: st) σ H) : goL B ms a st σ H :=
  ⟨I, n0, h0, hs⟩
/-- A call, by its contract. -/
theorem goCall_intro {R : Rel} {sg : Sig} {vs : List PV} {H1 : Boxes} {d : Option Nat} {rs : List PV} {H2 : Boxes} (h1 : R (limV sg.pure B.lim H1) vs H1 rs H2) (h2 : argsV (limV sg.pure B.lim H1) H1 sg.ps vs)
    (h3 : goO B gs st (setD σ d (packP rs)) (if sg.pure then H1 else mergeH B.lim H1 H2)) : goCall B R sg vs H1 d gs st σ := ⟨h2, rs, H2, h1, h3⟩
theorem goCall_pure {R : Rel} {sg : Sig} {vs : List PV} {H1 : Boxes} {d : Option Nat} {rs : List PV} (hp : sg.pure = true) (h1 : R H1.length vs H1 rs H1) (h2 : argsV H1.length H1 sg.ps vs)
    (h3 : goO B gs st (setD σ d (packP rs)) H1) : goCall B R sg vs H1 d gs st σ := by
  refine ⟨by simp only [limV, if_pos hp]; exact h2, rs, H1, by simp only [limV, if_pos hp]; exact h1, by rw [if_pos hp]; exact h3⟩
end
attribute [simp] setD valO skipV eatsH eatH ofValue putCells litOk maskL packP argsV limV viewV keepB undefs sigOf relOf cellV
section
variable {b c : Bool} {k k' : IntKind} {i n m : Int} {xs : List PV} {e j r : Nat} {q : Option Nat} {s : ByteArray} {H : Boxes} {v : PV}
@[simp] theorem optK_some {v : PV} {K : PV → Prop} : optK (some v) K = K v := rfl
@[simp] theorem lenV_nil : lenV false .nil = some (.int .i64 0) := rfl
@[simp] theorem lenV_sl : lenV false (.sl e xs) = some (.int .i64 xs.length) := rfl
@[simp] theorem lenV_str : lenV true (.str s) = some (.int .i64 s.size) := rfl
@[simp] theorem isnilV_nil : isnilV b .nil = some (.bool (!b)) := rfl
@[simp] theorem isnilV_sl : isnilV b (.sl e xs) = some (.bool b) := rfl
@[simp] theorem unV_neg : unV .neg (.int k n) = some (.int k (k.wrap (0 - n))) := rfl
@[simp] theorem unV_not : unV .not (.bool b) = some (.bool !b) := rfl
@[simp] theorem convV_int : convV k (.int k' n) = some (.int k (k.wrap n)) := rfl
@[simp] theorem mmV_max : mmV true (.int k n) (.int k' m) = some (.int k (max n m)) := by
  simp only [mmV]; congr 2; simp only [if_true]; split <;> omega
@[simp] theorem mmV_min : mmV false (.int k n) (.int k' m) = some (.int k (min n m)) := by
  simp only [mmV]; congr 2; simp only [Bool.false_eq_true, if_false]; split <;> omega
@[simp] theorem beqV_eq : beqV false (.bool b) (.bool c) = some (.bool (b == c)) := rfl
@[simp] theorem beqV_ne : beqV true (.bool b) (.bool c) = some (.bool (b != c)) := rfl
@[simp] theorem loadV_ref : loadV H (.ref r j) q = match H[r]? with | some b => cellV b.2 j q | none => none := by
  simp only [loadV]
  cases H[r]? with
  | none => rfl
  | some b => cases q <;> rfl
@[simp] theorem storeV_ref : storeV H (.ref r j) v q = match H[r]? with | some b => if nOk q v = true ∧ v.cells.all PV.def1 = true ∧ j + v.cells.length ≤ b.2.length then some (H.set r (b.1, putCells b.2 j v.cells)) else none | none => none := rfl
@[simp] theorem faddV_ref {off : Nat} : faddV (.ref r j) off = some (.ref r (j + off)) := rfl
@[simp] theorem faddV_eix {off t : Nat} : faddV (.eix t j) off = some (.eix t (j + off)) := rfl
@[simp] theorem iaddV_sl : iaddV e (.sl e xs) (.int k n) = if 0 ≤ n ∧ n.toNat < xs.length then some (.eix n.toNat 0) else none := by simp [iaddV]
@[simp] theorem elemV_sl : elemV (.sl e xs) (.eix r j) q = match xs[r]? with | some x => cellV x.cells j q | none => none := rfl
@[simp] theorem storeEV_sl : storeEV (.sl e xs) (.eix r j) v q = match xs[r]? with | some x => if nOk q v = true ∧ reOk x v = true ∧ v.cells.all PV.def1 = true ∧ v.isFlat = true ∧ j + v.cells.length ≤ x.cells.length then some (.sl e (xs.set r (reCell x j v))) else none | none => none := rfl
@[simp] theorem mksV_int {b : Nat} {z : PV} : mksV e b z (.int k n) (.int k' m) = if n = m ∧ 0 ≤ n ∧ (b : Int) * n ≤ 281474976710656 ∧ n ≤ 9223372036854775807 then some (.sl e (List.replicate n.toNat z)) else none := rfl
@[simp] theorem get_app {α : Type} {l l' : List α} {k : Nat} : (l ++ l')[l.length + k]? = l'[k]? := by rw [List.getElem?_append_right (by omega)]; congr 1; omega
@[simp] theorem get_app0 {α : Type} {l l' : List α} : (l ++ l')[l.length]? = l'[0]? := by rw [List.getElem?_append_right (by omega)]; congr 1; omega
@[simp] theorem set_app {α : Type} {l l' : List α} {k : Nat} {x : α} : (l ++ l').set (l.length + k) x = l ++ l'.set k x := by
  induction l with
  | nil => simp
  | cons a l ih => simp only [List.cons_append, List.length_cons]; rw [show l.length + 1 + k = (l.length + k) + 1 by omega, List.set_cons_succ, ih]
@[simp] theorem set_app0 {α : Type} {l l' : List α} {x : α} : (l ++ l').set l.length x = l ++ l'.set 0 x := set_app (k := 0)
/-! what each value is -/
@[simp] theorem isUndef_undef : PV.isUndef .undef = true := rfl
@[simp] theorem cells_undef : PV.cells .undef = [.undef] := rfl
@[simp] theorem def1_undef : PV.def1 .undef = false := rfl
@[simp] theorem isFlat_undef : PV.isFlat .undef = false := rfl
@[simp] theorem nOk_undef : nOk none .undef = true := rfl
@[simp] theorem isUndef_no : PV.isUndef .no = false := rfl
@[simp] theorem cells_no : PV.cells .no = [.no] := rfl
@[simp] theorem def1_no : PV.def1 .no = false := rfl
@[simp] theorem isFlat_no : PV.isFlat .no = true := rfl
@[simp] theorem nOk_no : nOk none .no = true := rfl
@[simp] theorem isUndef_int {k : IntKind} {n : Int} : PV.isUndef (.int k n) = false := rfl
@[simp] theorem cells_int {k : IntKind} {n : Int} : PV.cells (.int k n) = [(.int k n)] := rfl
@[simp] theorem def1_int {k : IntKind} {n : Int} : PV.def1 (.int k n) = true := rfl
@[simp] theorem isFlat_int {k : IntKind} {n : Int} : PV.isFlat (.int k n) = true := rfl
@[simp] theorem nOk_int {k : IntKind} {n : Int} : nOk none (.int k n) = true := rfl
@[simp] theorem isUndef_bool {b : Bool} : PV.isUndef (.bool b) = false := rfl
@[simp] theorem cells_bool {b : Bool} : PV.cells (.bool b) = [(.bool b)] := rfl
@[simp] theorem def1_bool {b : Bool} : PV.def1 (.bool b) = true := rfl
@[simp] theorem isFlat_bool {b : Bool} : PV.isFlat (.bool b) = true := rfl
@[simp] theorem nOk_bool {b : Bool} : nOk none (.bool b) = true := rfl
@[simp] theorem isUndef_str {b : ByteArray} : PV.isUndef (.str b) = false := rfl
@[simp] theorem cells_str {b : ByteArray} : PV.cells (.str b) = [(.str b)] := rfl
@[simp] theorem def1_str {b : ByteArray} : PV.def1 (.str b) = true := rfl
@[simp] theorem isFlat_str {b : ByteArray} : PV.isFlat (.str b) = true := rfl
@[simp] theorem nOk_str {b : ByteArray} : nOk none (.str b) = true := rfl
@[simp] theorem isUndef_nil : PV.isUndef .nil = false := rfl
@[simp] theorem cells_nil : PV.cells .nil = [.nil] := rfl
@[simp] theorem def1_nil : PV.def1 .nil = true := rfl
@[simp] theorem isFlat_nil : PV.isFlat .nil = true := rfl
@[simp] theorem nOk_nil : nOk none .nil = true := rfl
@[simp] theorem isUndef_nilp : PV.isUndef .nilp = false := rfl
@[simp] theorem cells_nilp : PV.cells .nilp = [.nilp] := rfl
@[simp] theorem def1_nilp : PV.def1 .nilp = true := rfl
@[simp] theorem isFlat_nilp : PV.isFlat .nilp = true := rfl
@[simp] theorem nOk_nilp : nOk none .nilp = true := rfl
@[simp] theorem isUndef_nilf : PV.isUndef .nilf = false := rfl
@[simp] theorem cells_nilf : PV.cells .nilf = [.nilf] := rfl
@[simp] theorem def1_nilf : PV.def1 .nilf = true := rfl
@[simp] theorem isFlat_nilf : PV.isFlat .nilf = true := rfl
@[simp] theorem nOk_nilf : nOk none .nilf = true := rfl
@[simp] theorem isUndef_sl {e : Nat} {xs : List PV} : PV.isUndef (.sl e xs) = false := rfl
@[simp] theorem cells_sl {e : Nat} {xs : List PV} : PV.cells (.sl e xs) = [(.sl e xs)] := rfl
@[simp] theorem def1_sl {e : Nat} {xs : List PV} : PV.def1 (.sl e xs) = true := rfl
@[simp] theorem isFlat_sl {e : Nat} {xs : List PV} : PV.isFlat (.sl e xs) = false := rfl
@[simp] theorem nOk_sl {e : Nat} {xs : List PV} : nOk none (.sl e xs) = true := rfl
@[simp] theorem isUndef_agg {xs : List PV} : PV.isUndef (.agg xs) = false := rfl
@[simp] theorem def1_agg {xs : List PV} : PV.def1 (.agg xs) = false := rfl
@[simp] theorem isUndef_tup {xs : List PV} : PV.isUndef (.tup xs) = false := rfl
@[simp] theorem cells_tup {xs : List PV} : PV.cells (.tup xs) = [(.tup xs)] := rfl
@[simp] theorem def1_tup {xs : List PV} : PV.def1 (.tup xs) = false := rfl
@[simp] theorem isFlat_tup {xs : List PV} : PV.isFlat (.tup xs) = false := rfl
@[simp] theorem nOk_tup {xs : List PV} : nOk none (.tup xs) = true := rfl
@[simp] theorem isUndef_ref {r j : Nat} : PV.isUndef (.ref r j) = false := rfl
@[simp] theorem cells_ref {r j : Nat} : PV.cells (.ref r j) = [(.ref r j)] := rfl
@[simp] theorem def1_ref {r j : Nat} : PV.def1 (.ref r j) = true := rfl
@[simp] theorem isFlat_ref {r j : Nat} : PV.isFlat (.ref r j) = false := rfl
@[simp] theorem nOk_ref {r j : Nat} : nOk none (.ref r j) = true := rfl
@[simp] theorem isUndef_fn {g : Nat} {xs : List PV} : PV.isUndef (.fn g xs) = false := rfl
@[simp] theorem cells_fn {g : Nat} {xs : List PV} : PV.cells (.fn g xs) = [(.fn g xs)] := rfl
@[simp] theorem def1_fn {g : Nat} {xs : List PV} : PV.def1 (.fn g xs) = true := rfl
@[simp] theorem isFlat_fn {g : Nat} {xs : List PV} : PV.isFlat (.fn g xs) = false := rfl
@[simp] theorem nOk_fn {g : Nat} {xs : List PV} : nOk none (.fn g xs) = true := rfl
@[simp] theorem isUndef_eix {r j : Nat} : PV.isUndef (.eix r j) = false := rfl
@[simp] theorem cells_eix {r j : Nat} : PV.cells (.eix r j) = [(.eix r j)] := rfl
@[simp] theorem def1_eix {r j : Nat} : PV.def1 (.eix r j) = true := rfl
@[simp] theorem isFlat_eix {r j : Nat} : PV.isFlat (.eix r j) = false := rfl
@[simp] theorem nOk_eix {r j : Nat} : nOk none (.eix r j) = true := rfl
@[simp] theorem cells_agg {xs : List PV} : PV.cells (.agg xs) = xs := rfl
def flat1 : PV → Bool
  | .int .. | .bool _ | .str _ | .nil | .nilp | .nilf => true
  | _ => false
@[simp] theorem flat1_int {k : IntKind} {n : Int} : flat1 (.int k n) = true := rfl
@[simp] theorem flat1_bool {b : Bool} : flat1 (.bool b) = true := rfl
@[simp] theorem flat1_str {b : ByteArray} : flat1 (.str b) = true := rfl
@[simp] theorem isFlat_agg {xs : List PV} : PV.isFlat (.agg xs) = xs.all flat1 := by
  simp only [PV.isFlat]
  congr 1
@[simp] theorem nOk_agg {m : Nat} {xs : List PV} : nOk (some m) (.agg xs) = decide (xs.length = m) := rfl
@[simp] theorem reOk_agg {xs : List PV} {v : PV} : reOk (.agg xs) v = true := rfl
@[simp] theorem reOk_int {k : IntKind} {n : Int} {k' : IntKind} {n' : Int} : reOk (.int k n) (.int k' n') = true := rfl
@[simp] theorem reOk_bool {b c : Bool} : reOk (.bool b) (.bool c) = true := rfl
@[simp] theorem reCell_agg {xs : List PV} {j : Nat} {v : PV} : reCell (.agg xs) j v = .agg (putCells xs j v.cells) := rfl
@[simp] theorem reCell_int {k : IntKind} {n : Int} {j : Nat} {v : PV} : reCell (.int k n) j v = v := rfl
@[simp] theorem reCell_bool {b : Bool} {j : Nat} {v : PV} : reCell (.bool b) j v = v := rfl
@[simp] theorem isRefs_nil : isRefs [] = true := rfl
@[simp] theorem isRefs_ref {r j : Nat} {vs : List PV} : isRefs (.ref r j :: vs) = isRefs vs := by simp [isRefs]
@[simp] theorem argV_ptr {lim : Nat} {H : Boxes} {ck : CK} {r j : Nat} : argV lim H (.ptr ck) (.ref r j) = match H[r]? with | some b => viewV lim r b.1 = ck | none => False := rfl
@[simp] theorem argV_own {lim : Nat} {H : Boxes} {v : PV} : argV lim H .own v = (v.isUndef = false) := by cases v <;> simp [argV]
@[simp] theorem argV_fz {lim : Nat} {H : Boxes} {v : PV} : argV lim H .fz v = (v.isUndef = false) := by cases v <;> simp [argV]
@[simp] theorem argV_fn {lim : Nat} {H : Boxes} {v : PV} : argV lim H .fn v = (v.isUndef = false) := by cases v <;> simp [argV]
@[simp] theorem argV_fl {lim : Nat} {H : Boxes} {v : PV} : argV lim H .fl v = True := by cases v <;> simp [argV]
@[simp] theorem argV_rd {lim : Nat} {H : Boxes} {v : PV} : argV lim H .rd v = True := by cases v <;> simp [argV]
@[simp] theorem unbox_app {H : Boxes} {l : List (CK × List PV)} {k j n : Nat} : unbox (H ++ l) (.ref (H.length + k) j) n = match l[k]? with | some b => H ++ l.set k (b.1, undefs b.2 j (max n 1)) | none => H ++ l := by
  simp only [unbox, get_app]
  cases l[k]? with
  | none => rfl
  | some b => simp only [set_app]
@[simp] theorem unbox_app0 {H : Boxes} {l : List (CK × List PV)} {j n : Nat} : unbox (H ++ l) (.ref H.length j) n = match l[0]? with | some b => H ++ l.set 0 (b.1, undefs b.2 j (max n 1)) | none => H ++ l := unbox_app (k := 0)
theorem get_box {H : Boxes} {l : List (CK × List PV)} {k : Nat} : (H ++ l)[H.length + k]? = l[k]? := get_app
end
section
variable {k : IntKind} {a b : Int}
@[simp] theorem bin_add : binV .add (.int k a) (.int k b) = some (.int k (k.wrap (a + b))) := by simp [binV]
@[simp] theorem bin_sub : binV .sub (.int k a) (.int k b) = some (.int k (k.wrap (a - b))) := by simp [binV]
@[simp] theorem bin_mul : binV .mul (.int k a) (.int k b) = some (.int k (k.wrap (a * b))) := by simp [binV]
@[simp] theorem bin_quo : binV .quo (.int k a) (.int k b) = if b = 0 then none else some (.int k (k.wrap (a.tdiv b))) := by by_cases h : b = 0 <;> simp [binV, h]
@[simp] theorem bin_rem : binV .rem (.int k a) (.int k b) = if b = 0 then none else some (.int k (a.tmod b)) := by by_cases h : b = 0 <;> simp [binV, h]
@[simp] theorem bin_eql : binV .eql (.int k a) (.int k b) = some (.bool (a == b)) := by simp [binV]
@[simp] theorem bin_neq : binV .neq (.int k a) (.int k b) = some (.bool (a != b)) := by simp [binV]
@[simp] theorem bin_lss : binV .lss (.int k a) (.int k b) = some (.bool (decide (a < b))) := by simp [binV]
@[simp] theorem bin_leq : binV .leq (.int k a) (.int k b) = some (.bool (decide (a ≤ b))) := by simp [binV]
@[simp] theorem bin_gtr : binV .gtr (.int k a) (.int k b) = some (.bool (decide (b < a))) := by simp [binV]
@[simp] theorem bin_geq : binV .geq (.int k a) (.int k b) = some (.bool (decide (b ≤ a))) := by simp [binV]
end
theorem wrap_id {x : Int} (h1 : -9223372036854775808 ≤ x) (h2 : x ≤ 9223372036854775807) : IntKind.i64.wrap x = x := by
  rw [IntKind.wrap_i64]; omega

/-- A function's contract, out of what is to be reckoned. -/
theorem fnZ {P : Program} {g : Nat} {fn : Func} {sg : Sig} {names : List Nat} {hints : List (Nat × CK)} {l : Deps} {vs : List (Nat × Nat × Nat)} {R : Rel} {hs : HS} {cmd : Cmd} (nt : Nat) (hm : P.follows .mixedOrders = true) (hf : P.funcs[g]? = some fn) (hname : (fn.name == "runtime.NumGoroutine") = false)
    (hc : compileFn (mkE P names hints l vs) fn sg hs = some cmd) (hnt : fn.ntmps - sg.ps.length = nt) (ha : AllSpec P l)
    (hvc : ∀ (lim : Nat) (vs : List PV) (H : Boxes) (rs : List PV) (H' : Boxes), R lim vs H rs H' → vs.length = sg.ps.length → lim ≤ H.length → (sg.pure = true → lim = H.length) →
      goC ⟨relOf l, lim, fun rs' H'' => rs' = rs ∧ (sg.pure = true ∨ H'' = H')⟩ cmd [] (vs ++ List.replicate nt .undef) H) : SpecR P g sg R :=
  fnX nt hm hf hname hc hnt ha hvc
end Go.Den
set_option autoImplicit false
namespace Go.Den

/-! ### Plain data as values -/
abbrev I (n : Int) : PV := .int .i64 n
/-- A slice (perhaps nil) reads a list. -/
def Sl {α : Type} (e : Nat) (f : α → PV) (v : PV) (xs : List α) : Prop := (v = .sl e (xs.map f) ∨ v = .nil ∧ xs = []) ∧ xs.length ≤ 9223372036854775807
section
variable {α : Type} {e : Nat} {f : α → PV} {v : PV} {xs : List α}
theorem Sl.len (h : Sl e f v xs) : lenV false v = some (.int .i64 xs.length) := by
  rcases h.1 with rfl | ⟨rfl, rfl⟩ <;> simp
theorem Sl.iadd (h : Sl e f v xs) {i : Nat} (hi : i < xs.length) : iaddV e v (.int .i64 i) = some (.eix i 0) := by
  rcases h.1 with rfl | ⟨rfl, rfl⟩
  · simp; omega
  · simp at hi
theorem Sl.elem (h : Sl e f v xs) {i j : Nat} {n : Option Nat} (hi : i < xs.length) : elemV v (.eix i j) n = cellV (f (xs[i])).cells j n := by
  rcases h.1 with rfl | ⟨rfl, rfl⟩
  · simp [hi]
  · simp at hi
theorem Sl.undef (h : Sl e f v xs) : v.isUndef = false := by
  rcases h.1 with rfl | ⟨rfl, rfl⟩ <;> rfl
theorem Sl.cells (h : Sl e f v xs) : v.cells = [v] := by
  rcases h.1 with rfl | ⟨rfl, rfl⟩ <;> rfl
theorem Sl.def1 (h : Sl e f v xs) : v.def1 = true := by
  rcases h.1 with rfl | ⟨rfl, rfl⟩ <;> rfl
theorem Sl.nOk (h : Sl e f v xs) : nOk none v = true := by
  rcases h.1 with rfl | ⟨rfl, rfl⟩ <;> rfl
theorem Sl.mk (h : xs.length ≤ 9223372036854775807) : Sl e f (.sl e (xs.map f)) xs := ⟨.inl rfl, h⟩
end

theorem argV_sh {H : Boxes} {r j : Nat} {ck : CK} {l : List PV} (h : H[r]? = some (ck, l)) (hc : ck ≠ .fn) : argV H.length H (.ptr .sh) (.ref r j) := by
  have h2 := H_lt h
  rw [argV_ptr, h]
  exact if_pos ⟨h2, hc⟩

def inR (lo hi n : Int) : Bool := decide (lo ≤ n ∧ n ≤ hi)
structure B3 where
  a : Int
  b : Int
  c : Int
  deriving DecidableEq
def pB (x : B3) : PV := .agg [I x.a, I x.b, I x.c]
@[simp] theorem pB_cells (x : B3) : (pB x).cells = [I x.a, I x.b, I x.c] := rfl
@[simp] theorem pB_undef (x : B3) : (pB x).isUndef = false := rfl
@[simp] theorem pB_flat (x : B3) : (pB x).isFlat = true := by simp [pB]
@[simp] theorem pB_nOk (x : B3) : nOk (some 3) (pB x) = true := rfl
theorem pB_eq (x : B3) : .agg [I x.a, I x.b, I x.c] = pB x := rfl
def idx {α : Type} (p : α → Bool) (xs : List α) : Int := match xs.findIdx? p with | some i => i | none => -1
theorem idx_ge {α : Type} (p : α → Bool) (xs : List α) : decide (0 ≤ idx p xs) = xs.any p := by
  unfold idx
  cases h : xs.findIdx? p with
  | none =>
    rw [List.findIdx?_eq_none_iff] at h
    have : xs.any p = false := by rw [List.any_eq_false]; intro x hx; simp [h x hx]
    rw [this]; simp
  | some i =>
    have := List.findIdx?_eq_some_iff_getElem.1 h
    obtain ⟨hi, hp, _⟩ := this
    have : xs.any p = true := List.any_eq_true.2 ⟨_, List.getElem_mem hi, hp⟩
    rw [this]; simp
/-- All before i fail p. -/
def Before {α : Type} (p : α → Bool) (xs : List α) (i : Nat) : Prop := ∀ j (hj : j < xs.length), j < i → p xs[j] = false
theorem Before.zero {α : Type} {p : α → Bool} {xs : List α} : Before p xs 0 := fun _ _ h => absurd h (by omega)
theorem Before.succ {α : Type} {p : α → Bool} {xs : List α} {i : Nat} (h : Before p xs i) (hi : i < xs.length) (hp : p xs[i] = false) : Before p xs (i + 1) := fun j hj hlt => by
  by_cases he : j = i
  · subst he; exact hp
  · exact h j hj (by omega)
theorem Before.idx {α : Type} {p : α → Bool} {xs : List α} {i : Nat} (h : Before p xs i) (hi : i < xs.length) (hp : p xs[i] = true) : idx p xs = i := by
  unfold Den.idx
  rw [List.findIdx?_eq_some_iff_getElem.2 ⟨hi, hp, fun j hj => by simp [h j (by omega) hj]⟩]
theorem Before.none {α : Type} {p : α → Bool} {xs : List α} {i : Nat} (h : Before p xs i) (hi : xs.length ≤ i) : Den.idx p xs = -1 := by
  unfold Den.idx
  rw [List.findIdx?_eq_none_iff.2 fun x hx => by
    obtain ⟨j, hj, rfl⟩ := List.getElem_of_mem hx
    simp [h j hj (by omega)]]
theorem Before.all {α : Type} {p : α → Bool} {xs : List α} {i : Nat} (h : Before p xs i) (hi : xs.length ≤ i) : (xs.all fun x => !p x) = true := by
  rw [List.all_eq_true]
  intro x hx
  obtain ⟨j, hj, rfl⟩ := List.getElem_of_mem hx
  simp [h j hj (by omega)]
/-- A copy half made. -/
def fillL {α : Type} (f : α → PV) (z : PV) (xs : List α) (i : Nat) : List PV := (xs.take i).map f ++ List.replicate (xs.length - i) z
section
variable {α : Type} {f : α → PV} {z : PV} {xs : List α} {i : Nat}
theorem fill_zero : fillL f z xs 0 = List.replicate xs.length z := by simp [fillL]
theorem fill_all (h : xs.length ≤ i) : fillL f z xs i = xs.map f := by
  unfold fillL
  rw [List.take_of_length_le h, show xs.length - i = 0 by omega]; simp
theorem fill_len (h : i ≤ xs.length) : (fillL f z xs i).length = xs.length := by simp [fillL]; omega
theorem fill_get (h : i < xs.length) : (fillL f z xs i)[i]? = some z := by
  unfold fillL
  have e1 : min i xs.length = i := by omega
  rw [List.getElem?_append_right (by simp; omega)]
  simp only [List.length_map, List.length_take, List.getElem?_replicate, e1]
  rw [if_pos (by omega)]
theorem fill_getE (h : i < xs.length) (h' : i < (fillL f z xs i).length) : (fillL f z xs i)[i] = z := by
  have := fill_get (f := f) (z := z) h
  rw [List.getElem?_eq_getElem h'] at this
  exact Option.some.inj this
theorem fill_set (h : i < xs.length) : (fillL f z xs i).set i (f xs[i]) = fillL f z xs (i + 1) := by
  apply List.ext_getElem?
  intro j
  unfold fillL
  by_cases hj : j = i
  · subst hj
    rw [List.getElem?_set_self (by simp; omega), List.getElem?_append_left (by simp; omega)]
    simp [h]
  · rw [List.getElem?_set_ne (Ne.symm hj)]
    by_cases hlt : j < i
    · rw [List.getElem?_append_left (by simp; omega), List.getElem?_append_left (by simp; omega)]
      simp [List.getElem?_take, hlt, show j < i + 1 by omega]
    · rw [List.getElem?_append_right (by simp; omega), List.getElem?_append_right (by simp; omega)]
      simp only [List.length_map, List.length_take, List.getElem?_replicate]
      have e1 : min i xs.length = i := by omega
      have e2 : min (i + 1) xs.length = i + 1 := by omega
      rw [e1, e2]
      by_cases hl : j < xs.length
      · rw [if_pos (by omega), if_pos (by omega)]
      · rw [if_neg (by omega), if_neg (by omega)]
end
end Go.Den
set_option autoImplicit false
namespace Go.Den

/-! ### What came in, read as plain values -/
/-- Cells read, one by one. -/
def RC (P : Program) (w : World) (vs : List PV) (cs : List Value) : Prop := vs.length = cs.length ∧ ∀ i, i < vs.length → R P w .rep (fun k => k < w.heap.size) (vs.getD i .undef) (cs.getD i undef)

theorem RC.append {P : Program} {w : World} {v1 v2 : List PV} {c1 c2 : List Value} (h1 : RC P w v1 c1) (h2 : RC P w v2 c2) : RC P w (v1 ++ v2) (c1 ++ c2) := by
  refine ⟨by simp [h1.1, h2.1], fun i hi => ?_⟩
  simp only [List.getD_eq_getElem?_getD]
  by_cases h : i < v1.length
  · rw [List.getElem?_append_left h, List.getElem?_append_left (by rw [← h1.1]; exact h)]
    have := h1.2 i h
    simpa only [List.getD_eq_getElem?_getD] using this
  · rw [List.getElem?_append_right (by omega), List.getElem?_append_right (by rw [← h1.1]; omega), ← h1.1]
    have := h2.2 (i - v1.length) (by simp at hi; omega)
    simpa only [List.getD_eq_getElem?_getD] using this
theorem RC.one {P : Program} {w : World} {v : PV} {c : Value} (h : R P w .rep (fun k => k < w.heap.size) v c) : RC P w [v] [c] :=
  ⟨rfl, fun i hi => by obtain rfl : i = 0 := by simpa using hi
                       exact h⟩

/-- Rows that these cells name lie in memory. -/
def Lies (w : World) (cs : List Value) : Prop := ∀ (i : Nat) (a : Addr) (len cap : Nat), cs[i]? = some (.slice (some a) len cap) → a.block < w.heap.size
/-- Whatever of type t came in reads as n cells of which Q holds. -/
def Opens (need : Bool) (P : Program) (t : TypeId) (n : Nat) (Q : List PV → Prop) : Prop :=
  P.cellsOf t = n ∧ ∀ {H : Type} {enc : TypeId × Value → H} {w : World} {base : Nat} {spare : Nat → Bool} {held : Bool} {fuel : Nat} {cs : List Value} {x : DataW H × List MemPlace},
    DataW.trod enc P w base spare held fuel t cs = some x → (need = true → Lies w cs) → ∃ vs, Q vs ∧ vs.length = n ∧ RC P w vs cs

theorem Opens.mono {need : Bool} {P : Program} {t : TypeId} {n : Nat} {Q Q' : List PV → Prop} (h : Opens need P t n Q) (hq : ∀ vs, Q vs → Q' vs) : Opens need P t n Q' :=
  ⟨h.1, fun hx hl => by obtain ⟨vs, h1, h2⟩ := h.2 hx hl; exact ⟨vs, hq vs h1, h2⟩⟩

theorem Opens.int {need : Bool} {P : Program} {t : TypeId} {k : IntKind} (ht : P.underlying t = some (.int k)) (hc : P.cellsOf t = 1) : Opens need P t 1 (fun vs => ∃ n, vs = [.int k n] ∧ (Lit.int k n).wf = true) := by
  refine ⟨hc, fun {H enc w base spare held fuel cs x} hx _ => ?_⟩
  obtain ⟨n, rfl, _, hwf⟩ := DataW.trod_int ht hx
  exact ⟨_, ⟨_, rfl, hwf⟩, rfl, RC.one (.flat rfl)⟩
theorem Opens.bool {need : Bool} {P : Program} {t : TypeId} (ht : P.underlying t = some .bool) (hc : P.cellsOf t = 1) : Opens need P t 1 (fun vs => ∃ b, vs = [.bool b]) := by
  refine ⟨hc, fun {H enc w base spare held fuel cs x} hx _ => ?_⟩
  obtain ⟨n, rfl, _⟩ := DataW.trod_bool ht hx
  exact ⟨_, ⟨_, rfl⟩, rfl, RC.one (.flat rfl)⟩
theorem Opens.str {need : Bool} {P : Program} {t : TypeId} (ht : P.underlying t = some .string) (hc : P.cellsOf t = 1) : Opens need P t 1 (fun vs => ∃ s : ByteArray, vs = [.str s] ∧ s.size ≤ maxLen) := by
  refine ⟨hc, fun {H enc w base spare held fuel cs x} hx _ => ?_⟩
  obtain ⟨n, rfl, _, hwf⟩ := DataW.trod_string ht hx
  exact ⟨_, ⟨_, rfl, hwf⟩, rfl, RC.one (.flat rfl)⟩

/-- An element, out of its cells. -/
def mkEl (agg : Bool) (vs : List PV) : PV := if agg then .agg vs else vs.getD 0 .undef
theorem Opens.sl {P : Program} {t e : TypeId} {n : Nat} {Q : List PV → Prop} (agg : Bool) (he : Opens false P e n Q) (ht : P.underlying t = some (.slice e)) (hc : P.cellsOf t = 1) (hn : 0 < n) (hcell : agg = false → n = 1 ∧ ∀ vs, Q vs → (vs.getD 0 .undef).cells = vs) :
    Opens true P t 1 (fun vs => ∃ v xs, vs = [v] ∧ (v = .nil ∧ xs = [] ∨ v = .sl e (xs.map (mkEl agg))) ∧ xs.length ≤ 9223372036854775807 ∧ ∀ x ∈ xs, Q x) := by
  refine ⟨hc, fun {H enc w base spare held fuel cs x} hx hli => ?_⟩
  rcases DataW.trod_slice ht hx with ⟨rfl, _⟩ | ⟨a, len, cap, elems, rest, m, _, rfl, _, _, hl, hm, hlen, hel, _⟩
  · exact ⟨[.nil], ⟨_, [], rfl, .inl ⟨rfl, rfl⟩, by simp, by simp⟩, rfl, RC.one (.flat rfl)⟩
  · -- each element
    have each : ∀ i, ∃ vs : List PV, i < len → Q vs ∧ vs.length = n ∧ ∃ ccs, w.cells? base (a.add (i * n)) n = some ccs ∧ RC P w vs ccs := fun i => by
      by_cases hi : i < len
      · have h1 := hel i hi
        rw [he.1] at h1
        have h2 : ∃ y, elems[i]? = some y := ⟨elems[i], List.getElem?_eq_getElem (by omega)⟩
        obtain ⟨y, hy⟩ := h2
        rw [hy] at h1
        obtain ⟨ccs, h3, h4⟩ := Option.bind_eq_some_iff.1 h1
        obtain ⟨vs, q1, q2, q3⟩ := he.2 h4 (fun h => by cases h)
        exact ⟨vs, fun _ => ⟨q1, q2, ccs, h3, q3⟩⟩
      · exact ⟨[], fun h => absurd h hi⟩
    obtain ⟨F, hF⟩ := Classical.skolem.1 each
    let xs := (List.range len).map F
    have hxl : xs.length = len := by simp [xs]
    have hcells : ∀ i, i < len → (mkEl agg (F i)).cells = F i := fun i hi => by
      obtain ⟨q1, q2, _⟩ := hF i hi
      unfold mkEl
      cases agg with
      | true => rfl
      | false => exact (hcell rfl).2 _ q1
    have hsz : ∀ x ∈ xs.map (mkEl agg), x.cells.length = P.cellsOf e := by
      intro x hx
      simp only [xs, List.map_map, List.mem_map, List.mem_range] at hx
      obtain ⟨i, hi, rfl⟩ := hx
      simp only [Function.comp]
      rw [hcells i hi, he.1, (hF i hi).2.1]
    -- the cells of the row
    have hcell2 : ∀ i j, i < len → j < n → ∃ u, w.cell? (a.add (i * n + j)) = some u ∧ R P w .rep (fun k => k < w.heap.size) ((F i).getD j .undef) u := fun i j hi hj => by
      obtain ⟨q1, q2, ccs, q3, q4⟩ := hF i hi
      obtain ⟨_, c2, c3⟩ := World.cells?_some q3
      have hj' : j < (F i).length := by omega
      have hjc : j < ccs.length := by rw [← q4.1]; exact hj'
      refine ⟨ccs.getD j undef, ?_, q4.2 j hj'⟩
      have := c3 j hj
      rw [add_add] at this
      rw [this, List.getD_eq_getElem?_getD, List.getElem?_eq_getElem hjc]; rfl
    have hflat : ∀ q, ∃ u, q < len * n → w.cell? (a.add q) = some u ∧ R P w .rep (fun k => k < w.heap.size) ((flatten (xs.map (mkEl agg))).getD q .undef) u := fun q => by
      by_cases hq : q < len * n
      · have hi : q / n < len := (Nat.div_lt_iff_lt_mul hn).2 hq
        have hj : q % n < n := Nat.mod_lt _ hn
        obtain ⟨u, h1, h2⟩ := hcell2 (q / n) (q % n) hi hj
        have hqe : q / n * n + q % n = q := by rw [Nat.mul_comm]; exact Nat.div_add_mod _ _
        rw [hqe] at h1
        refine ⟨u, fun _ => ⟨h1, ?_⟩⟩
        have := flatten_get (n := n) (fun x hx => by rw [hsz x hx, he.1]) (i := q / n) (j := q % n) (x := mkEl agg (F (q / n))) (xs := xs.map (mkEl agg)) (by simp [xs, hi]) hj
        rw [hqe] at this
        rw [this, hcells _ hi]; exact h2
      · exact ⟨undef, fun h => absurd h hq⟩
    obtain ⟨U, hU⟩ := Classical.skolem.1 hflat
    have hflen : (flatten (xs.map (mkEl agg))).length = len * n := by
      rw [flatten_len (n := n) (fun x hx => by rw [hsz x hx, he.1])]; simp [hxl]
    refine ⟨[.sl e (xs.map (mkEl agg))], ⟨_, xs, rfl, .inr rfl, by rw [hxl]; simp only [maxLen] at hm; omega, fun x hx => ?_⟩, rfl, RC.one ?_⟩
    · simp only [xs, List.mem_map, List.mem_range] at hx
      obtain ⟨i, hi, rfl⟩ := hx
      exact (hF i hi).1
    · have hlen2 : (xs.map (mkEl agg)).length = len := by simp [hxl]
      refine .row (fun _ => 0) ((List.range (len * n)).map U) hsz (by rw [he.1]; exact hn) ⟨a, cap, by rw [hlen2], by rw [hlen2]; exact hl, hm, by rw [hlen2, he.1]; simp, fun j u hj => ?_⟩ (fun k hk => ?_) fun i hi => ?_
      · have hjl : j < len * n := by simpa using (List.getElem?_eq_some_iff.1 hj).1
        have : u = U j := by simpa [hjl] using hj.symm
        rw [this]; exact (hU j hjl).1
      · simp only [Value.ownBlock, Option.some.injEq] at hk
        subst hk
        exact hli rfl 0 a len cap rfl
      · rw [hflen] at hi
        have := (hU i hi).2
        have e1 : ((List.range (len * n)).map U).getD i undef = U i := by simp [hi]
        rw [e1]; exact this

theorem Lies.sub {w : World} {cs : List Value} (h : Lies w cs) (m n : Nat) : Lies w ((cs.drop m).take n) := fun i a len cap hi => by
  rw [List.getElem?_take] at hi
  split at hi
  · rw [List.getElem?_drop] at hi; exact h _ a len cap hi
  · cases hi

theorem Opens.st2 {need : Bool} {P : Program} {t : TypeId} {f0 f1 : Field} {n0 n1 : Nat} {Q0 Q1 : List PV → Prop} (ht : P.underlying t = some (.struct #[f0, f1])) (hc : P.cellsOf t = n0 + n1) (h0 : Opens need P f0.type n0 Q0) (h1 : Opens need P f1.type n1 Q1)
    (o0 : f0.offset = 0) (o1 : f1.offset = n0) : Opens need P t (n0 + n1) (fun vs => ∃ a b, vs = a ++ b ∧ Q0 a ∧ Q1 b) := by
  refine ⟨hc, fun {H enc w base spare held fuel cs x} hx hli => ?_⟩
  obtain ⟨xs, n, _, _, hl, hlen, hf⟩ := DataW.trod_struct ht hx
  have get : ∀ i (f : Field), #[f0, f1][i]? = some f → ∃ y, DataW.trod enc P w base spare held n f.type ((cs.drop f.offset).take (P.cellsOf f.type)) = some y := fun i f hi => by
    have hil : i < xs.length := by rw [hlen]; exact (Array.getElem?_eq_some_iff.1 hi).1
    exact ⟨xs[i], (hf i f hi).trans (List.getElem?_eq_getElem hil)⟩
  obtain ⟨y0, g0⟩ := get 0 f0 rfl
  obtain ⟨y1, g1⟩ := get 1 f1 rfl
  obtain ⟨v0, q0, l0, r0⟩ := h0.2 g0 fun h => (hli h).sub _ _
  obtain ⟨v1, q1, l1, r1⟩ := h1.2 g1 fun h => (hli h).sub _ _
  rw [h0.1, o0] at r0
  rw [h1.1, o1] at r1
  refine ⟨v0 ++ v1, ⟨v0, v1, rfl, q0, q1⟩, by simp [l0, l1], ?_⟩
  have := r0.append r1
  have e : (cs.drop 0).take n0 ++ (cs.drop n0).take n1 = cs := by
    rw [List.drop_zero, List.take_of_length_le (l := cs.drop n0) (by simp; omega), List.take_append_drop]
  rwa [e] at this
theorem Opens.st3 {need : Bool} {P : Program} {t : TypeId} {f0 f1 f2 : Field} {n0 n1 n2 : Nat} {Q0 Q1 Q2 : List PV → Prop} (ht : P.underlying t = some (.struct #[f0, f1, f2])) (hc : P.cellsOf t = n0 + n1 + n2) (h0 : Opens need P f0.type n0 Q0) (h1 : Opens need P f1.type n1 Q1) (h2 : Opens need P f2.type n2 Q2)
    (o0 : f0.offset = 0) (o1 : f1.offset = n0) (o2 : f2.offset = n0 + n1) : Opens need P t (n0 + n1 + n2) (fun vs => ∃ a b c, vs = a ++ b ++ c ∧ Q0 a ∧ Q1 b ∧ Q2 c) := by
  refine ⟨hc, fun {H enc w base spare held fuel cs x} hx hli => ?_⟩
  obtain ⟨xs, n, _, _, hl, hlen, hf⟩ := DataW.trod_struct ht hx
  have get : ∀ i (f : Field), #[f0, f1, f2][i]? = some f → ∃ y, DataW.trod enc P w base spare held n f.type ((cs.drop f.offset).take (P.cellsOf f.type)) = some y := fun i f hi => by
    have hil : i < xs.length := by rw [hlen]; exact (Array.getElem?_eq_some_iff.1 hi).1
    exact ⟨xs[i], (hf i f hi).trans (List.getElem?_eq_getElem hil)⟩
  obtain ⟨y0, g0⟩ := get 0 f0 rfl
  obtain ⟨y1, g1⟩ := get 1 f1 rfl
  obtain ⟨y2, g2⟩ := get 2 f2 rfl
  obtain ⟨v0, q0, l0, r0⟩ := h0.2 g0 fun h => (hli h).sub _ _
  obtain ⟨v1, q1, l1, r1⟩ := h1.2 g1 fun h => (hli h).sub _ _
  obtain ⟨v2, q2, l2, r2⟩ := h2.2 g2 fun h => (hli h).sub _ _
  rw [h0.1, o0] at r0
  rw [h1.1, o1] at r1
  rw [h2.1, o2] at r2
  refine ⟨v0 ++ v1 ++ v2, ⟨v0, v1, v2, rfl, q0, q1, q2⟩, by simp [l0, l1, l2]; omega, ?_⟩
  have := (r0.append r1).append r2
  have e : (cs.drop 0).take n0 ++ (cs.drop n0).take n1 ++ (cs.drop (n0 + n1)).take n2 = cs := by
    rw [List.drop_zero, List.take_of_length_le (l := cs.drop (n0 + n1)) (by simp; omega), ← List.drop_drop, List.append_assoc, List.take_append_drop, List.take_append_drop]
  rwa [e] at this

/-- A law's call, whatever came in. -/
theorem lift_core {P : Program} {g : Nat} {sg : Sig} {Rl : Rel} (hs : SpecR P g sg Rl) (hrs : sg.rs = [.fl]) {W : World} {args : List Value} {pvs : List PV} (hl1 : args.length = pvs.length) (hl2 : sg.ps.length = pvs.length)
    (hR : ∀ i (p : PK), sg.ps[i]? = some p → (p = .rd ∧ R P W .rep (fun k => k < W.heap.size) (pvs.getD i .undef) (args.getD i undef)) ∨ (p = .fl ∧ R P W .rep (fun _ => False) (pvs.getD i .undef) (args.getD i undef)))
    (hrel : Rl 0 pvs [] [.bool true] []) : Calls P g args.toArray W fun e W' => e = .returned (.bool true) ∧ Go.RowKit.Below W.heap.size W W' := by
  let X : Cx := ⟨P, [], 0⟩
  let s : S := { σ := pvs, H := [], L := fun k => if k < W.heap.size then .sh else .no, bm := fun _ => 0, a := ⟨args.toArray, []⟩, w := W }
  have hsim : Sim X (sg.ps.map PK.toG) s := by
    refine ⟨by simp [s, hl2], by simp [s, hl1], rfl, fun i gg hg => ?_, fun r b hb => by simp [s] at hb, fun k hk => if_neg (by show ¬ k < W.heap.size; exact Nat.not_lt.2 hk), ⟨Nat.le_refl _, fun r p hp => by simp [X] at hp⟩⟩
    simp only [List.getElem?_map, Option.map_eq_some_iff] at hg
    obtain ⟨p, hp, rfl⟩ := hg
    right
    have e2 : s.c i = args.getD i undef := by simp [s, S.c, List.getD_eq_getElem?_getD]
    have e1 : s.v i = pvs.getD i .undef := rfl
    rw [e1, e2]
    rcases hR i p hp with ⟨rfl, h⟩ | ⟨rfl, h⟩
    · exact R.mono h fun k hk => if_pos hk
    · exact h
  refine (hs.2 X s (fun rs' _ => rs' = [PV.bool true]) rfl hsim rfl (fun _ => rfl) ⟨[.bool true], [], hrel, rfl⟩).mono ?_
  rintro e W' ⟨s', rfl, rfl, hs', hf, H', _, hk⟩
  have hk' : s'.σ = [.bool true] := hk
  refine ⟨?_, hf.os, hf.tape, hf.output, hf.size, fun k hk => (hf.keep k hk (by show keeps X (if k < W.heap.size then .sh else .no); rw [if_pos hk]; trivial)).1⟩
  have hsl := hs'.slot 0 .fl (by rw [hrs]; rfl)
  have hv : s'.v 0 = .bool true := by simp [S.v, hk']
  rcases hsl with h | h
  · rw [hv] at h; cases h
  · rw [hv] at h
    have hc := R.bool_inv h
    have hsz : s'.a.tmps.size = 1 := by rw [hs'.lenA, hk']; rfl
    unfold packV
    rw [dif_pos hsz]
    simp only [S.c, Array.getD_eq_getD_getElem?] at hc
    rw [Array.getElem?_eq_getElem (by omega)] at hc
    simp only [Option.getD_some] at hc
    rw [hc]

/-- What an argument's shape says: the rows that it names lie in memory. -/
theorem lies_of_ok {P : Program} {W : World} {r : Reach} {base : Nat} {t : TypeId} {v : Value} (h : Value.okWide P W r base t v) : Lies W v.cells.toList := by
  have cell : ∀ u (a : Addr) len cap, Cell.okWide P W r base u (.slice (some a) len cap) → a.block < W.heap.size := by
    intro u a len cap hc
    unfold Cell.okWide at hc
    have : Cell.ok P W r base u (.slice (some a) len cap) := by
      split at hc <;> first | exact hc | (rename_i h2; cases h2)
    unfold Cell.ok at this
    split at this <;> try (rename_i h2; cases h2)
    all_goals first
      | exact this.elim
      | (obtain ⟨_, _, _, _, row, cells, hsh, _⟩ := this
         unfold World.shape? at hsh
         rcases Nat.lt_or_ge a.block W.heap.size with hlt | hge
         · exact hlt
         · simp [Array.getElem?_eq_none hge] at hsh)
  have row : ∀ cs : Array Value, v = .agg cs → Row.okWide P W r base t cs → Lies W v.cells.toList := by
    rintro cs rfl ⟨ts, _, _, hcs⟩ i a len cap hi
    have hi' : cs[i]? = some (.slice (some a) len cap) := by simpa [Value.cells] using hi
    obtain ⟨u, _, hu⟩ := hcs i _ hi'
    exact cell u a len cap hu
  have one : Cell.okWide P W r base t v → (∀ cs, v ≠ .agg cs) → Lies W v.cells.toList := by
    intro hc hne i a len cap hi
    have hv : v.cells = #[v] := by cases v <;> first | rfl | exact absurd rfl (hne _)
    rw [hv] at hi
    have hi2 : v = .slice (some a) len cap := by
      cases i with
      | zero => simpa using hi
      | succ i => simp at hi
    rw [hi2] at hc
    exact cell t a len cap hc
  unfold Value.okWide at h
  split at h
  · obtain ⟨cs, h1, _, h2⟩ := h; exact row cs h1 h2
  · obtain ⟨cs, h1, _, h2⟩ := h; exact row cs h1 h2
  · refine one h fun cs hx => ?_
    rw [hx] at h
    unfold Cell.okWide at h
    split at h <;> first | (rename_i h2; cases h2; done) | skip
    all_goals (unfold Cell.ok at h; split at h <;> first | exact h.elim | (rename_i h2; cases h2))
end Go.Den
