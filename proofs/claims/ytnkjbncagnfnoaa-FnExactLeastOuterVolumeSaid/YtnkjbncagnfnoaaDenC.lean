/- Regions, commands, functions, the reckoning, what came in. Conditions: none. -/
import Derived.Test.YtnkjbncagnfnoaaDenB
import Derived.WalkKit
import Derived.ProofKit
import Derived.OpenShut
import Derived.ShutString
import Derived.ChangeOld
import Derived.ChangeArms
import Derived.ChangeSame
import Derived.Below
import Derived.SizedLaws
set_option linter.unusedVariables false
set_option linter.unusedSimpArgs false
set_option linter.unnecessarySimpa false
set_option autoImplicit false
namespace Go.Den

/-! ### Regions whose order is drawn: every order leads to where the text's order leads -/
def gSame (a b : GOp) : Bool := a.cop.same b.cop && decide (a.g = b.g) && decide (a.d = b.d) && a.fl == b.fl
theorem gSame_eq {a b : GOp} (h : gSame a b = true) : a = b := by
  simp only [gSame, Bool.and_eq_true, decide_eq_true_eq, beq_iff_eq] at h
  cases a; cases b
  simp only at h
  rw [COp.same_eq h.1.1.1, h.1.1.2, h.1.2, h.2]

def predsIn (m : Nat) (o : Oper) : Bool := o.after.toList.all fun e => !Region.binds .any e || m.testBit e.on
def readyM (os : List Oper) (m i : Nat) : Bool := !m.testBit i && (match os[i]? with | some o => predsIn m o | none => false)
def condC (gs : List GOp) (m i : Nat) (g : GOp) : Bool :=
  (List.range gs.length).all fun j => j == i || match gs[j]? with
    | some gj => (match gj.cop.dst with | some y => !(g.rd.contains y || g.cop.dst == some y) || (m.testBit j == decide (j < i)) | none => true) && (gj.cop.still || (m.testBit j == decide (j < i)))
    | none => true

abbrev Ent := Nat × List G
def statOk (gs : List GOp) (n : Nat) : Bool := gs.all fun g => !g.cop.isM && (decide (g.d = none) || decide (g.d = g.cop.dst) || g.g.isNone) && (match g.cop.dst with | some d => decide (d < n) | none => true)
/-! #### values behind a set of the operations -/
def val (us : Nat → Upd) (σ0 : List PV) (p : Nat → Bool) : Nat → Nat → PV
  | 0, y => σ0.getD y .undef
  | k + 1, y => match us k with
    | some (d, v) => if p k = true ∧ d = y then v else val us σ0 p k y
    | none => val us σ0 p k y
def slotU (u : Upd) : Option Nat := u.map (·.1)

theorem val_step {us : Nat → Upd} {σ0 : List PV} {p : Nat → Bool} {k y : Nat} (h : slotU (us k) = some y → p k = false) : val us σ0 p (k + 1) y = val us σ0 p k y := by
  simp only [val]
  cases hu : us k with
  | none => rfl
  | some dv =>
    obtain ⟨d, v⟩ := dv
    simp only
    rw [if_neg]
    rintro ⟨h1, rfl⟩
    rw [h (by rw [hu]; rfl)] at h1
    cases h1
theorem val_same {us : Nat → Upd} {σ0 : List PV} {p q : Nat → Bool} {y : Nat} : ∀ {k : Nat}, (∀ j, j < k → slotU (us j) = some y → p j = q j) → val us σ0 p k y = val us σ0 q k y
  | 0, _ => rfl
  | k + 1, h => by
    have ih := val_same (σ0 := σ0) (k := k) fun j hj => h j (by omega)
    simp only [val]
    cases hu : us k with
    | none => exact ih
    | some dv =>
      obtain ⟨d, v⟩ := dv
      simp only
      by_cases hd : d = y
      · rw [h k (by omega) (by rw [hu, hd]; rfl), ih]
      · rw [if_neg (by simp [hd]), if_neg (by simp [hd]), ih]
theorem val_stop {us : Nat → Upd} {σ0 : List PV} {p : Nat → Bool} {i y : Nat} : ∀ {n : Nat}, i ≤ n → (∀ j, i ≤ j → j < n → slotU (us j) = some y → p j = false) → val us σ0 p n y = val us σ0 p i y
  | 0, hi, _ => by rw [Nat.le_zero.1 hi]
  | n + 1, hi, h => by
    by_cases he : i = n + 1
    · rw [he]
    · rw [val_step (fun hs => h n (by omega) (by omega) hs)]
      exact val_stop (by omega) fun j h1 h2 => h j h1 (by omega)
theorem val_agree {us : Nat → Upd} {σ0 : List PV} {p : Nat → Bool} {i n y : Nat} (hi : i ≤ n) (hp : p i = false) (h : ∀ j, j < n → j ≠ i → slotU (us j) = some y → p j = decide (j < i)) : val us σ0 p n y = val us σ0 (fun _ => true) i y := by
  rw [val_stop hi fun j h1 h2 h3 => by
    by_cases he : j = i
    · rw [he]; exact hp
    · rw [h j h2 he h3]; simp; omega]
  exact val_same fun j hj hs => by rw [h j (by omega) (by omega) hs]; simpa using hj
def selU : Upd → Nat → PV → PV
  | some (d, v), y, x => if d = y then v else x
  | none, _, x => x
theorem val_add {us : Nat → Upd} {σ0 : List PV} {p p' : Nat → Bool} {i n y : Nat} (hi : i < n) (hp' : ∀ j, p' j = (j == i || p j)) (hp : p i = false) (h : slotU (us i) = some y → ∀ j, j < n → j ≠ i → slotU (us j) = some y → p j = decide (j < i)) :
    val us σ0 p' n y = selU (us i) y (val us σ0 p n y) := by
  have hne : slotU (us i) ≠ some y → val us σ0 p' n y = val us σ0 p n y := fun hs => val_same fun j _ hj => by
    rw [hp']
    by_cases he : j = i
    · subst he; exact absurd hj hs
    · simp [he]
  cases hu : us i with
  | none => exact hne (by rw [hu]; simp [slotU])
  | some dv =>
    obtain ⟨d, v⟩ := dv
    simp only [selU]
    by_cases hd : d = y
    · rw [if_pos hd]
      have hs : slotU (us i) = some y := by rw [hu, hd]; rfl
      rw [val_stop (i := i + 1) (by omega) fun j h1 h2 h3 => by
        rw [hp', h hs j h2 (by omega) h3]
        simp; omega]
      simp only [val, hu]
      rw [if_pos ⟨by rw [hp']; simp, hd⟩]
    · rw [if_neg hd]
      exact hne (by rw [hu]; simp [slotU, hd])

theorem app_get {u : Upd} {σ : List PV} {y : Nat} (h : ∀ d, slotU u = some d → d < σ.length) : (app u σ).getD y .undef = selU u y (σ.getD y .undef) := by
  cases u with
  | none => rfl
  | some dv =>
    obtain ⟨d, v⟩ := dv
    have hd := h d rfl
    simp only [app, selU, List.getD_eq_getElem?_getD]
    by_cases hy : d = y
    · subst hy; simp [hd]
    · rw [List.getElem?_set_ne hy, if_neg hy]
theorem app_len {u : Upd} {σ : List PV} : (app u σ).length = σ.length := by cases u <;> simp [app]

theorem getD_ext {σ σ' : List PV} (hl : σ.length = σ'.length) (h : ∀ y, σ.getD y .undef = σ'.getD y .undef) : σ = σ' := by
  apply List.ext_getElem hl
  intro i h1 h2
  have := h i
  simpa [List.getD_eq_getElem?_getD, h1, h2] using this

section
variable {X : Cx} {L0 : Nat → Lab} {w0 : World} {K : KV} {Q : Exit → Act → World → Prop} {E : Env} {Tb : Nat → Rel}

theorem testBit_or {m i j : Nat} : (m ||| 1 <<< i).testBit j = (j == i || m.testBit j) := by
  rw [Nat.testBit_or]
  have : (1 <<< i).testBit j = decide (i = j) := by
    rw [Nat.shiftLeft_eq, Nat.one_mul, Nat.testBit_two_pow]
  rw [this]
  by_cases h : j = i
  · subst h; simp
  · rw [show decide (i = j) = false by simp; exact fun hx => h hx.symm, show (j == i) = false by simpa using h]; simp

/-- The state behind the set m of a region's operations. -/
def At (X : Cx) (L0 : Nat → Lab) (w0 : World) (gs : List GOp) (us : Nat → Upd) (Hs : Nat → Boxes) (σ0 : List PV) (n : Nat) (e : Ent) (listed : Array Bool) (a : Act) (w : World) : Prop :=
  (listed.size = n ∧ ∀ i, (i < n → listed.getD i true = e.1.testBit i ∧ listed.getD i false = e.1.testBit i) ∧ (n ≤ i → e.1.testBit i = false)) ∧ ∃ s : S, s.a = a ∧ s.w = w ∧ Sim X e.2 s ∧ Fr X L0 w0 s.L s.w ∧ s.σ.length = σ0.length ∧ (∀ y, s.σ.getD y .undef = val us σ0 (fun i => e.1.testBit i) n y) ∧
    ∃ k, k ≤ n ∧ s.H = Hs k ∧ ∀ j g, gs[j]? = some g → g.cop.still = false → e.1.testBit j = decide (j < k)

theorem ready_iff {ops : Array Oper} {gs : List GOp} {us : Nat → Upd} {Hs : Nat → Boxes} {σ0 : List PV} {e : Ent} {listed : Array Bool} {a : Act} {w : World} (h : At X L0 w0 gs us Hs σ0 ops.toList.length e listed a w) {i : Nat} : i ∈ Region.ready .any ops listed ↔ i < ops.toList.length ∧ readyM ops.toList e.1 i = true := by
  obtain ⟨⟨hsz, hl⟩, _⟩ := h
  rw [mem_ready]
  have key : ∀ o ∈ ops.toList, (∀ d ∈ o.after, Region.binds .any d = true → listed.getD d.on false = true) ↔ (∀ d ∈ o.after, Region.binds .any d = true → (d.on < ops.toList.length ∧ e.1.testBit d.on = true)) := by
    intro o _
    refine forall_congr' fun d => forall_congr' fun _ => forall_congr' fun _ => ?_
    constructor
    · intro hd
      have hlt : d.on < ops.toList.length := by
        rcases Nat.lt_or_ge d.on ops.toList.length with h1 | h1
        · exact h1
        · rw [Array.getD_eq_getD_getElem?, Array.getElem?_eq_none (by omega)] at hd; cases hd
      exact ⟨hlt, by rw [← ((hl _).1 hlt).2]; exact hd⟩
    · rintro ⟨h1, h2⟩
      rw [((hl _).1 h1).2]; exact h2
  constructor
  · rintro ⟨h1, o, ho, h2⟩
    have hi : i < ops.size := (Array.getElem?_eq_some_iff.1 ho).1
    have hi' : i < ops.toList.length := by simpa using hi
    rw [((hl i).1 hi').1] at h1
    refine ⟨hi', ?_⟩
    have ho' : ops.toList[i]? = some o := by simpa using ho
    have := (key o (List.mem_of_getElem? ho')).1 h2
    simp only [readyM, ho', h1, Bool.not_false, Bool.true_and, predsIn, List.all_eq_true, Bool.or_eq_true, Bool.not_eq_true']
    intro d hd
    cases hb : Region.binds .any d
    · exact .inl rfl
    · exact .inr (this d (by simpa using hd) hb).2
  · rintro ⟨hi, hr⟩
    have ho : ops.toList[i]? = some ops.toList[i] := List.getElem?_eq_getElem hi
    simp only [readyM, ho, Bool.and_eq_true, Bool.not_eq_true'] at hr
    refine ⟨by rw [((hl i).1 hi).1]; exact hr.1, ops.toList[i], by simpa using ho, fun d hd hb => ?_⟩
    have h2 := hr.2
    simp only [predsIn, List.all_eq_true, Bool.or_eq_true, Bool.not_eq_true'] at h2
    have h3 := (h2 d (by simpa using hd)).resolve_left (by simp [hb])
    have hlt : d.on < ops.toList.length := by
      rcases Nat.lt_or_ge d.on ops.toList.length with h4 | h4
      · exact h4
      · rw [(hl _).2 h4] at h3; cases h3
    rw [((hl _).1 hlt).2]; exact h3

theorem hs_const {gs : List GOp} {Hs : Nat → Boxes} (hst : ∀ i g, gs[i]? = some g → g.cop.still = true → Hs (i + 1) = Hs i) : ∀ {k i : Nat}, k ≤ i → i ≤ gs.length → (∀ j g, k ≤ j → j < i → gs[j]? = some g → g.cop.still = true) → Hs i = Hs k
  | k, 0, hk, _, _ => by rw [Nat.le_zero.1 hk]
  | k, i + 1, hk, hi, h => by
    by_cases he : k = i + 1
    · rw [he]
    · have hg : gs[i]? = some gs[i] := List.getElem?_eq_getElem (by omega)
      rw [hst i _ hg (h i _ (by omega) (by omega) hg)]
      exact hs_const hst (by omega) (by omega) fun j g h1 h2 => h j g h1 (by omega)

theorem elabL_len {E : Env} {ops : List Oper} : ∀ {l : List Oper} {Γ Γ' : List G} {gs : List GOp}, elabL E ops l Γ = some (gs, Γ') → gs.length = l.length
  | [], _, _, _, h => by simp only [elabL, Option.some.injEq, Prod.mk.injEq] at h; rw [← h.1]; rfl
  | o :: os, Γ, Γ', gs, h => by
    simp only [elabL] at h
    split at h
    · cases h
    · split at h
      · cases h
      · rename_i gs' Γ2 h2
        simp only [Option.some.injEq, Prod.mk.injEq] at h
        rw [← h.1, List.length_cons, elabL_len h2, List.length_cons]

theorem draw_step {ops : Array Oper} {gs : List GOp} {Γf : List G} {σs : Nat → List PV} {Hs : Nat → Boxes} {us : Nat → Upd} (hE : E.P = X.P) (hT : Known X.P E Tb) (hlen : gs.length = ops.toList.length)
    (htr : ∀ i g, gs[i]? = some g → g.runU Tb X.lim (σs i) (Hs i) (us i) (Hs (i + 1)) ∧ σs (i + 1) = app (us i) (σs i)) (hstat : statOk gs (σs 0).length = true) (hσl : ∀ i, i ≤ gs.length → (σs i).length = (σs 0).length) (hσv : ∀ i y, i ≤ gs.length → (σs i).getD y .undef = val us (σs 0) (fun _ => true) i y)
    {Inv : Nat → Ent → Prop} (hI0 : ∀ e, Inv 0 e → (∀ i, i < ops.toList.length → e.1.testBit i = true) ∧ e.2 = Γf) (hI1 : ∀ k e, Inv (k + 1) e → ∃ i, i < ops.toList.length ∧ readyM ops.toList e.1 i = true)
    (hI2 : ∀ k e i, Inv (k + 1) e → i < ops.toList.length → readyM ops.toList e.1 i = true → ∃ o g Γ', ops.toList[i]? = some o ∧ gs[i]? = some g ∧ elabG E ops.toList e.2 o = some (g, Γ') ∧ condC gs e.1 i g = true ∧ Inv k (e.1 ||| 1 <<< i, Γ'))
    (hK : K (σs gs.length) (Hs gs.length)) (hQ : ∀ a w, Good X Γf L0 w0 K a w → Q .normal a w) : ∀ (fuel : Nat) (e : Ent) (listed : Array Bool) (a : Act) (w : World), Inv fuel e → At X L0 w0 gs us Hs (σs 0) ops.toList.length e listed a w →
    wpAny X.P .any ops Q fuel listed a w := by
  have hst : ∀ i g, gs[i]? = some g → g.cop.still = true → Hs (i + 1) = Hs i := fun i g hg hs => GOp.runU_still hs (htr i g hg).1
  have hmm : ∀ g ∈ gs, g.cop.isM = false := by
    intro g hg
    simp only [statOk, List.all_eq_true, Bool.and_eq_true, Bool.not_eq_true'] at hstat
    exact (hstat g hg).1.1
  have hstat' : ∀ g ∈ gs, (g.d = none ∨ g.d = g.cop.dst ∨ g.g = none) ∧ ∀ d, g.cop.dst = some d → d < (σs 0).length := by
    intro g hg
    simp only [statOk, List.all_eq_true, Bool.and_eq_true, Bool.or_eq_true, decide_eq_true_eq, Option.isNone_iff_eq_none] at hstat
    obtain ⟨⟨_, h1⟩, h2⟩ := hstat g hg
    refine ⟨by rcases h1 with (h1 | h1) | h1 <;> simp [h1], fun d hd => ?_⟩
    rw [hd] at h2; simpa using h2
  have hslot : ∀ i g d, gs[i]? = some g → slotU (us i) = some d → g.cop.dst = some d := fun i g d hg hd => by
    cases hu : us i with
    | none => rw [hu] at hd; cases hd
    | some dv =>
      obtain ⟨d', v⟩ := dv
      rw [hu] at hd
      simp only [slotU, Option.map_some, Option.some.injEq] at hd
      subst hd
      have := (htr i g hg).1
      rw [hu] at this
      exact GOp.runU_slot (hstat' g (List.mem_of_getElem? hg)).1 this
  intro fuel
  induction fuel with
  | zero =>
    intro e listed a w hc hat
    have hr : Region.ready .any ops listed = [] := by
      rw [List.eq_nil_iff_forall_not_mem]
      intro i hi
      obtain ⟨h1, h2⟩ := (ready_iff hat).1 hi
      have := (hI0 e hc).1 i h1
      simp [readyM, this] at h2
    refine ⟨hr, hQ _ _ ?_⟩
    obtain ⟨hc1, hc2⟩ := hI0 e hc
    obtain ⟨_, s, rfl, rfl, hs, hf, hl, hv, k, hk, hH, hkk⟩ := hat
    have e1 : s.σ = σs gs.length := by
      refine getD_ext (by rw [hl, hσl _ (Nat.le_refl _)]) fun y => ?_
      rw [hv, hσv _ _ (Nat.le_refl _), hlen]
      exact val_same fun j hj _ => hc1 j hj
    have e2 : s.H = Hs gs.length := by
      rw [hH]
      refine (hs_const hst (by omega) (Nat.le_refl _) fun j g h1 h2 hg => ?_).symm
      cases hq : g.cop.still with
      | true => rfl
      | false =>
        have := hkk j g hg hq
        rw [hc1 j (by omega)] at this
        have : j < k := by simpa using this.symm
        omega
    exact ⟨s, rfl, rfl, by rw [← hc2]; exact hs, hf, by rw [e1, e2]; exact hK⟩
  | succ fuel ih =>
    intro e listed a w hc hat
    · refine ⟨fun hr => ?_, fun i hi => ?_⟩
      · exfalso
        obtain ⟨i, h1, h2⟩ := hI1 fuel e hc
        have := (ready_iff hat).2 ⟨h1, h2⟩
        rw [hr] at this; cases this
      · obtain ⟨hin, hrd⟩ := (ready_iff hat).1 hi
        obtain ⟨o, g, Γ', ho, hg, hel, hcc, hmem⟩ := hI2 fuel e i hc hin hrd
        obtain ⟨⟨hsz, hli⟩, s, rfl, rfl, hs, hf, hl, hv, k, hk, hH, hkk⟩ := hat
        have hbit : e.1.testBit i = false := by
          simp only [readyM, Bool.and_eq_true, Bool.not_eq_true'] at hrd; exact hrd.1
        -- what is asked of the others
        have hcc' : ∀ j gj, gs[j]? = some gj → j ≠ i → (∀ y, gj.cop.dst = some y → (y ∈ g.rd ∨ g.cop.dst = some y) → e.1.testBit j = decide (j < i)) ∧ (gj.cop.still = false → e.1.testBit j = decide (j < i)) := by
          intro j gj hj hne
          have hjl := (List.getElem?_eq_some_iff.1 hj).1
          simp only [condC, List.all_eq_true, List.mem_range] at hcc
          have := hcc j hjl
          rw [hj] at this
          simp only [Bool.or_eq_true, beq_iff_eq, hne, false_or, Bool.and_eq_true] at this
          obtain ⟨t1, t2⟩ := this
          refine ⟨fun y hy hyy => ?_, fun hq => ?_⟩
          · rw [hy] at t1
            simp only [Bool.or_eq_true, beq_iff_eq, Bool.not_eq_true', Bool.or_eq_false_iff] at t1
            rcases t1 with t1 | t1
            · exfalso
              rcases hyy with h1 | h1
              · have : g.rd.contains y = true := by simpa using h1
                rw [this] at t1; cases t1.1
              · have := t1.2; simp [h1] at this
            · exact t1
          · rcases t2 with t2 | t2
            · rw [hq] at t2; cases t2
            · exact t2
        obtain ⟨hrun, hσ⟩ := htr i g hg
        have hloc : ∀ y, (y ∈ g.rd ∨ g.cop.dst = some y) → ∀ j, j < ops.toList.length → j ≠ i → slotU (us j) = some y → e.1.testBit j = decide (j < i) := fun y hy j hj hne hsl => by
          have hgj : gs[j]? = some gs[j] := List.getElem?_eq_getElem (by omega)
          exact (hcc' j _ hgj hne).1 y (hslot j _ y hgj hsl) hy
        have hread : ∀ y ∈ g.rd, s.σ.getD y .undef = (σs i).getD y .undef := fun y hy => by
          rw [hv, hσv i y (by omega)]
          exact val_agree (by omega) hbit (hloc y (.inl hy))
        have hHi : s.H = Hs i := by
          rw [hH]
          rcases Nat.le_total k i with hki | hki
          · refine (hs_const hst hki (by omega) fun j gj h1 h2 hgj => ?_).symm
            cases hq : gj.cop.still with
            | true => rfl
            | false =>
              have a1 := hkk j gj hgj hq
              have a2 := (hcc' j gj hgj (by omega)).2 hq
              rw [a1] at a2
              have : j < k := by simpa [h2] using a2
              omega
          · refine hs_const hst hki (by omega) fun j gj h1 h2 hgj => ?_
            cases hq : gj.cop.still with
            | true => rfl
            | false =>
              have a1 := hkk j gj hgj hq
              by_cases hji : j = i
              · subst hji; rw [hbit] at a1; have : ¬ j < k := by simpa using a1.symm
                omega
              · have a2 := (hcc' j gj hgj hji).2 hq
                rw [a1] at a2
                have : ¬ (j < i) := by omega
                simp [this, h2] at a2
        have hrun' : g.run Tb X.lim s.σ s.H (app (us i) s.σ) (Hs (i + 1)) := by
          rw [hHi]
          exact (GOp.run_iff (hmm g (List.mem_of_getElem? hg))).2 ⟨us i, GOp.runU_loc (hmm g (List.mem_of_getElem? hg)) hread hrun, rfl⟩
        have hop : ops[i]? = some o := by simpa using ho
        have := elabG_sound (Q := Q) (K := fun σ' H' => σ' = app (us i) s.σ ∧ H' = Hs (i + 1)) hE hT hel hs hf hrun' ⟨rfl, rfl⟩
        have next : ∀ a w, Good X Γ' L0 w0 (fun σ' H' => σ' = app (us i) s.σ ∧ H' = Hs (i + 1)) a w → wpAny X.P .any ops Q fuel (listed.setIfInBounds i true) a w := by
          rintro a' w' ⟨s1, rfl, rfl, hs1, hf1, e1, e2⟩
          refine ih (e.1 ||| 1 <<< i, Γ') _ _ _ hmem ⟨⟨by simp [hsz], fun j => ⟨fun hj => ?_, fun hj => ?_⟩⟩, s1, rfl, rfl, hs1, hf1, by rw [e1, app_len, hl], fun y => ?_, (if g.cop.still then k else i + 1), ?_, ?_, ?_⟩
          · simp only [testBit_or]
            by_cases hji : j = i
            · subst hji
              have hjs : j < listed.size := by omega
              simp [Array.getD_eq_getD_getElem?, hjs]
            · obtain ⟨b1, b2⟩ := (hli j).1 hj
              rw [getD_set_ne true (Ne.symm hji), getD_set_ne false (Ne.symm hji), b1, b2]
              simp [hji]
          · simp only [testBit_or, (hli j).2 hj]
            simp; omega
          · rw [e1, app_get (fun d hd => by rw [hl]; exact (hstat' g (List.mem_of_getElem? hg)).2 d (hslot i g d hg hd))]
            have := val_add (us := us) (σ0 := σs 0) (p := fun j => e.1.testBit j) (p' := fun j => (e.1 ||| 1 <<< i).testBit j) (i := i) (n := ops.toList.length) (y := y) hin (fun j => testBit_or) hbit (fun hsl => hloc y (.inr (hslot i g y hg hsl)))
            simp only at this ⊢
            rw [this, hv]
          · split <;> omega
          · rw [e2]
            split
            · rename_i hq; rw [hst i g hg hq, ← hHi, hH]
            · rfl
          · intro j gj hgj hq
            simp only [testBit_or]
            by_cases hji : j = i
            · subst hji
              rw [hg] at hgj; injection hgj with hgj; subst hgj
              rw [if_neg (by rw [hq]; simp)]
              simp
            · have a2 := (hcc' j gj hgj hji).2 hq
              rw [a2]
              split
              · have a1 := hkk j gj hgj hq
                rw [a2] at a1
                simp [hji, a1]
              · have e0 : decide (j < i) = decide (j < i + 1) := decide_eq_decide.2 ⟨by omega, by omega⟩
                rw [← e0]; simp [hji]
        show wpOp X.P ops Q i (wpAny X.P .any ops Q fuel (listed.setIfInBounds i true)) s.a s.w
        unfold wpOp
        simp only [hop]
        split
        · rename_i hw
          rw [if_pos hw] at this
          exact .inl (Oper.wp_mono next this)
        · rename_i hw
          rw [if_neg hw] at this
          exact next _ _ this

theorem drawn_sim {s : S} {Γ : List G} (h : Sim X Γ s) (n : Nat) : Sim X Γ { s with w := { s.w with drawn := n } } := by
  have hR : ∀ {m : M} {fp : Nat → Prop} {v : PV} {c : Value}, R X.P s.w m fp v c → R X.P { s.w with drawn := n } m fp v c := fun hr => R.frame hr fun _ _ => rfl
  refine ⟨h.lenG, h.lenA, h.defs, fun i g hg => ?_, fun r b hb => ?_, h.top, h.n0⟩
  · exact (h.slot i g hg).out ⟨rfl, rfl, fun _ _ => ⟨rfl, rfl⟩, fun _ _ => ⟨rfl, rfl⟩, fun _ r b hr => ⟨b, hr, rfl, rfl, fun _ _ => ⟨rfl, rfl⟩⟩, fun _ _ _ _ _ => rfl⟩
  · exact BoxOk.step (h.box r b hb) ⟨rfl, rfl⟩ (fun _ _ => ⟨rfl, rfl⟩) (H_lt hb) (Nat.le_refl _) (fun _ _ => rfl)

end
end Go.Den
set_option autoImplicit false
namespace Go.Den

/-! ### What an operation looks at, and what it makes unsure -/
def ks (y : Nat) (g : G) : Src → Bool
  | .none => false
  | .slot x => kills (some x) false y g
  | .box _ _ => kills none true y g
  | .elem t _ => kills (some t) false y g
def srcL : Src → List Nat
  | .none => []
  | .slot x => [x]
  | .box u _ => [u]
  | .elem t u => [t, u]
def COp.srcs : COp → List Src
  | .take _ _ s | .box _ _ _ s | .storeB _ _ _ s => [s]
  | .boxm _ x => [.slot (slotO x)]
  | .lit _ _ _ _ ss | .build _ _ _ ss | .app _ _ _ _ _ _ ss | .call _ _ _ _ ss | .callv _ _ _ _ _ _ ss => ss
  | _ => []
def COp.bxk : COp → Bool
  | .call _ _ sg _ _ | .callv _ _ _ _ sg _ _ => !sg.pure
  | .storeB _ _ _ _ => true
  | _ => false
def COp.xk : COp → Option Nat
  | .storeE x _ _ _ => some x
  | _ => none
def dK (d : Option Nat) (g : G) : Bool := match d with
  | some d => depsB d g
  | none => false
def xK (x : Option Nat) (y : Nat) (g : G) : Bool := match x with
  | some x => kills (some x) false y g
  | none => false
def COp.killable (c : COp) (y : Nat) (g : G) : Bool := dK c.dst g || c.srcs.any (ks y g) || (c.bxk && kills none true y g) || xK c.xk y g
def COp.cand (c : COp) : List Nat := c.dst.toList ++ c.rd ++ c.srcs.flatMap srcL

/-- Two states of knowledge agree at a slot. -/
def P2 (Γ Γ' : List G) (y : Nat) : Prop := Γ'.getD y .dead = Γ.getD y .dead ∧ ∀ v n, Γ.getD y .dead = .bal v n → Γ'.getD v .dead = Γ.getD v .dead ∧ ∀ v' n', Γ.getD v .dead ≠ .bal v' n'

theorem kills_dead (t : Option Nat) (bx : Bool) (i : Nat) : kills t bx i .dead = false := rfl
theorem touchG_getD (t : Option Nat) (bx : Bool) (Γ : List G) (y : Nat) : (touchG t bx Γ).getD y .dead = if kills t bx y (Γ.getD y .dead) then .dead else Γ.getD y .dead := by
  rw [touchG_eq]
  simp only [List.getD_eq_getElem?_getD, List.getElem?_mapIdx]
  cases Γ[y]? with
  | none => simp [kills_dead]
  | some g => rfl
theorem killD_getD (d : Nat) (Γ : List G) (y : Nat) : (killD d Γ).getD y .dead = if depsB d (Γ.getD y .dead) then .dead else Γ.getD y .dead := by
  simp only [killD, List.getD_eq_getElem?_getD, List.getElem?_map]
  cases Γ[y]? with
  | none => rfl
  | some g => rfl
theorem set_getD (Γ : List G) (d y : Nat) (g : G) : (Γ.set d g).getD y .dead = if y = d ∧ d < Γ.length then g else Γ.getD y .dead := by
  simp only [List.getD_eq_getElem?_getD]
  by_cases h : y = d
  · subst h
    by_cases hl : y < Γ.length
    · rw [List.getElem?_set_self hl, if_pos ⟨rfl, hl⟩]; rfl
    · rw [if_neg (by simp [hl]), List.getElem?_eq_none (by simp; omega), List.getElem?_eq_none (by omega)]
  · rw [List.getElem?_set_ne (Ne.symm h), if_neg (by simp [h])]
theorem touchB_getD (u : Nat) (Γ : List G) (y : Nat) : (touchB u Γ).getD y .dead = match Γ.getD y .dead with
    | .brd => .dead
    | .bal v n => if apart Γ u v then .bal v n else .dead
    | g => g := by
  simp only [touchB, List.getD_eq_getElem?_getD, List.getElem?_map]
  cases Γ[y]? with
  | none => rfl
  | some g => rfl

/-- One step of knowledge, made on both. -/
structure Tw (kl : Nat → G → Bool) (cs : List Nat) (Γ Γ' Γ1 Γ1' : List G) : Prop where
  len : Γ1.length = Γ.length
  len' : Γ1'.length = Γ'.length
  pt : ∀ y, P2 Γ Γ' y → P2 Γ1 Γ1' y
  keep : ∀ y, y ∉ cs → kl y (Γ.getD y .dead) = false → Γ1.getD y .dead = Γ.getD y .dead
  keep' : ∀ y, y ∉ cs → kl y (Γ'.getD y .dead) = false → Γ1'.getD y .dead = Γ'.getD y .dead
theorem Tw.refl (Γ Γ' : List G) : Tw (fun _ _ => false) [] Γ Γ' Γ Γ' := ⟨rfl, rfl, fun _ h => h, fun _ _ _ => rfl, fun _ _ _ => rfl⟩
theorem Tw.trans {k1 k2 k : Nat → G → Bool} {c1 c2 cs : List Nat} {Γ Γ' Γ1 Γ1' Γ2 Γ2' : List G} (h : Tw k1 c1 Γ Γ' Γ1 Γ1') (g : Tw k2 c2 Γ1 Γ1' Γ2 Γ2') (hk : ∀ y g, k y g = false → k1 y g = false ∧ k2 y g = false) (hc : ∀ y, y ∉ cs → y ∉ c1 ∧ y ∉ c2) : Tw k cs Γ Γ' Γ2 Γ2' :=
  ⟨g.len.trans h.len, g.len'.trans h.len', fun y hy => g.pt y (h.pt y hy), fun y hy hf => by
    obtain ⟨f1, f2⟩ := hk _ _ hf
    have e := h.keep y (hc y hy).1 f1
    rw [g.keep y (hc y hy).2 (by rw [e]; exact f2), e], fun y hy hf => by
    obtain ⟨f1, f2⟩ := hk _ _ hf
    have e := h.keep' y (hc y hy).1 f1
    rw [g.keep' y (hc y hy).2 (by rw [e]; exact f2), e]⟩
theorem Tw.mono {k1 k : Nat → G → Bool} {c1 cs : List Nat} {Γ Γ' Γ1 Γ1' : List G} (h : Tw k1 c1 Γ Γ' Γ1 Γ1') (hk : ∀ y g, k y g = false → k1 y g = false) (hc : ∀ y, y ∉ cs → y ∉ c1) : Tw k cs Γ Γ' Γ1 Γ1' :=
  ⟨h.len, h.len', h.pt, fun y hy hf => h.keep y (hc y hy) (hk _ _ hf), fun y hy hf => h.keep' y (hc y hy) (hk _ _ hf)⟩
/-- A step that strikes. -/
theorem Tw.filter {kl : Nat → G → Bool} {Γ Γ' Γ1 Γ1' : List G} (h1 : ∀ y, Γ1.getD y .dead = if kl y (Γ.getD y .dead) then .dead else Γ.getD y .dead) (h2 : ∀ y, Γ1'.getD y .dead = if kl y (Γ'.getD y .dead) then .dead else Γ'.getD y .dead) (hl : Γ1.length = Γ.length) (hl' : Γ1'.length = Γ'.length) : Tw kl [] Γ Γ' Γ1 Γ1' := by
  refine ⟨hl, hl', fun y hy => ⟨by rw [h1, h2, hy.1], fun v n hv => ?_⟩, fun y _ hk => by rw [h1, hk]; rfl, fun y _ hk => by rw [h2, hk]; rfl⟩
  have hb : Γ.getD y .dead = .bal v n := by
    rw [h1] at hv
    split at hv
    · cases hv
    · exact hv
  obtain ⟨g1, g2⟩ := hy.2 v n hb
  refine ⟨by rw [h1, h2, g1], fun v' n' => ?_⟩
  rw [h1]
  split
  · simp
  · exact g2 v' n'
theorem Tw.touch (t : Option Nat) (bx : Bool) (Γ Γ' : List G) : Tw (kills t bx) [] Γ Γ' (touchG t bx Γ) (touchG t bx Γ') :=
  .filter (touchG_getD t bx Γ) (touchG_getD t bx Γ') touchG_len touchG_len
theorem setG_getD (d : Nat) (g : G) (Γ : List G) (y : Nat) : (setG none false d g Γ).getD y .dead = if y = d ∧ d < Γ.length then g else if depsB d (Γ.getD y .dead) then .dead else Γ.getD y .dead := by
  unfold setG
  rw [set_getD, killD_getD, touchG_getD]
  have hk : ∀ g, kills none false y g = false := by intro g; cases g <;> rfl
  simp [hk, killD, touchG_len]
/-- A slot written. -/
theorem Tw.setG {d : Nat} {g : G} {Γ Γ' : List G} (hll : Γ'.length = Γ.length) (hg : ∀ v n, g = .bal v n → v ≠ d ∧ Γ'.getD v .dead = Γ.getD v .dead ∧ ∀ v' n', Γ.getD v .dead ≠ .bal v' n') : Tw (fun _ g => depsB d g) [d] Γ Γ' (setG none false d g Γ) (setG none false d g Γ') := by
  refine ⟨setG_len, setG_len, fun y hy => ⟨by rw [setG_getD, setG_getD, hy.1, hll], fun v n hv => ?_⟩, fun y hy hk => ?_, fun y hy hk => ?_⟩
  · have other : ∀ v, v ≠ d → (Γ'.getD v .dead = Γ.getD v .dead ∧ ∀ v' n', Γ.getD v .dead ≠ .bal v' n') → (Den.setG none false d g Γ').getD v .dead = (Den.setG none false d g Γ).getD v .dead ∧ ∀ v' n', (Den.setG none false d g Γ).getD v .dead ≠ .bal v' n' := fun v hne ⟨a, b⟩ => by
      have hn1 : ¬ (v = d ∧ d < Γ.length) := fun h => hne h.1
      have hn2 : ¬ (v = d ∧ d < Γ'.length) := fun h => hne h.1
      simp only [setG_getD, if_neg hn1, if_neg hn2, a]
      refine ⟨trivial, fun v' n' => ?_⟩
      split
      · simp
      · exact b v' n'
    rw [setG_getD] at hv
    split at hv
    · obtain ⟨a, b⟩ := hg v n hv
      exact other v a b
    · split at hv
      · cases hv
      · rename_i hnd
        refine other v ?_ (hy.2 v n hv)
        rintro rfl
        rw [hv] at hnd
        simp [depsB] at hnd
  · rw [setG_getD, if_neg (by simp at hy; simp [hy])]; simp at hk; simp [hk]
  · rw [setG_getD, if_neg (by simp at hy; simp [hy])]; simp at hk; simp [hk]

/-- What lies at the places that a value names. -/
def dl : G → List Nat
  | .al x => [x]
  | .ea t => [t]
  | .eal t u => [t, u]
  | .bal u _ => [u]
  | .hole u _ => [u]
  | _ => []

/-- A value taken in hand, on both. -/
theorem eat_tw {m : TK} {Γ Γ' Γ1 : List G} {x : Operand} {src : Src} (he : Den.eat m Γ x = some (Γ1, src)) (hll : Γ'.length = Γ.length) (hx : kdO Γ' x = kdO Γ x) (hs : ∀ y ∈ srcL src, P2 Γ Γ' y) :
    ∃ Γ1', Den.eat m Γ' x = some (Γ1', src) ∧ Tw (fun y g => ks y g src) (srcL src) Γ Γ' Γ1 Γ1' := by
  unfold Den.eat at he ⊢
  rw [hx]
  have touch : ∀ z, (some (touchG (some z) false Γ, Src.slot z) : Option (List G × Src)) = some (Γ1, src) → ∃ Γ1', (some (touchG (some z) false Γ', Src.slot z) : Option (List G × Src)) = some (Γ1', src) ∧ Tw (fun y g => ks y g src) (srcL src) Γ Γ' Γ1 Γ1' := by
    intro z he
    simp only [Option.some.injEq, Prod.mk.injEq] at he
    obtain ⟨rfl, rfl⟩ := he
    exact ⟨_, rfl, (Tw.touch (some z) false Γ Γ').mono (fun _ _ h => h) (fun _ _ => by simp)⟩
  have same : (some (Γ, Src.none) : Option (List G × Src)) = some (Γ1, src) → ∃ Γ1', (some (Γ', Src.none) : Option (List G × Src)) = some (Γ1', src) ∧ Tw (fun y g => ks y g src) (srcL src) Γ Γ' Γ1 Γ1' := by
    intro he
    simp only [Option.some.injEq, Prod.mk.injEq] at he
    obtain ⟨rfl, rfl⟩ := he
    exact ⟨_, rfl, Tw.refl Γ Γ'⟩
  have box : ∀ u n, (some (touchB u Γ, Src.box u n) : Option (List G × Src)) = some (Γ1, src) → ∃ Γ1', (some (touchB u Γ', Src.box u n) : Option (List G × Src)) = some (Γ1', src) ∧ Tw (fun y g => ks y g src) (srcL src) Γ Γ' Γ1 Γ1' := by
    intro u n he
    simp only [Option.some.injEq, Prod.mk.injEq] at he
    obtain ⟨rfl, rfl⟩ := he
    have hu : Γ'.getD u .dead = Γ.getD u .dead := (hs u (by simp [srcL])).1
    refine ⟨_, rfl, by simp [touchB], by simp [touchB], fun y hy => ?_, fun y _ hk => ?_, fun y _ hk => ?_⟩
    · have hap : ∀ v, Γ'.getD v .dead = Γ.getD v .dead → apart Γ' u v = apart Γ u v := fun v hv => by unfold apart; rw [hu, hv]
      constructor
      · rw [touchB_getD, touchB_getD, hy.1]
        cases hg : Γ.getD y .dead <;> simp only
        rename_i v n'
        rw [hap v (hy.2 v n' hg).1]
      · intro v n' hv
        rw [touchB_getD] at hv
        have hb : Γ.getD y .dead = .bal v n' := by
          cases hg : Γ.getD y .dead <;> rw [hg] at hv <;> simp only [reduceCtorEq] at hv
          split at hv
          · exact hv
          · cases hv
        obtain ⟨a, b⟩ := hy.2 v n' hb
        rw [touchB_getD, touchB_getD, a]
        cases hg : Γ.getD v .dead <;> simp only [reduceCtorEq, ne_eq, not_false_eq_true, implies_true, and_true, true_and]
        rename_i v2 n2
        exact absurd hg (b v2 n2)
    · rw [touchB_getD]
      cases hg : Γ.getD y .dead <;> rw [hg] at hk <;> simp [ks, kills] at hk ⊢
    · rw [touchB_getD]
      cases hg : Γ'.getD y .dead <;> rw [hg] at hk <;> simp [ks, kills] at hk ⊢
  cases hk : kdO Γ x <;> cases m <;> rw [hk] at he <;> simp only at he ⊢ <;> first
    | exact same he
    | exact touch _ he
    | exact box _ _ he
    | cases he
    | skip
  rename_i t u
  have elem : ∀ mo, (some ((touchG (some t) false Γ).set t (.hole u mo), Src.elem t u) : Option (List G × Src)) = some (Γ1, src) → ∃ Γ1', (some ((touchG (some t) false Γ').set t (.hole u mo), Src.elem t u) : Option (List G × Src)) = some (Γ1', src) ∧ Tw (fun y g => ks y g src) (srcL src) Γ Γ' Γ1 Γ1' := by
    intro mo he
    simp only [Option.some.injEq, Prod.mk.injEq] at he
    obtain ⟨rfl, rfl⟩ := he
    have tw := Tw.touch (some t) false Γ Γ'
    refine ⟨_, rfl, by rw [List.length_set]; exact tw.len, by rw [List.length_set]; exact tw.len', fun y hy => ?_, fun y hy hk => ?_, fun y hy hk => ?_⟩
    · have hp := tw.pt y hy
      constructor
      · rw [set_getD, set_getD, hp.1]; simp [touchG_len, hll]
      · intro v n hv
        rw [set_getD] at hv
        split at hv
        · cases hv
        · obtain ⟨a, b⟩ := hp.2 v n hv
          rw [set_getD, set_getD, a]
          simp only [touchG_len, hll]
          refine ⟨trivial, fun v' n' => ?_⟩
          split
          · simp
          · exact b v' n'
    · rw [set_getD, if_neg (by simp [srcL] at hy; simp [hy.1])]
      exact tw.keep y (by simp) hk
    · rw [set_getD, if_neg (by simp [srcL] at hy; simp [hy.1])]
      exact tw.keep' y (by simp) hk
  have ht : Γ'.getD t .dead = Γ.getD t .dead := by
    split at he <;> simp only [Option.some.injEq, Prod.mk.injEq, reduceCtorEq] at he <;> exact (hs t (by rw [← he.2]; simp [srcL])).1
  rw [ht]
  cases hgt : Γ.getD t .dead <;> rw [hgt] at he <;> simp only [reduceCtorEq] at he ⊢
  · exact elem _ he
  · exact elem _ he

theorem eats_tw : ∀ {ms : List (Option TK)} {xs : List Operand} {Γ Γ' Γ1 : List G} {ss : List Src}, eats ms xs Γ = some (Γ1, ss) → Γ'.length = Γ.length → (∀ x ∈ xs, ∀ y ∈ opS x, P2 Γ Γ' y) → (∀ y ∈ ss.flatMap srcL, P2 Γ Γ' y) →
    ∃ Γ1', eats ms xs Γ' = some (Γ1', ss) ∧ Tw (fun y g => ss.any (ks y g)) (ss.flatMap srcL) Γ Γ' Γ1 Γ1'
  | [], [], Γ, Γ', Γ1, ss, he, _, _, _ => by
    simp only [eats, Option.some.injEq, Prod.mk.injEq] at he
    obtain ⟨rfl, rfl⟩ := he
    exact ⟨Γ', rfl, (Tw.refl Γ Γ').mono (fun _ _ _ => rfl) (fun _ _ => by simp)⟩
  | none :: ms, x :: xs, Γ, Γ', Γ1, ss, he, hll, hx, hs => by
    simp only [eats] at he ⊢
    split at he
    · rename_i Γ2 ss2 h2
      simp only [Option.some.injEq, Prod.mk.injEq] at he
      obtain ⟨rfl, rfl⟩ := he
      obtain ⟨Γ1', e1, tw⟩ := eats_tw h2 hll (fun z hz => hx z (by simp [hz])) (fun y hy => hs y (by rw [List.flatMap_cons]; exact List.mem_append_right _ hy))
      rw [e1]
      exact ⟨Γ1', rfl, tw.mono (fun y g h => by simpa [ks] using h) (fun y hy => by simpa [srcL] using hy)⟩
    · cases he
  | some m :: ms, x :: xs, Γ, Γ', Γ1, ss, he, hll, hx, hs => by
    simp only [eats] at he ⊢
    split at he
    · rename_i Γ2 src h1
      split at he
      · rename_i Γ3 ss2 h2
        simp only [Option.some.injEq, Prod.mk.injEq] at he
        obtain ⟨rfl, rfl⟩ := he
        obtain ⟨Γ2', e1, tw1⟩ := eat_tw h1 hll (by
          cases x with
          | tmp t => exact (hx (.tmp t) List.mem_cons_self t (by simp [opS])).1
          | _ => rfl) (fun y hy => hs y (by simp [hy]))
        rw [e1]
        obtain ⟨Γ1', e2, tw2⟩ := eats_tw h2 (by rw [tw1.len, tw1.len', hll]) (fun z hz y hy => tw1.pt y (hx z (by simp [hz]) y hy)) (fun y hy => tw1.pt y (hs y (by simp at hy ⊢; exact .inr hy)))
        simp only [e2]
        refine ⟨Γ1', rfl, tw1.trans tw2 (fun y g h => by simpa using h) (fun y hy => by simpa [not_or] using hy)⟩
      · cases he
    · cases he
  | [], _ :: _, _, _, _, _, he, _, _, _ => by simp [eats] at he
  | none :: _, [], _, _, _, _, he, _, _, _ => by simp [eats] at he
  | some _ :: _, [], _, _, _, _, he, _, _, _ => by simp [eats] at he

/-! ### Each operation, on both -/
def lv (Γ : List G) (l : List Nat) : List Nat := l ++ l.flatMap fun y => dl (Γ.getD y .dead)
theorem mem_lv {Γ : List G} {l : List Nat} {y : Nat} (h : y ∈ l) : y ∈ lv Γ l := List.mem_append_left _ h
theorem mem_lv2 {Γ : List G} {l : List Nat} {y z : Nat} (h : y ∈ l) (hz : z ∈ dl (Γ.getD y .dead)) : z ∈ lv Γ l := List.mem_append_right _ (List.mem_flatMap.2 ⟨y, h, hz⟩)

section
variable {E : Env} {Γ Γ' Γ1 : List G} {c : COp} {d : Nat}

theorem killable_dst (hd : c.dst = some d) {y : Nat} {g : G} (h : c.killable y g = false) : depsB d g = false := by
  simp only [COp.killable, Bool.or_eq_false_iff] at h
  have := h.1.1.1
  rwa [hd] at this
theorem cand_dst (hd : c.dst = some d) : d ∈ c.cand := by simp [COp.cand, hd]
theorem cand_rd {y : Nat} (h : y ∈ c.rd) : y ∈ c.cand := by simp [COp.cand, h]
theorem plain_tw {g : G} (hd : c.dst = some d) (hll : Γ'.length = Γ.length) (hg : ∀ v n, g = .bal v n → v ≠ d ∧ Γ'.getD v .dead = Γ.getD v .dead ∧ ∀ v' n', Γ.getD v .dead ≠ .bal v' n' := by intro v n h; cases h) : Tw c.killable c.cand Γ Γ' (setG none false d g Γ) (setG none false d g Γ') :=
  (Tw.setG hll hg).mono (fun _ _ h => killable_dst hd h) (fun y hy => by simp only [List.mem_singleton]; rintro rfl; exact hy (cand_dst hd))
theorem kdO_tw {x : Operand} (h : ∀ y ∈ opS x, P2 Γ Γ' y) : kdO Γ' x = kdO Γ x := by
  cases x with
  | tmp t => exact (h t (by simp [opS])).1
  | _ => rfl
theorem eaten_tw {ss : List Src} {Γ2 Γ2' : List G} {g : G} (hd : c.dst = some d) (hs : c.srcs = ss) (tw : Tw (fun y g => ss.any (ks y g)) (ss.flatMap srcL) Γ Γ' Γ2 Γ2') (hll : Γ'.length = Γ.length) (hg : ∀ v n, g ≠ .bal v n) : Tw c.killable c.cand Γ Γ' (setG none false d g Γ2) (setG none false d g Γ2') :=
  tw.trans (Tw.setG (by rw [tw.len, tw.len', hll]) (fun v n h => absurd h (hg v n))) (fun y g h => ⟨by
    simp only [COp.killable, Bool.or_eq_false_iff] at h
    have := h.1.1.2
    rwa [hs] at this, killable_dst hd h⟩) (fun y hy => ⟨fun h => hy (by simp only [COp.cand, hs]; exact List.mem_append_right _ h), by simp only [List.mem_singleton]; rintro rfl; exact hy (cand_dst hd)⟩)

theorem opd {x : Operand} (hP : ∀ y ∈ lv Γ c.cand, P2 Γ Γ' y) (h : ∀ z ∈ opS x, z ∈ c.rd) : kdO Γ' x = kdO Γ x := kdO_tw fun y hy => hP y (mem_lv (cand_rd (h y hy)))

theorem elabBin_tw {op : BinOp} {T : TypeId} {x y : Operand} (he : elabBin E Γ d op T x y = some (c, Γ1)) (hll : Γ'.length = Γ.length) (hP : ∀ y ∈ lv Γ c.cand, P2 Γ Γ' y) : ∃ Γ1', elabBin E Γ' d op T x y = some (c, Γ1') ∧ Tw c.killable c.cand Γ Γ' Γ1 Γ1' := by
  unfold elabBin at he ⊢
  split at he
  · rename_i neg hneg
    (try simp only [hneg])
    split at he
    · rename_i hnil
      split at he
      · rename_i hc
        simp only [Option.some.injEq, Prod.mk.injEq] at he
        obtain ⟨rfl, rfl⟩ := he
        have hx := opd (x := x) hP (by simp [COp.rd])
        have hs : slotO x = slotO x := rfl
        refine ⟨_, ?_, plain_tw rfl hll⟩
        rw [if_pos hnil, if_pos ⟨hc.1, by unfold hasData; rw [hx]; exact hc.2⟩]; rfl
      · cases he
    · rename_i hnil
      split at he
      · rename_i hb
        split at he
        · rename_i hf
          simp only [Option.some.injEq, Prod.mk.injEq] at he
          obtain ⟨rfl, rfl⟩ := he
          have hx := opd (x := x) hP (by simp +contextual [COp.rd])
          have hy := opd (x := y) hP (by simp +contextual [COp.rd])
          refine ⟨_, ?_, plain_tw rfl hll⟩
          rw [if_neg hnil, if_pos hb, if_pos (by unfold fl2; rw [hx, hy]; exact hf)]; rfl
        · cases he
      · rename_i hb
        split at he
        · rename_i hf
          simp only [Option.some.injEq, Prod.mk.injEq] at he
          obtain ⟨rfl, rfl⟩ := he
          have hx := opd (x := x) hP (by simp +contextual [COp.rd])
          have hy := opd (x := y) hP (by simp +contextual [COp.rd])
          refine ⟨_, ?_, plain_tw rfl hll⟩
          rw [if_neg hnil, if_neg hb, if_pos (by unfold fl2; rw [hx, hy]; exact hf)]; rfl
        · cases he
  · rename_i hneg
    (try simp only [hneg])
    split at he
    · rename_i hf
      simp only [Option.some.injEq, Prod.mk.injEq] at he
      obtain ⟨rfl, rfl⟩ := he
      have hx := opd (x := x) hP (by simp +contextual [COp.rd])
      have hy := opd (x := y) hP (by simp +contextual [COp.rd])
      refine ⟨_, ?_, plain_tw rfl hll⟩
      rw [if_pos (by unfold fl2; rw [hx, hy]; exact hf)]; rfl
    · cases he

theorem elabConv_tw {T T' : TypeId} {x : Operand} (he : elabConv E Γ d T T' x = some (c, Γ1)) (hll : Γ'.length = Γ.length) (hP : ∀ y ∈ lv Γ c.cand, P2 Γ Γ' y) : ∃ Γ1', elabConv E Γ' d T T' x = some (c, Γ1') ∧ Tw c.killable c.cand Γ Γ' Γ1 Γ1' := by
  unfold elabConv at he ⊢
  split at he
  · rename_i hf
    split at he
    · rename_i h1 h2
      simp only [Option.some.injEq, Prod.mk.injEq] at he
      obtain ⟨rfl, rfl⟩ := he
      have hx := opd (x := x) hP (by simp +contextual [COp.rd])
      refine ⟨_, ?_, plain_tw rfl hll⟩
      rw [hx, if_pos hf]; (try simp only [h1, h2]); rfl
    · rename_i k h1 h2
      simp only [Option.some.injEq, Prod.mk.injEq] at he
      obtain ⟨rfl, rfl⟩ := he
      have hx := opd (x := x) hP (by simp +contextual [COp.rd])
      refine ⟨_, ?_, plain_tw rfl hll⟩
      rw [hx, if_pos hf]; (try simp only [h1, h2]); rfl
    · cases he
  · cases he

theorem elabCopy_tw {asg : Bool} {x : Operand} (he : elabCopy asg E Γ d x = some (c, Γ1)) (hll : Γ'.length = Γ.length) (hP : ∀ y ∈ lv Γ c.cand, P2 Γ Γ' y) : ∃ Γ1', elabCopy asg E Γ' d x = some (c, Γ1') ∧ Tw c.killable c.cand Γ Γ' Γ1 Γ1' := by
  have hc := elabCopy_out he
  have hrd : ∀ z ∈ opS x, z ∈ c.rd := by
    rcases hc with ⟨src, rfl⟩ | rfl <;> simp +contextual [COp.rd]
  have hx := opd hP hrd
  have hpx : ∀ z ∈ opS x, P2 Γ Γ' z := fun z hz => hP z (mem_lv (cand_rd (hrd z hz)))
  unfold elabCopy at he ⊢
  simp only at he ⊢
  rw [hx]
  have plain : ∀ g, (∀ v n, g = .bal v n → v ≠ d ∧ Γ'.getD v .dead = Γ.getD v .dead ∧ ∀ v' n', Γ.getD v .dead ≠ .bal v' n') → (some (COp.copy d x, setG none false d g Γ) : Option (COp × List G)) = some (c, Γ1) → ∃ Γ1', (some (COp.copy d x, setG none false d g Γ') : Option (COp × List G)) = some (c, Γ1') ∧ Tw c.killable c.cand Γ Γ' Γ1 Γ1' := by
    intro g hg he
    simp only [Option.some.injEq, Prod.mk.injEq] at he
    obtain ⟨rfl, rfl⟩ := he
    exact ⟨_, rfl, plain_tw rfl hll hg⟩
  have take : (match Den.eat .own Γ x with | some (Γ1, src) => some (COp.take d x src, setG none false d .own Γ1) | none => none) = some (c, Γ1) → ∃ Γ1', (match Den.eat .own Γ' x with | some (Γ1, src) => some (COp.take d x src, setG none false d .own Γ1) | none => none) = some (c, Γ1') ∧ Tw c.killable c.cand Γ Γ' Γ1 Γ1' := by
    intro he
    split at he
    · rename_i Γ2 src hea
      simp only [Option.some.injEq, Prod.mk.injEq] at he
      obtain ⟨rfl, rfl⟩ := he
      obtain ⟨Γ2', e2, tw⟩ := eat_tw hea hll hx (fun y hy => hP y (mem_lv (by simp [COp.cand, COp.srcs, hy])))
      rw [e2]
      exact ⟨_, rfl, eaten_tw (ss := [src]) rfl rfl (tw.mono (fun y g h => by simpa using h) (fun y hy => by simpa using hy)) hll (fun _ _ => by simp)⟩
    · cases he
  cases hk : kdO Γ x <;> rw [hk] at he <;> simp only at he ⊢
  case dead => cases he
  case hole => cases he
  case fl => exact plain _ (fun _ _ h => by cases h) he
  case sh => exact plain _ (fun _ _ h => by cases h) he
  case fz => exact plain _ (fun _ _ h => by cases h) he
  case rn => exact plain _ (fun _ _ h => by cases h) he
  case brd => exact plain _ (fun _ _ h => by cases h) he
  case fn => exact plain _ (fun _ _ h => by cases h) he
  case ptr ck m => exact plain _ (fun _ _ h => by cases h) he
  case pm m => exact plain _ (fun _ _ h => by cases h) he
  case rd y => split at he <;> first | (cases he; done) | (rename_i hne; rw [if_neg hne]; exact plain _ (fun _ _ h => by cases h) he)
  case ea t => split at he <;> first | (cases he; done) | (rename_i hne; rw [if_neg hne]; exact plain _ (fun _ _ h => by cases h) he)
  case eal t u => split at he <;> first | (cases he; done) | (rename_i hne; rw [if_neg hne]; exact plain _ (fun _ _ h => by cases h) he)
  case bal u n =>
    split at he
    · cases he
    · rename_i hne
      rw [if_neg hne]
      refine plain _ (fun v n' h => ?_) he
      injection h with h1 h2
      subst h1
      cases x with
      | tmp t =>
        have := (hpx t (by simp [opS])).2 u n hk
        exact ⟨hne, this.1, this.2⟩
      | const v => cases hk
      | func f => cases hk
      | global g => cases hk
  case own =>
    split at he
    · cases he
    · rename_i hne
      rw [if_neg hne]
      split at he
      · rename_i ha; rw [if_pos ha]; exact take he
      · rename_i ha; rw [if_neg ha]; exact plain _ (fun _ _ h => by cases h) he
  case mo m =>
    split at he
    · cases he
    · rename_i hne
      rw [if_neg hne]
      split at he
      · rename_i ha; rw [if_pos ha]; exact take he
      · rename_i ha; rw [if_neg ha]; exact plain _ (fun _ _ h => by cases h) he
  case al y =>
    split at he
    · cases he
    · rename_i hne
      rw [if_neg hne]
      split at he
      · rename_i ha; rw [if_pos ha]; exact take he
      · rename_i ha; rw [if_neg ha]; exact plain _ (fun _ _ h => by cases h) he
  case tup ks =>
    split at he
    · rename_i t
      split at he
      · cases he
      · rename_i hne
        simp only [Option.some.injEq, Prod.mk.injEq] at he
        obtain ⟨rfl, rfl⟩ := he
        rw [if_neg hne]
        refine ⟨_, rfl, ?_⟩
        have st : Tw (fun _ _ => false) [t] Γ Γ' (Γ.set t .dead) (Γ'.set t .dead) := by
          refine ⟨by simp, by simp, fun y hy => ⟨by rw [set_getD, set_getD, hy.1, hll], fun v n hv => ?_⟩, fun y hy _ => ?_, fun y hy _ => ?_⟩
          · rw [set_getD] at hv
            split at hv
            · cases hv
            · obtain ⟨a, b⟩ := hy.2 v n hv
              rw [set_getD, set_getD, a, hll]
              refine ⟨rfl, fun v' n' => ?_⟩
              split
              · simp
              · exact b v' n'
          · rw [set_getD, if_neg (by simp at hy; simp [hy])]
          · rw [set_getD, if_neg (by simp at hy; simp [hy])]
        exact st.trans (Tw.setG (d := d) (g := .tup ks) (by simp [hll]) (fun _ _ h => by cases h)) (fun y g h => ⟨rfl, killable_dst rfl h⟩) (fun y hy => ⟨by simp only [List.mem_singleton]; rintro rfl; exact hy (cand_rd (by simp [COp.rd, opS])), by simp only [List.mem_singleton]; rintro rfl; exact hy (cand_dst rfl)⟩)
    · cases he

theorem elabLoadB_tw {T : TypeId} {x : Operand} (he : elabLoadB E Γ d T x = some (c, Γ1)) (hll : Γ'.length = Γ.length) (hP : ∀ y ∈ lv Γ c.cand, P2 Γ Γ' y) : ∃ Γ1', elabLoadB E Γ' d T x = some (c, Γ1') ∧ Tw c.killable c.cand Γ Γ' Γ1 Γ1' := by
  unfold elabLoadB at he ⊢
  split at he
  · rename_i ck m n h1 h2
    have fin : ∀ fl g, (some (COp.loadB d x n fl, setG none false d g Γ) : Option (COp × List G)) = some (c, Γ1) → (∀ v n', g = .bal v n' → x = .tmp v ∧ v ≠ d) →
        kdO Γ' x = kdO Γ x ∧ Tw c.killable c.cand Γ Γ' Γ1 (setG none false d g Γ') ∧ c = .loadB d x n fl := by
      intro fl g he hg
      simp only [Option.some.injEq, Prod.mk.injEq] at he
      obtain ⟨rfl, rfl⟩ := he
      have hx := opd (x := x) hP (by simp [COp.rd])
      refine ⟨hx, plain_tw rfl hll fun v n' h => ?_, rfl⟩
      obtain ⟨rfl, hne⟩ := hg v n' h
      refine ⟨hne, hx, fun v' n'' hb => ?_⟩
      rw [show kdO Γ (.tmp v) = _ from hb] at h1
      cases h1
    split at he
    · rename_i hfl
      obtain ⟨hx, tw, hcc⟩ := fin true .fl he (fun _ _ h => by cases h)
      refine ⟨_, ?_, tw⟩
      rw [hx]
      (try simp only [h1, h2])
      rw [if_pos hfl, hcc]
    · rename_i hfl
      split at he
      · rename_i t
        split at he
        · cases he
        · rename_i hne
          obtain ⟨hx, tw, hcc⟩ := fin false (ptrKind ck t n) he (fun v n' h => by
            cases ck <;> simp only [ptrKind, reduceCtorEq] at h
            injection h with h _
            exact ⟨by rw [h], by rw [← h]; exact fun hh => hne (.inl hh)⟩)
          refine ⟨_, ?_, tw⟩
          rw [hx]
          (try simp only [h1, h2])
          rw [if_neg hfl, if_neg hne, hcc]
      · cases he
  · cases he

theorem elabFadd_tw {T : TypeId} {x : Operand} {fi : Nat} (he : elabFadd E Γ d T x fi = some (c, Γ1)) (hll : Γ'.length = Γ.length) (hP : ∀ y ∈ lv Γ c.cand, P2 Γ Γ' y) : ∃ Γ1', elabFadd E Γ' d T x fi = some (c, Γ1') ∧ Tw c.killable c.cand Γ Γ' Γ1 Γ1' := by
  unfold elabFadd at he ⊢
  split at he
  · cases he
  · rename_i off hoff
    (try simp only [hoff])
    split at he
    · rename_i ck m h1
      simp only [Option.some.injEq, Prod.mk.injEq] at he
      obtain ⟨rfl, rfl⟩ := he
      have hx := opd (x := x) hP (by simp [COp.rd])
      refine ⟨_, ?_, plain_tw rfl hll⟩
      rw [hx, h1]
    · rename_i h1
      split at he
      · rename_i t hk
        split at he
        · cases he
        · rename_i hne
          simp only [Option.some.injEq, Prod.mk.injEq] at he
          obtain ⟨rfl, rfl⟩ := he
          have hx := opd (x := x) hP (by simp [COp.rd])
          refine ⟨_, ?_, plain_tw rfl hll⟩
          rw [hx, h1, hk]; simp only [if_neg hne]
      · cases he

theorem elabIadd_tw {T : TypeId} {x i : Operand} (he : elabIadd E Γ d T x i = some (c, Γ1)) (hll : Γ'.length = Γ.length) (hP : ∀ y ∈ lv Γ c.cand, P2 Γ Γ' y) : ∃ Γ1', elabIadd E Γ' d T x i = some (c, Γ1') ∧ Tw c.killable c.cand Γ Γ' Γ1 Γ1' := by
  unfold elabIadd at he ⊢
  split at he
  · rename_i t e hT
    (try simp only [hT])
    split at he
    · rename_i hc
      simp only [Option.some.injEq, Prod.mk.injEq] at he
      obtain ⟨rfl, rfl⟩ := he
      have hx := opd (x := .tmp t) hP (by simp [COp.rd, opS])
      have hi := opd (x := i) hP (by simp +contextual [COp.rd])
      refine ⟨_, ?_, plain_tw rfl hll⟩
      rw [hx, hi, if_pos hc]
    · cases he
  · cases he

theorem elabLoadE_tw {T : TypeId} {x : Operand} (he : elabLoadE E Γ d T x = some (c, Γ1)) (hll : Γ'.length = Γ.length) (hP : ∀ y ∈ lv Γ c.cand, P2 Γ Γ' y) : ∃ Γ1', elabLoadE E Γ' d T x = some (c, Γ1') ∧ Tw c.killable c.cand Γ Γ' Γ1 Γ1' := by
  unfold elabLoadE at he ⊢
  split at he
  · rename_i u t n hT hk
    have fin : ∀ fl g, (some (COp.loadE d t u n fl, setG none false d g Γ) : Option (COp × List G)) = some (c, Γ1) → (∀ v n', g ≠ .bal v n') →
        kdO Γ' (.tmp u) = .ea t ∧ Γ'.getD t .dead = Γ.getD t .dead ∧ Tw c.killable c.cand Γ Γ' Γ1 (setG none false d g Γ') ∧ c = .loadE d t u n fl := by
      intro fl g he hg
      simp only [Option.some.injEq, Prod.mk.injEq] at he
      obtain ⟨rfl, rfl⟩ := he
      exact ⟨(opd (x := .tmp u) hP (by simp [COp.rd, opS])).trans hk, (hP t (mem_lv (cand_rd (by simp [COp.rd])))).1, plain_tw rfl hll fun v n' h => absurd h (hg v n'), rfl⟩
    split at he
    · rename_i hfl
      split at he
      · rename_i hdat
        obtain ⟨hx, ht, tw, hcc⟩ := fin true .fl he (fun _ _ => by simp)
        refine ⟨_, ?_, tw⟩
        rw [hx]
        (try simp only [hT])
        rw [ht, if_pos hfl, if_pos hdat, hcc]
      · cases he
    · rename_i hfl
      split at he
      · rename_i hh
        split at he
        · rename_i y hroot
          split at he
          · cases he
          · rename_i hne
            obtain ⟨hx, ht, tw, hcc⟩ := fin false (.eal y u) he (fun _ _ => by simp)
            refine ⟨_, ?_, tw⟩
            rw [hx]
            (try simp only [hT])
            have : elemRoot Γ' t = some y := by unfold elemRoot at hroot ⊢; rw [ht]; exact hroot
            rw [if_neg hfl, if_pos hh, this]
            simp only
            rw [if_neg hne, hcc]
        · cases he
      · rename_i hh
        split at he
        · rename_i y hin
          split at he
          · cases he
          · rename_i hne
            obtain ⟨hx, ht, tw, hcc⟩ := fin false (.rd y) he (fun _ _ => by simp)
            refine ⟨_, ?_, tw⟩
            rw [hx]
            (try simp only [hT])
            rw [ht, if_neg hfl, if_neg hh, hin]
            simp only
            rw [if_neg hne, hcc]
        · rename_i g hn hin
          obtain ⟨hx, ht, tw, hcc⟩ := fin false g he (fun v n' h => by
            rw [h] at hin
            cases hgt : Γ.getD t .dead <;> rw [hgt] at hin <;> simp [inKind] at hin)
          refine ⟨_, ?_, tw⟩
          rw [hx]
          (try simp only [hT])
          rw [ht, if_neg hfl, if_neg hh]
          split
          · rename_i y2 hy2
            rw [hin] at hy2
            injection hy2 with hy2
            exact absurd hy2 (hn y2)
          · rename_i g2 _ hg2
            rw [hin] at hg2
            injection hg2 with hg2
            rw [← hg2, hcc]
          · rename_i hnn; rw [hin] at hnn; cases hnn
        · cases he
  · cases he

theorem srcs_cand {s : Src} {y : Nat} (h : s ∈ c.srcs) (hy : y ∈ srcL s) : y ∈ c.cand := by
  simp only [COp.cand, List.mem_append, List.mem_flatMap]
  exact .inr ⟨s, h, hy⟩
theorem killable_srcs {y : Nat} {g : G} (h : c.killable y g = false) : c.srcs.any (ks y g) = false := by
  simp only [COp.killable, Bool.or_eq_false_iff] at h
  exact h.1.1.2

theorem elabStoreE_tw {T : TypeId} {u x : Operand} (he : elabStoreE E Γ T u x = some (c, Γ1)) (hll : Γ'.length = Γ.length) (hP : ∀ y ∈ lv Γ (lv Γ c.cand), P2 Γ Γ' y) : ∃ Γ1', elabStoreE E Γ' T u x = some (c, Γ1') ∧ Tw c.killable c.cand Γ Γ' Γ1 Γ1' := by
  unfold elabStoreE at he ⊢
  split at he
  · rename_i u t n hT hk
    split at he
    · rename_i z hroot
      split at he
      · rename_i hc
        simp only [Option.some.injEq, Prod.mk.injEq] at he
        obtain ⟨rfl, rfl⟩ := he
        have huc : u ∈ (COp.storeE z u n x).cand := cand_rd (by simp [COp.rd])
        have hu : kdO Γ' (.tmp u) = kdO Γ (.tmp u) := (hP u (mem_lv (mem_lv huc))).1
        have ht : Γ'.getD t .dead = Γ.getD t .dead := (hP t (mem_lv (mem_lv2 huc (by rw [show Γ.getD u .dead = _ from hk]; simp [dl])))).1
        have hz : Γ'.getD z .dead = Γ.getD z .dead := (hP z (mem_lv (mem_lv (cand_rd (by simp [COp.rd]))))).1
        have hx : kdO Γ' x = kdO Γ x := kdO_tw fun y hy => hP y (mem_lv (mem_lv (cand_rd (by simp [COp.rd, hy]))))
        have hr : rootOf Γ' t = some z := by unfold rootOf at hroot ⊢; rw [ht]; exact hroot
        have hm : moKeep Γ' z = moKeep Γ z := by unfold moKeep; rw [hz]
        refine ⟨setG none false z (moKeep Γ z) (touchG (some z) false Γ'), ?_, ?_⟩
        · rw [hu, hk]
          simp only [hT, hr]
          rw [hx, hll, if_pos hc, hm]
          rfl
        · refine ((Tw.touch (some z) false Γ Γ').trans (Tw.setG (d := z) (g := moKeep Γ z) (by simp [touchG_len, hll]) (fun v n h => by unfold moKeep at h; split at h <;> cases h)) (k := (COp.storeE z u n x).killable) (cs := (COp.storeE z u n x).cand) (fun y g h => ?_) (fun y hy => ⟨by simp, by simp only [List.mem_singleton]; rintro rfl; exact hy (cand_dst rfl)⟩))
          simp only [COp.killable, Bool.or_eq_false_iff] at h
          exact ⟨h.2, h.1.1.1⟩
      · cases he
    · cases he
  · cases he

theorem elabStoreB_tw {T : TypeId} {u x : Operand} (he : elabStoreB E Γ T u x = some (c, Γ1)) (hll : Γ'.length = Γ.length) (hP : ∀ y ∈ lv Γ c.cand, P2 Γ Γ' y) : ∃ Γ1', elabStoreB E Γ' T u x = some (c, Γ1') ∧ Tw c.killable c.cand Γ Γ' Γ1 Γ1' := by
  unfold elabStoreB at he ⊢
  split at he
  · rename_i ck mine n h1 h2
    split at he
    · cases he
    · rename_i hc1
      split at he
      · split at he
        · rename_i hc2
          simp only [Option.some.injEq, Prod.mk.injEq] at he
          obtain ⟨rfl, rfl⟩ := he
          have hu := opd (x := u) hP (by simp +contextual [COp.rd])
          have hx := opd (x := x) hP (by simp +contextual [COp.rd])
          refine ⟨_, ?_, (Tw.touch none false Γ Γ').mono (fun y g _ => ?_) (fun _ _ => by simp)⟩
          · rw [hu, h1]
            simp only [h2]
            rw [if_neg hc1, hx, if_pos hc2]
          · cases g <;> rfl
        · cases he
      · rename_i hck
        split at he
        · cases he
        · rename_i m hm
          split at he
          · rename_i Γ2 src hea
            simp only [Option.some.injEq, Prod.mk.injEq] at he
            obtain ⟨rfl, rfl⟩ := he
            have hu := opd (x := u) hP (by simp +contextual [COp.rd])
            have hx := opd (x := x) hP (by simp +contextual [COp.rd])
            obtain ⟨Γ2', e2, tw⟩ := eat_tw hea hll hx (fun y hy => hP y (mem_lv (srcs_cand (s := src) (by simp [COp.srcs]) hy)))
            refine ⟨touchG none (ck == .own) Γ2', ?_, tw.trans (Tw.touch none (ck == .own) Γ2 Γ2') (fun y g h => ?_) (fun y hy => ⟨fun hh => hy (srcs_cand (s := src) (by simp [COp.srcs]) hh), by simp⟩)⟩
            · rw [hu, h1]
              simp only [h2]
              rw [if_neg hc1]
              cases ck <;> first
                | exact absurd rfl (hck)
                | (simp only [hm]; rw [e2])
            · have h3 := killable_srcs h
              simp only [COp.srcs, List.any_cons, List.any_nil, Bool.or_false] at h3
              refine ⟨h3, ?_⟩
              simp only [COp.killable, COp.bxk, Bool.true_and, Bool.or_eq_false_iff] at h
              have h4 := h.1.2
              cases g <;> simp only [kills] at h4 ⊢ <;> first | rfl | (cases h4; done)
          · cases he
  · cases he

theorem elabAlloc_tw {T : TypeId} (he : elabAlloc E Γ d T = some (c, Γ1)) (hll : Γ'.length = Γ.length) : ∃ Γ1', elabAlloc E Γ' d T = some (c, Γ1') ∧ Tw c.killable c.cand Γ Γ' Γ1 Γ1' := by
  unfold elabAlloc at he ⊢
  split at he
  · cases he
  · rename_i z hz
    simp only [hz] at he ⊢
    split at he
    · rename_i hc
      split at he
      · cases he
      · rename_i hn
        simp only [Option.some.injEq, Prod.mk.injEq] at he
        obtain ⟨rfl, rfl⟩ := he
        exact ⟨_, by rw [if_pos hc, if_neg hn], plain_tw rfl hll⟩
    · cases he

theorem elabMks_tw {T : TypeId} {l k : Operand} (he : elabMks E Γ d T l k = some (c, Γ1)) (hll : Γ'.length = Γ.length) (hP : ∀ y ∈ lv Γ c.cand, P2 Γ Γ' y) : ∃ Γ1', elabMks E Γ' d T l k = some (c, Γ1') ∧ Tw c.killable c.cand Γ Γ' Γ1 Γ1' := by
  unfold elabMks at he ⊢
  split at he
  · rename_i e hT
    split at he
    · rename_i i hi
      split at he
      · rename_i z hz
        split at he
        · rename_i hc
          simp only [Option.some.injEq, Prod.mk.injEq] at he
          obtain ⟨rfl, rfl⟩ := he
          have h1 := opd (x := l) hP (by simp +contextual [COp.rd])
          have h2 := opd (x := k) hP (by simp +contextual [COp.rd])
          refine ⟨_, ?_, plain_tw rfl hll⟩
          (try simp only [hi, hz])
          rw [h1, h2, if_pos hc]
        · cases he
      · cases he
    · cases he
  · cases he

theorem elabMkfn_tw {fn : Fn} {first caps : Array Operand} (he : elabMkfn Γ d fn first caps = some (c, Γ1)) (hll : Γ'.length = Γ.length) (hP : ∀ y ∈ lv Γ c.cand, P2 Γ Γ' y) : ∃ Γ1', elabMkfn Γ' d fn first caps = some (c, Γ1') ∧ Tw c.killable c.cand Γ Γ' Γ1 Γ1' := by
  unfold elabMkfn at he ⊢
  split at he
  · rename_i g hfi
    split at he
    · rename_i hc
      simp only [Option.some.injEq, Prod.mk.injEq] at he
      obtain ⟨rfl, rfl⟩ := he
      refine ⟨_, ?_, plain_tw rfl hll⟩
      rw [if_pos]
      simp only [List.all_eq_true] at hc ⊢
      intro x hx
      have := opd (x := x) hP (by intro z hz; exact List.mem_flatMap.2 ⟨x, hx, hz⟩)
      rw [this]; exact hc x hx
    · cases he
  · cases he

theorem elabExt_tw {x : Operand} {j : Nat} (he : elabExt Γ d x j = some (c, Γ1)) (hll : Γ'.length = Γ.length) (hP : ∀ y ∈ lv Γ c.cand, P2 Γ Γ' y) : ∃ Γ1', elabExt Γ' d x j = some (c, Γ1') ∧ Tw c.killable c.cand Γ Γ' Γ1 Γ1' := by
  unfold elabExt at he ⊢
  split at he
  · rename_i t
    split at he
    · cases he
    · rename_i hne
      rw [if_neg hne]
      split at he
      · rename_i ks hk
        have ht : c = .ext d t j → Γ'.getD t .dead = .tup ks := by rintro rfl; rw [(hP t (mem_lv (cand_rd (by simp [COp.rd])))).1]; exact hk
        have plain : ∀ g, (some (COp.ext d t j, setG none false d g Γ) : Option (COp × List G)) = some (c, Γ1) → (∀ v n, g ≠ .bal v n) → c = .ext d t j ∧ Tw c.killable c.cand Γ Γ' Γ1 (setG none false d g Γ') := by
          intro g he hg
          simp only [Option.some.injEq, Prod.mk.injEq] at he
          obtain ⟨rfl, rfl⟩ := he
          exact ⟨rfl, plain_tw rfl hll fun v n h => absurd h (hg v n)⟩
        split at he
        · rename_i hj
          obtain ⟨hcc, tw⟩ := plain _ he (fun _ _ => by simp)
          exact ⟨_, by rw [ht hcc]; simp only [hj]; rw [hcc], tw⟩
        · rename_i hj
          obtain ⟨hcc, tw⟩ := plain _ he (fun _ _ => by simp)
          exact ⟨_, by rw [ht hcc]; simp only [hj]; rw [hcc], tw⟩
        · rename_i hj
          obtain ⟨hcc, tw⟩ := plain _ he (fun _ _ => by simp)
          exact ⟨_, by rw [ht hcc]; simp only [hj]; rw [hcc], tw⟩
        · rename_i hj
          simp only [Option.some.injEq, Prod.mk.injEq] at he
          obtain ⟨rfl, rfl⟩ := he
          refine ⟨setG none false d .own (Γ'.set t (.tup (ks.set j .dd))), by rw [ht rfl]; simp only [hj], ?_⟩
          have st : Tw (fun _ _ => false) [t] Γ Γ' (Γ.set t (.tup (ks.set j .dd))) (Γ'.set t (.tup (ks.set j .dd))) := by
            refine ⟨by simp, by simp, fun y hy => ⟨by rw [set_getD, set_getD, hy.1, hll], fun v n hv => ?_⟩, fun y hy _ => ?_, fun y hy _ => ?_⟩
            · rw [set_getD] at hv
              split at hv
              · cases hv
              · obtain ⟨a, b⟩ := hy.2 v n hv
                rw [set_getD, set_getD, a, hll]
                refine ⟨rfl, fun v' n' => ?_⟩
                split
                · simp
                · exact b v' n'
            · rw [set_getD, if_neg (by simp at hy; simp [hy])]
            · rw [set_getD, if_neg (by simp at hy; simp [hy])]
          exact st.trans (Tw.setG (d := d) (g := .own) (by simp [hll]) (fun _ _ h => by cases h)) (fun y g h => ⟨rfl, killable_dst rfl h⟩) (fun y hy => ⟨by simp only [List.mem_singleton]; rintro rfl; exact hy (cand_rd (by simp [COp.rd])), by simp only [List.mem_singleton]; rintro rfl; exact hy (cand_dst rfl)⟩)
        · cases he
      · cases he
  · cases he

theorem elabBox_tw {x : Operand} (he : elabBox E Γ d x = some (c, Γ1)) (hll : Γ'.length = Γ.length) (hP : ∀ y ∈ lv Γ c.cand, P2 Γ Γ' y) : ∃ Γ1', elabBox E Γ' d x = some (c, Γ1') ∧ Tw c.killable c.cand Γ Γ' Γ1 Γ1' := by
  have data : ∀ ck, (match ckTK ck with | none => none | some m => match Den.eat m Γ x with | some (Γ1, src) => some (COp.box d ck x src, setG none false d (.ptr ck true) Γ1) | none => none) = some (c, Γ1) →
      kdO Γ' x = kdO Γ x ∧ ∃ Γ1', (match ckTK ck with | none => none | some m => match Den.eat m Γ' x with | some (Γ1, src) => some (COp.box d ck x src, setG none false d (.ptr ck true) Γ1) | none => none) = some (c, Γ1') ∧ Tw c.killable c.cand Γ Γ' Γ1 Γ1' := by
    intro ck he
    split at he
    · cases he
    · rename_i m hm
      split at he
      · rename_i Γ2 src hea
        simp only [Option.some.injEq, Prod.mk.injEq] at he
        obtain ⟨rfl, rfl⟩ := he
        have hx := opd (x := x) hP (by simp +contextual [COp.rd])
        obtain ⟨Γ2', e2, tw⟩ := eat_tw hea hll hx (fun y hy => hP y (mem_lv (srcs_cand (s := src) (by simp [COp.srcs]) hy)))
        refine ⟨hx, _, by rw [e2], eaten_tw (ss := [src]) rfl rfl (tw.mono (fun y g h => by simpa using h) (fun y hy => by simpa using hy)) hll (fun _ _ => by simp)⟩
      · cases he
  unfold elabBox at he ⊢
  cases hk : kdO Γ x <;> rw [hk] at he <;> (try simp only at he)
  case dead => cases he
  case ptr => cases he
  case ea => cases he
  case tup => cases he
  case pm => cases he
  case hole => cases he
  case fn =>
    simp only [Option.some.injEq, Prod.mk.injEq] at he
    obtain ⟨rfl, rfl⟩ := he
    have hx := opd (x := x) hP (by simp +contextual [COp.rd])
    rw [hx, hk]
    exact ⟨_, rfl, plain_tw rfl hll⟩
  case mo m =>
    split at he
    · rename_i Γ2 y hh hea
      simp only [Option.some.injEq, Prod.mk.injEq] at he
      obtain ⟨rfl, rfl⟩ := he
      have hx := opd (x := x) hP (by simp +contextual [COp.rd])
      have hy : y = slotO x := by
        obtain ⟨h1, _⟩ := eat_slot hea
        rcases h1 with ⟨_, h1⟩ | h1
        · exact h1
        · rw [hk] at h1; cases h1
      subst hy
      obtain ⟨Γ2', e2, tw⟩ := eat_tw hea hll hx (fun y hy => hP y (mem_lv (srcs_cand (s := .slot (slotO x)) (by simp [COp.srcs]) hy)))
      rw [hx, hk]
      simp only [hh, e2]
      exact ⟨_, rfl, eaten_tw (ss := [.slot (slotO x)]) rfl rfl (tw.mono (fun y g h => by simpa using h) (fun y hy => by simpa using hy)) hll (fun _ _ => by simp)⟩
    · cases he
  all_goals
    obtain ⟨hx, Γ1', e1, tw⟩ := data _ he
    refine ⟨Γ1', ?_, tw⟩
    rw [hx, hk]
    exact e1

theorem elabLit_tw {T : TypeId} {n : Nat} {ps : List (Nat × Operand)} (he : elabLit E Γ d T n ps = some (c, Γ1)) (hll : Γ'.length = Γ.length) (hP : ∀ y ∈ lv Γ c.cand, P2 Γ Γ' y) : ∃ Γ1', elabLit E Γ' d T n ps = some (c, Γ1') ∧ Tw c.killable c.cand Γ Γ' Γ1 Γ1' := by
  unfold elabLit at he ⊢
  split at he
  · rename_i e n' hl
    split at he
    · rename_i hc
      split at he
      · rename_i Γ2 ss hea
        simp only [Option.some.injEq, Prod.mk.injEq] at he
        obtain ⟨rfl, rfl⟩ := he
        obtain ⟨Γ2', e2, tw⟩ := eats_tw hea hll (fun x hx y hy => hP y (mem_lv (cand_rd (by simp only [COp.rd]; exact List.mem_append_left _ (List.mem_flatMap.2 ⟨x, hx, hy⟩))))) (fun y hy => hP y (mem_lv (by simp only [COp.cand, COp.srcs]; exact List.mem_append_right _ hy)))
        refine ⟨_, ?_, eaten_tw rfl rfl tw hll (fun _ _ => by simp)⟩
        (try simp only [hl])
        rw [if_pos hc, e2]
      · cases he
    · cases he
  · cases he

theorem flO_tw {o : Option Operand} (h : ∀ y ∈ oopS o, P2 Γ Γ' y) : flO Γ' o = flO Γ o := by
  cases o with
  | none => rfl
  | some x => simp only [flO]; rw [kdO_tw h]

theorem elabSli_tw {T : TypeId} {x : Operand} {lo hi mx : Option Operand} (he : elabSli E Γ d T x lo hi mx = some (c, Γ1)) (hll : Γ'.length = Γ.length) (hP : ∀ y ∈ lv Γ c.cand, P2 Γ Γ' y) : ∃ Γ1', elabSli E Γ' d T x lo hi mx = some (c, Γ1') ∧ Tw c.killable c.cand Γ Γ' Γ1 Γ1' := by
  unfold elabSli at he ⊢
  split at he
  · rename_i hfl
    split at he
    · rename_i hT
      split at he
      · rename_i hc
        simp only [Option.some.injEq, Prod.mk.injEq] at he
        obtain ⟨rfl, rfl⟩ := he
        have hx := opd (x := x) hP (by simp +contextual [COp.rd])
        have h1 := flO_tw (Γ := Γ) (Γ' := Γ') (o := lo) fun y hy => hP y (mem_lv (cand_rd (by simp [COp.rd, hy])))
        have h2 := flO_tw (Γ := Γ) (Γ' := Γ') (o := hi) fun y hy => hP y (mem_lv (cand_rd (by simp [COp.rd, hy])))
        have h3 : flO Γ' mx = flO Γ mx := by cases mx with | none => rfl | some _ => simp at hc
        refine ⟨_, ?_, plain_tw rfl hll⟩
        rw [h1, h2, h3, if_pos hfl]
        (try simp only [hT])
        rw [hx, if_pos hc]
      · cases he
    · rename_i e hT
      split at he
      · rename_i hi2
        have fin : ∀ g, (some (COp.sli d e x lo hi mx, setG none false d g Γ) : Option (COp × List G)) = some (c, Γ1) → (∀ v n, g ≠ .bal v n) → kdO Γ' x = kdO Γ x ∧ (flO Γ' lo = flO Γ lo ∧ flO Γ' hi = flO Γ hi ∧ flO Γ' mx = flO Γ mx) ∧ c = .sli d e x lo hi mx ∧ Tw c.killable c.cand Γ Γ' Γ1 (setG none false d g Γ') := by
          intro g he hg
          simp only [Option.some.injEq, Prod.mk.injEq] at he
          obtain ⟨rfl, rfl⟩ := he
          exact ⟨opd (x := x) hP (by simp +contextual [COp.rd]), ⟨flO_tw fun y hy => hP y (mem_lv (cand_rd (by simp [COp.rd, hy]))), flO_tw fun y hy => hP y (mem_lv (cand_rd (by simp [COp.rd, hy]))), flO_tw fun y hy => hP y (mem_lv (cand_rd (by simp [COp.rd, hy])))⟩, rfl, plain_tw rfl hll fun v n h => absurd h (hg v n)⟩
        split at he
        · rename_i y hsk
          split at he
          · cases he
          · rename_i hne
            obtain ⟨hx, ⟨h1, h2, h3⟩, hcc, tw⟩ := fin _ he (fun _ _ => by simp)
            refine ⟨_, ?_, tw⟩
            rw [h1, h2, h3, if_pos hfl]
            (try simp only [hT])
            rw [if_pos hi2, hx, hsk]
            simp only
            rw [if_neg hne, hcc]
        · rename_i g hn hsk
          obtain ⟨hx, ⟨h1, h2, h3⟩, hcc, tw⟩ := fin g he (fun v n h => by
            rw [h] at hsk
            cases hgt : kdO Γ x <;> rw [hgt] at hsk <;> simp [sliKind] at hsk)
          refine ⟨_, ?_, tw⟩
          rw [h1, h2, h3, if_pos hfl]
          (try simp only [hT])
          rw [if_pos hi2, hx]
          split
          · rename_i y2 hy2
            rw [hsk] at hy2
            injection hy2 with hy2
            exact absurd hy2 (hn y2)
          · rename_i g2 _ hg2
            rw [hsk] at hg2
            injection hg2 with hg2
            rw [← hg2, hcc]
          · rename_i hnn; rw [hsk] at hnn; cases hnn
        · cases he
      · cases he
    · cases he
  · cases he

theorem elabBuild_tw {T : TypeId} {ps : List (Nat × Operand)} (he : elabBuild E Γ d T ps = some (c, Γ1)) (hll : Γ'.length = Γ.length) (hP : ∀ y ∈ lv Γ c.cand, P2 Γ Γ' y) : ∃ Γ1', elabBuild E Γ' d T ps = some (c, Γ1') ∧ Tw c.killable c.cand Γ Γ' Γ1 Γ1' := by
  unfold elabBuild at he ⊢
  split at he
  · rename_i it fs hit hT
    split at he
    · rename_i hall
      split at he
      · rename_i zs ps' hz hps
        have hop : ∀ ss, c = .build d zs ps' ss → ∀ x ∈ ps.map (·.2), ∀ y ∈ opS x, P2 Γ Γ' y := by
          rintro ss rfl x hx y hy
          refine hP y (mem_lv (cand_rd ?_))
          simp only [COp.rd]
          refine List.mem_append_left _ (List.mem_flatMap.2 ⟨x, ?_, hy⟩)
          rw [(placesT_get hps).1]; exact hx
        have same : (∀ x ∈ ps.map (·.2), ∀ y ∈ opS x, P2 Γ Γ' y) → (ps.all fun p => kdO Γ' p.2 == .fl) = ps.all fun p => kdO Γ p.2 == .fl := by
          intro h
          rw [Bool.eq_iff_iff]
          simp only [List.all_eq_true]
          refine forall_congr' fun p => forall_congr' fun hp => ?_
          rw [kdO_tw (h p.2 (List.mem_map.2 ⟨p, hp, rfl⟩))]
        split at he
        · rename_i hfl
          simp only [Option.some.injEq, Prod.mk.injEq] at he
          obtain ⟨rfl, rfl⟩ := he
          refine ⟨_, ?_, plain_tw rfl hll⟩
          (try simp only [hit, hT])
          rw [if_pos hall]
          (try simp only [hz, hps])
          rw [same (hop _ rfl), if_pos hfl]
        · rename_i hfl
          split at he
          · rename_i Γ2 ss hea
            simp only [Option.some.injEq, Prod.mk.injEq] at he
            obtain ⟨rfl, rfl⟩ := he
            obtain ⟨Γ2', e2, tw⟩ := eats_tw hea hll (hop _ rfl) (fun y hy => hP y (mem_lv (by simp only [COp.cand, COp.srcs]; exact List.mem_append_right _ hy)))
            refine ⟨_, ?_, eaten_tw rfl rfl tw hll (fun _ _ => by simp)⟩
            (try simp only [hit, hT])
            rw [if_pos hall]
            (try simp only [hz, hps])
            rw [same (hop _ rfl), if_neg hfl, e2]
          · cases he
      · cases he
    · cases he
  · cases he

theorem elabApp_tw {T : TypeId} {x y : Operand} (he : elabApp E Γ d T x y = some (c, Γ1)) (hll : Γ'.length = Γ.length) (hP : ∀ y ∈ lv Γ c.cand, P2 Γ Γ' y) : ∃ Γ1', elabApp E Γ' d T x y = some (c, Γ1') ∧ Tw c.killable c.cand Γ Γ' Γ1 Γ1' := by
  unfold elabApp at he ⊢
  split at he
  · rename_i e hT
    split at he
    · rename_i i hi
      split at he
      · rename_i z hz
        split at he
        · rename_i hc
          split at he
          · rename_i Γ2 ss hea
            split at he
            · rename_i hd
              simp only [Option.some.injEq, Prod.mk.injEq] at he
              obtain ⟨rfl, rfl⟩ := he
              have hyy : ∀ w ∈ opS y, P2 Γ Γ' w := fun w hw => hP w (mem_lv (cand_rd (by simp [COp.rd, hw])))
              have hxx : ∀ w ∈ opS x, P2 Γ Γ' w := fun w hw => hP w (mem_lv (cand_rd (by simp [COp.rd, hw])))
              obtain ⟨Γ2', e2, tw⟩ := eats_tw hea hll (fun u hu w hw => by
                simp only [List.mem_cons, List.not_mem_nil, or_false] at hu
                rcases hu with rfl | rfl
                · exact hxx w hw
                · exact hyy w hw) (fun w hw => hP w (mem_lv (by simp only [COp.cand, COp.srcs]; exact List.mem_append_right _ hw)))
              refine ⟨_, ?_, eaten_tw rfl rfl tw hll (fun _ _ => by simp)⟩
              (try simp only [hi, hz])
              rw [if_pos hc, e2]
              simp only
              rw [kdO_tw fun w hw => tw.pt w (hyy w hw), if_pos hd]
            · cases he
          · cases he
        · cases he
      · cases he
    · cases he
  · cases he

theorem argsOk_tw {pure : Bool} {Γ2 Γ2' : List G} : ∀ {ps : List PK} {xs : List Operand}, (∀ x ∈ xs, kdO Γ2' x = kdO Γ2 x) → argsOk pure Γ2' ps xs = argsOk pure Γ2 ps xs
  | [], [], _ => rfl
  | p :: ps, x :: xs, h => by
    simp only [argsOk]
    rw [argsOk_tw (ps := ps) fun z hz => h z (by simp [hz])]
    congr 1
    have := h x (by simp)
    cases p <;> simp only [argOk, this]
  | [], _ :: _, _ => rfl
  | _ :: _, [], _ => rfl

theorem resG_bal (rs : List TK) (v n : Nat) : resG rs ≠ .bal v n := by
  match rs with
  | [] => simp [resG]
  | [tk] => cases tk <;> simp [resG, TK.toG]
  | _ :: _ :: _ => simp [resG]

theorem elabCall_tw {sg : Sig} {nc : Nat} {dd : Option Nat} {xs : List Operand} {ss : List Src} (he : elabCall sg nc Γ dd xs = some (ss, Γ1)) (hll : Γ'.length = Γ.length) (hx : ∀ x ∈ xs, ∀ y ∈ opS x, P2 Γ Γ' y) (hs : ∀ y ∈ ss.flatMap srcL, P2 Γ Γ' y)
    (hdst : c.dst = dd) (hsr : c.srcs = ss) (hbx : c.bxk = !sg.pure) : ∃ Γ1', elabCall sg nc Γ' dd xs = some (ss, Γ1') ∧ Tw c.killable c.cand Γ Γ' Γ1 Γ1' := by
  unfold elabCall at he ⊢
  split at he
  · rename_i hd
    split at he
    · rename_i Γ2 ssq hpre
      simp only [Option.some.injEq, Prod.mk.injEq] at he
      obtain ⟨e1ss, rfl⟩ := he
      subst e1ss
      unfold preCall at hpre ⊢
      split at hpre
      · rename_i hc
        split at hpre
        · rename_i Γ3 ss3 hea
          split at hpre
          · rename_i hok
            simp only [Option.some.injEq, Prod.mk.injEq] at hpre
            obtain ⟨e2g, e2s⟩ := hpre
            subst e2g; subst e2s
            obtain ⟨Γ2', e2, tw⟩ := eats_tw hea hll hx hs
            rw [hll, if_pos hd, if_pos hc, e2]
            simp only
            rw [argsOk_tw fun x hxm => kdO_tw fun y hy => tw.pt y (hx x hxm y hy), if_pos hok]
            refine ⟨_, rfl, ?_⟩
            have h2 : Tw (fun y g => (!sg.pure) && kills none true y g) [] Γ3 Γ2' (if sg.pure then Γ3 else touchG none true Γ3) (if sg.pure then Γ2' else touchG none true Γ2') := by
              cases hp : sg.pure with
              | true => exact (Tw.refl _ _).mono (fun _ _ _ => rfl) (fun _ _ => by simp)
              | false => exact (Tw.touch none true Γ3 Γ2').mono (fun y g h => by simpa using h) (fun _ _ => by simp)
            have h3 := tw.trans h2 (k := fun y g => ss3.any (ks y g) || ((!sg.pure) && kills none true y g)) (cs := ss3.flatMap srcL) (fun y g h => by simpa [Bool.or_eq_false_iff] using h) (fun y hy => ⟨hy, by simp⟩)
            have hk : ∀ y g, c.killable y g = false → (ss3.any (ks y g) || ((!sg.pure) && kills none true y g)) = false := fun y g h => by
              simp only [COp.killable, Bool.or_eq_false_iff] at h
              rw [← hsr, ← hbx, Bool.or_eq_false_iff]
              exact ⟨h.1.1.2, h.1.2⟩
            have hcs : ∀ y, y ∉ c.cand → y ∉ ss3.flatMap srcL := fun y hy h => hy (by simp only [COp.cand, hsr]; exact List.mem_append_right _ h)
            cases dd with
            | none => exact h3.mono hk hcs
            | some d0 =>
              exact h3.trans (Tw.setG (d := d0) (g := resG sg.rs) (by rw [h3.len, h3.len', hll]) (fun v n h => absurd h (resG_bal sg.rs v n))) (fun y g h => ⟨hk y g h, killable_dst hdst h⟩) (fun y hy => ⟨hcs y hy, by simp only [List.mem_singleton]; rintro rfl; exact hy (cand_dst hdst)⟩)
          · cases hpre
        · cases hpre
      · cases hpre
    · cases he
  · cases he

theorem elabCallOp_tw {k : Call} {dd : Option Nat} (he : elabCallOp E Γ dd k = some (c, Γ1)) (hm : c.isM = false) (hll : Γ'.length = Γ.length) (hP : ∀ y ∈ lv Γ c.cand, P2 Γ Γ' y) : ∃ Γ1', elabCallOp E Γ' dd k = some (c, Γ1') ∧ Tw c.killable c.cand Γ Γ' Γ1 Γ1' := by
  obtain ⟨callee, args, ts⟩ := k
  unfold elabCallOp at he ⊢
  simp only at he ⊢
  split at he
  · rename_i x d hargs
    split at he
    · rename_i t ht
      split at he
      · rename_i hdat
        split at he
        · rename_i hs
          simp only [Option.some.injEq, Prod.mk.injEq] at he
          obtain ⟨rfl, rfl⟩ := he
          have hx := opd (x := x) hP (by simp +contextual [COp.rd])
          refine ⟨_, ?_, plain_tw rfl hll⟩
          (try simp only [ht])
          rw [show hasData Γ' x = hasData Γ x by unfold hasData; rw [hx], if_pos hdat, if_pos hs]; rfl
        · rename_i hs
          split at he
          · rename_i hs2
            simp only [Option.some.injEq, Prod.mk.injEq] at he
            obtain ⟨rfl, rfl⟩ := he
            have hx := opd (x := x) hP (by simp +contextual [COp.rd])
            refine ⟨_, ?_, plain_tw rfl hll⟩
            (try simp only [ht])
            rw [show hasData Γ' x = hasData Γ x by unfold hasData; rw [hx], if_pos hdat, if_neg hs, if_pos hs2]; rfl
          · cases he
      · cases he
    · cases he
  · rename_i x y d hargs
    split at he
    · rename_i hf
      simp only [Option.some.injEq, Prod.mk.injEq] at he
      obtain ⟨rfl, rfl⟩ := he
      have hx := opd (x := x) hP (by simp +contextual [COp.rd])
      have hy := opd (x := y) hP (by simp +contextual [COp.rd])
      refine ⟨_, ?_, plain_tw rfl hll⟩
      rw [show fl2 Γ' x y = fl2 Γ x y by unfold fl2; rw [hx, hy], if_pos hf]; rfl
    · cases he
  · rename_i x y d hargs
    split at he
    · rename_i hf
      simp only [Option.some.injEq, Prod.mk.injEq] at he
      obtain ⟨rfl, rfl⟩ := he
      have hx := opd (x := x) hP (by simp +contextual [COp.rd])
      have hy := opd (x := y) hP (by simp +contextual [COp.rd])
      refine ⟨_, ?_, plain_tw rfl hll⟩
      rw [show fl2 Γ' x y = fl2 Γ x y by unfold fl2; rw [hx, hy], if_pos hf]; rfl
    · cases he
  · rename_i x y d hargs
    split at he
    · rename_i T T' hts
      split at he
      · rename_i hTT
        obtain ⟨Γ1', e1, tw⟩ := elabApp_tw he hll hP
        refine ⟨Γ1', ?_, tw⟩
        (try simp only [hts])
        rw [if_pos hTT]; exact e1
      · cases he
    · cases he
  · rename_i g
    split at he
    · rename_i sg hsg
      split at he
      · rename_i hmu
        exfalso
        split at he
        · rename_i d0
          unfold elabCallM at he
          split at he
          · split at he
            · split at he
              · split at he
                · split at he
                  · simp only [Option.some.injEq, Prod.mk.injEq] at he
                    rw [← he.1] at hm
                    cases hm
                  · cases he
                · cases he
              · cases he
            · cases he
          · cases he
        · cases he
      · rename_i hmu
        split at he
        · rename_i ss Γ2 hc
          simp only [Option.some.injEq, Prod.mk.injEq] at he
          obtain ⟨rfl, rfl⟩ := he
          obtain ⟨Γ1', e1, tw⟩ := elabCall_tw (c := .call _ g sg args.toList ss) hc hll (fun x hx y hy => hP y (mem_lv (cand_rd (by simp only [COp.rd]; exact List.mem_append_left _ (List.mem_flatMap.2 ⟨x, hx, hy⟩))))) (fun y hy => hP y (mem_lv (by simp only [COp.cand, COp.srcs]; exact List.mem_append_right _ hy))) rfl rfl rfl
          refine ⟨Γ1', ?_, tw⟩
          (try simp only [hsg])
          rw [if_neg hmu, e1]
        · cases he
    · cases he
  · rename_i t
    split at he
    · rename_i g sg nc hsg
      split at he
      · rename_i hkd
        split at he
        · rename_i ss Γ2 hc
          simp only [Option.some.injEq, Prod.mk.injEq] at he
          obtain ⟨rfl, rfl⟩ := he
          have hx := opd (x := .tmp t) hP (by simp +contextual [COp.rd])
          obtain ⟨Γ1', e1, tw⟩ := elabCall_tw (c := .callv _ (.tmp t) g nc sg args.toList ss) hc hll (fun x hx y hy => hP y (mem_lv (cand_rd (by simp only [COp.rd]; exact List.mem_append_left _ (List.mem_append_right _ (List.mem_flatMap.2 ⟨x, hx, hy⟩)))))) (fun y hy => hP y (mem_lv (by simp only [COp.cand, COp.srcs]; exact List.mem_append_right _ hy))) rfl rfl rfl
          refine ⟨Γ1', ?_, tw⟩
          (try simp only [hsg])
          rw [hx, if_pos hkd, e1]
        · cases he
      · cases he
    · cases he
  · cases he
end
end Go.Den
set_option autoImplicit false
namespace Go.Den

/-! ### Orders drawn: it is enough that no two operations that no order binds meddle with each other -/
def COp.isFail : COp → Bool
  | .fail => true
  | _ => false
theorem elabOp_tw {E : Env} {Γ Γ' Γ1 : List G} {c : COp} {o : Oper} (he : elabOp E Γ o = some (c, Γ1)) (hm : c.isM = false) (hf : c.isFail = false) (hll : Γ'.length = Γ.length) (hP2 : ∀ y ∈ lv Γ (lv Γ c.cand), P2 Γ Γ' y) : ∃ Γ1', elabOp E Γ' o = some (c, Γ1') ∧ Tw c.killable c.cand Γ Γ' Γ1 Γ1' := by
  have hP : ∀ y ∈ lv Γ c.cand, P2 Γ Γ' y := fun y hy => hP2 y (mem_lv hy)
  obtain ⟨dst, op, type, pos, after, guard⟩ := o
  unfold elabOp at he ⊢
  simp only at he ⊢
  split at he
  · rename_i d
    split at he
    · rename_i hd
      rw [hll, if_pos hd]
      split at he
      · exact elabCopy_tw he hll hP
      · exact elabCopy_tw he hll hP
      · rename_i k a b
        split at he
        · rename_i hfl
          simp only [Option.some.injEq, Prod.mk.injEq] at he
          obtain ⟨rfl, rfl⟩ := he
          have h1 := opd (x := k) hP (by simp +contextual [COp.rd])
          have h2 := opd (x := a) hP (by simp +contextual [COp.rd])
          have h3 := opd (x := b) hP (by simp +contextual [COp.rd])
          refine ⟨_, ?_, plain_tw rfl hll⟩
          rw [h1, show fl2 Γ' a b = fl2 Γ a b by unfold fl2; rw [h2, h3], if_pos hfl]; rfl
        · cases he
      · exact elabAlloc_tw he hll
      · exact elabBox_tw he hll hP
      · exact elabLit_tw he hll hP
      · rename_i T u
        split at he
        · rename_i t hk
          obtain ⟨Γ1', e1, tw⟩ := elabLoadE_tw he hll hP
          have hu : kdO Γ' u = kdO Γ u := by
            have he2 := he
            unfold elabLoadE at he2
            split at he2
            · rename_i u' t' n hT hk2
              refine kdO_tw fun y hy => hP y (mem_lv (cand_rd ?_))
              obtain ⟨fl, rfl⟩ : ∃ fl, c = .loadE d t' u' n fl := by
                repeat' split at he2
                all_goals first
                  | (simp only [Option.some.injEq, Prod.mk.injEq] at he2; exact ⟨_, he2.1.symm⟩)
                  | (cases he2; done)
              simp only [opS, List.mem_singleton] at hy
              subst hy
              simp [COp.rd]
            · cases he2
          refine ⟨Γ1', ?_, tw⟩
          rw [hu]
          simp only [hk]
          exact e1
        · rename_i hne
          obtain ⟨Γ1', e1, tw⟩ := elabLoadB_tw he hll hP
          have hu : kdO Γ' u = kdO Γ u := by
            have he2 := he
            unfold elabLoadB at he2
            split at he2
            · rename_i ck m n h1 h2
              refine kdO_tw fun y hy => hP y (mem_lv (cand_rd ?_))
              obtain ⟨fl, rfl⟩ : ∃ fl, c = .loadB d u n fl := by
                split at he2
                · simp only [Option.some.injEq, Prod.mk.injEq] at he2; exact ⟨_, he2.1.symm⟩
                · split at he2
                  · split at he2
                    · cases he2
                    · simp only [Option.some.injEq, Prod.mk.injEq] at he2; exact ⟨_, he2.1.symm⟩
                  · cases he2
              simp [COp.rd, hy]
            · cases he2
          refine ⟨Γ1', ?_, tw⟩
          rw [hu]
          split
          · rename_i t hk; exact absurd hk (hne t)
          · exact e1
      · rename_i u
        split at he
        · rename_i ck m hk
          simp only [Option.some.injEq, Prod.mk.injEq] at he
          obtain ⟨rfl, rfl⟩ := he
          have hu := opd (x := u) hP (by simp +contextual [COp.rd])
          refine ⟨setG none false d (.ptr ck m) Γ', by rw [hu, hk], ?_⟩
          exact plain_tw rfl hll
        · cases he
      · exact elabBin_tw he hll hP
      · rename_i op T x
        split at he
        · rename_i hfl
          simp only [Option.some.injEq, Prod.mk.injEq] at he
          obtain ⟨rfl, rfl⟩ := he
          have hx := opd (x := x) hP (by simp +contextual [COp.rd])
          refine ⟨_, ?_, plain_tw rfl hll⟩
          rw [hx, if_pos hfl]; rfl
        · cases he
      · exact elabConv_tw he hll hP
      · exact elabMkfn_tw he hll hP
      · exact elabMks_tw he hll hP
      · exact elabFadd_tw he hll hP
      · exact elabIadd_tw he hll hP
      · exact elabExt_tw he hll hP
      · exact elabSli_tw he hll hP
      · exact elabBuild_tw he hll hP
      · simp only [Option.some.injEq, Prod.mk.injEq] at he
        obtain ⟨rfl, rfl⟩ := he
        cases hf
      · simp only [Option.some.injEq, Prod.mk.injEq] at he
        obtain ⟨rfl, rfl⟩ := he
        cases hf
      · rename_i T x i
        split at he
        · rename_i hc
          simp only [Option.some.injEq, Prod.mk.injEq] at he
          obtain ⟨rfl, rfl⟩ := he
          have h1 := opd (x := x) hP (by simp +contextual [COp.rd])
          have h2 := opd (x := i) hP (by simp +contextual [COp.rd])
          refine ⟨_, ?_, plain_tw rfl hll⟩
          rw [show fl2 Γ' x i = fl2 Γ x i by unfold fl2; rw [h1, h2], if_pos hc]; rfl
        · cases he
      · exact elabCallOp_tw he hm hll hP
      · cases he
    · cases he
  · split at he
    · rename_i T u x
      split at he
      · rename_i t hk
        obtain ⟨Γ1', e1, tw⟩ := elabStoreE_tw he hll hP2
        have hu : kdO Γ' u = kdO Γ u := by
          have he2 := he
          unfold elabStoreE at he2
          split at he2
          · rename_i u' t' n hT hk2
            refine kdO_tw fun y hy => hP y (mem_lv (cand_rd ?_))
            obtain ⟨z, rfl⟩ : ∃ z, c = .storeE z u' n x := by
              split at he2
              · split at he2
                · simp only [Option.some.injEq, Prod.mk.injEq] at he2; exact ⟨_, he2.1.symm⟩
                · cases he2
              · cases he2
            simp only [opS, List.mem_singleton] at hy
            subst hy
            simp [COp.rd]
          · cases he2
        refine ⟨Γ1', ?_, tw⟩
        rw [hu]
        simp only [hk]
        exact e1
      · rename_i hne
        obtain ⟨Γ1', e1, tw⟩ := elabStoreB_tw he hll hP
        have hu : kdO Γ' u = kdO Γ u := by
          have he2 := he
          unfold elabStoreB at he2
          split at he2
          · rename_i ck mine n h1 h2
            refine kdO_tw fun y hy => hP y (mem_lv (cand_rd ?_))
            obtain ⟨src, rfl⟩ : ∃ src, c = .storeB u x n src := by
              split at he2
              · cases he2
              · split at he2
                · split at he2
                  · simp only [Option.some.injEq, Prod.mk.injEq] at he2; exact ⟨_, he2.1.symm⟩
                  · cases he2
                · split at he2
                  · cases he2
                  · split at he2
                    · simp only [Option.some.injEq, Prod.mk.injEq] at he2; exact ⟨_, he2.1.symm⟩
                    · cases he2
            simp [COp.rd, hy]
          · cases he2
        refine ⟨Γ1', ?_, tw⟩
        rw [hu]
        split
        · rename_i t hk; exact absurd hk (hne t)
        · exact e1
    · exact elabCallOp_tw he hm hll hP
    · simp only [Option.some.injEq, Prod.mk.injEq] at he
      obtain ⟨rfl, rfl⟩ := he
      exact ⟨Γ', rfl, (Tw.refl Γ Γ').mono (fun _ _ _ => rfl) (fun _ _ => by simp)⟩
    · cases he

def GOp.cand (g : GOp) : List Nat := g.cop.cand ++ g.d.toList ++ (match g.g with | some (j, _) => [j] | none => [])
def GOp.kill (g : GOp) (y : Nat) (k : G) : Bool := g.cop.killable y k || dK g.d k

theorem elabG_out {E : Env} {Γ Γ1 : List G} {os : List Oper} {o : Oper} {g : GOp} (he : elabG E os Γ o = some (g, Γ1)) : elabOp E Γ o = some (g.cop, Γ1) ∧ g.d = o.dst := by
  unfold elabG at he
  split at he
  · cases he
  · rename_i cop Γ2 hop
    split at he
    · simp only [Option.some.injEq, Prod.mk.injEq] at he
      obtain ⟨rfl, rfl⟩ := he
      exact ⟨hop, rfl⟩
    · split at he
      · cases he
      · split at he
        · simp only [Option.some.injEq, Prod.mk.injEq] at he
          obtain ⟨rfl, rfl⟩ := he
          exact ⟨hop, rfl⟩
        · cases he

theorem elabG_tw {E : Env} {Γ Γ' Γ1 : List G} {os : List Oper} {o : Oper} {g : GOp} (he : elabG E os Γ o = some (g, Γ1)) (hm : g.cop.isM = false) (hf : g.cop.isFail = false) (hll : Γ'.length = Γ.length) (hP2 : ∀ y ∈ lv Γ (lv Γ g.cand), P2 Γ Γ' y)
    (hN : ∀ y, y ∉ g.cand → ¬ P2 Γ Γ' y → g.kill y (Γ'.getD y .dead) = false) : ∃ Γ1', elabG E os Γ' o = some (g, Γ1') ∧ Tw g.kill g.cand Γ Γ' Γ1 Γ1' := by
  have sub : ∀ l l' : List Nat, (∀ y ∈ l, y ∈ l') → ∀ y ∈ lv Γ l, y ∈ lv Γ l' := fun l l' h y hy => by
    simp only [lv, List.mem_append, List.mem_flatMap] at hy ⊢
    rcases hy with hy | ⟨z, hz, hy⟩
    · exact .inl (h y hy)
    · exact .inr ⟨z, h z hz, hy⟩
  obtain ⟨hop, hgd⟩ := elabG_out he
  have hcc : ∀ y ∈ g.cop.cand, y ∈ g.cand := fun y hy => by simp [GOp.cand, hy]
  obtain ⟨Γ1', e1, tw⟩ := elabOp_tw hop hm hf hll fun y hy => hP2 y (sub _ _ (sub _ _ hcc) y hy)
  have tw' : Tw g.kill g.cand Γ Γ' Γ1 Γ1' := tw.mono (fun y k h => by simp only [GOp.kill, Bool.or_eq_false_iff] at h; exact h.1) (fun y hy h => hy (hcc y h))
  have hPc : ∀ y ∈ g.cand, P2 Γ Γ' y := fun y hy => hP2 y (mem_lv (mem_lv hy))
  unfold elabG at he ⊢
  rw [hop] at he
  rw [e1]
  simp only at he ⊢
  split at he
  · rename_i hgu
    simp only [Option.some.injEq, Prod.mk.injEq, and_true] at he
    refine ⟨Γ1', ?_, tw'⟩
    (try simp only [hgu])
    rw [he]
  · rename_i j b hgu
    (try simp only [hgu])
    split at he
    · cases he
    · rename_i dj hdj
      (try simp only [hdj])
      split at he
      · rename_i hc
        simp only [Option.some.injEq, Prod.mk.injEq, and_true] at he
        have hgg : g.g = some (dj, b) := by rw [← he]
        have hdj2 : kdO Γ' (.tmp dj) = kdO Γ (.tmp dj) := (hPc dj (by simp [GOp.cand, hgg])).1
        have hfl : ∀ d, o.dst = some d → Γ1'.getD d .dead = Γ1.getD d .dead := fun d hd => (tw'.pt d (hPc d (by simp [GOp.cand, hgd, hd]))).1
        have hlen : Γ1.length = Γ1'.length := by rw [tw'.len, tw'.len', hll]
        have hskip : skipOk o.dst Γ' Γ1' = true := by
          have h2 := hc.2.1
          unfold skipOk at h2 ⊢
          cases hd : o.dst with
          | none =>
            rw [hd] at h2
            simp only at h2 ⊢
            rw [leG_iff] at h2 ⊢
            refine ⟨tw'.len'.symm, fun y hy => ?_⟩
            by_cases this : P2 Γ Γ' y
            · rw [this.1, (tw'.pt y this).1]
              exact h2.2 y (by omega)
            · have hyc : y ∉ g.cand := fun h => this (hPc y h)
              rw [tw'.keep' y hyc (hN y hyc this)]
              exact G.le_refl _
          | some d =>
            rw [hd] at h2
            simp only at h2 ⊢
            rw [leG_iff] at h2 ⊢
            refine ⟨by rw [setG_len]; exact tw'.len'.symm, fun y hy => ?_⟩
            rw [setG_len] at hy
            rw [hfl d hd]
            by_cases this : P2 Γ Γ' y
            · have h3 := h2.2 y (by rw [setG_len]; omega)
              rw [setG_getD] at h3 ⊢
              rw [this.1, (tw'.pt y this).1, hll]
              exact h3
            · have hyc : y ∉ g.cand := fun h => this (hPc y h)
              have hn := hN y hyc this
              rw [tw'.keep' y hyc hn, setG_getD]
              have hyd : y ≠ d := by rintro rfl; exact hyc (by simp [GOp.cand, hgd, hd])
              rw [if_neg (by simp [hyd])]
              have : depsB d (Γ'.getD y .dead) = false := by
                simp only [GOp.kill, Bool.or_eq_false_iff] at hn
                have := hn.2
                rwa [hgd, hd] at this
              rw [this]
              exact G.le_refl _
        refine ⟨Γ1', ?_, tw'⟩
        rw [hdj2, if_pos ⟨hc.1, hskip, by rw [hll]; exact hc.2.2⟩]
        rw [← he]
        cases hd : o.dst with
        | none => rfl
        | some d => simp only [hfl d hd]
      · cases he

/-! ### The look at a region -/
structure St where
  g : GOp
  b : List G
  a : List G
def traceL (E : Env) (ops : List Oper) : List Oper → List G → Option (List St × List G)
  | [], Γ => some ([], Γ)
  | o :: os, Γ => match elabG E ops Γ o with
    | none => none
    | some (g, Γ1) => match traceL E ops os Γ1 with
      | none => none
      | some (l, Γ2) => some (⟨g, Γ, Γ1⟩ :: l, Γ2)
/-- The operations that must come before, as bits. -/
def ancO (acc : List Nat) (o : Oper) : Nat := o.after.toList.foldl (fun m e => if Region.binds .any e then m ||| (1 <<< e.on) ||| acc.getD e.on 0 else m) 0
def ancs : List Oper → List Nat → List Nat
  | [], acc => acc
  | o :: os, acc => ancs os (acc ++ [ancO acc o])
def predsOk : List Oper → Nat → Bool
  | [], _ => true
  | o :: os, i => (o.after.toList.all fun e => !Region.binds .any e || decide (e.on < i)) && predsOk os (i + 1)
def diffL : List G → List G → Nat → List Nat
  | a :: as, b :: bs, y => if a = b then diffL as bs (y + 1) else y :: diffL as bs (y + 1)
  | _, _, _ => []
/-- What an operation changes. -/
def modL (s : St) : List Nat := diffL s.a s.b 0
def cand2 (s : St) : List Nat := s.g.cand ++ modL s
def relL (s : St) : List Nat := lv s.b (lv s.b (lv s.b (cand2 s)))
def disj (l l' : List Nat) : Bool := l.all fun x => !l'.contains x
def free (s t : St) : Bool :=
  (match t.g.cop.dst with | some y => !(s.g.rd.contains y || s.g.cop.dst == some y) | none => true) && (match s.g.cop.dst with | some y => !(t.g.rd.contains y) | none => true) && s.g.cop.still && t.g.cop.still && disj (relL s) (modL t) && disj (relL t) (modL s)
/-- s against those before it. -/
def freeAll (s : St) (anc : Nat) : List St → Nat → Bool
  | [], _ => true
  | t :: ts, j => (anc.testBit j || free s t) && freeAll s anc ts (j + 1)
def pairsOk (all : List St) : List St → List Nat → Nat → Bool
  | [], _, _ => true
  | s :: ss, a :: as, i => freeAll s a (all.take i) 0 && pairsOk all ss as (i + 1)
  | _ :: _, [], _ => false
def noBal (s : St) : Bool := (lv s.b (lv s.b (cand2 s))).all fun y => match s.b.getD y .dead with
  | .bal v _ => (match s.b.getD v .dead with | .bal _ _ => false | _ => true)
  | _ => true
def quietAt (s : St) (y : Nat) (k : G) : Bool := !s.g.kill y k || (cand2 s).contains y
/-- Written by one of those that come before. -/
def covered (anc y : Nat) : List St → Nat → Bool
  | [], _ => false
  | t :: ts, j => (anc.testBit j && (modL t).contains y) || covered anc y ts (j + 1)
def quiet0 (all : List St) (s : St) (anc : Nat) : List G → Nat → Bool
  | [], _ => true
  | k :: ks, y => (quietAt s y k || covered anc y all 0) && quiet0 all s anc ks (y + 1)
def quiet1 (s : St) (anc i : Nat) : List St → List Nat → Nat → Bool
  | t :: ts, a :: as, j => (a.testBit i || (modL t).all fun y => quietAt s y (t.a.getD y .dead) || covered anc y ts (j + 1)) && quiet1 s anc i ts as (j + 1)
  | [], _, _ => true
  | _ :: _, [], _ => false
def quiet (all : List St) (as : List Nat) (Γ0 : List G) : List St → List Nat → Nat → Bool
  | s :: ss, a :: rest, i => quiet0 all s a Γ0 0 && quiet1 s a i all as 0 && quiet all as Γ0 ss rest (i + 1)
  | [], _, _ => true
  | _ :: _, [], _ => false
def drawOk (os : List Oper) (Γ0 : List G) (tr : List St) : Bool :=
  predsOk os 0 && pairsOk tr tr (ancs os []) 0 && tr.all (fun s => noBal s && !s.g.cop.isFail && s.a.length == s.b.length) && quiet tr (ancs os []) Γ0 tr (ancs os []) 0
def elabDraw (E : Env) (os : List Oper) (Γ : List G) : Option (List GOp × List G) :=
  match traceL E os os Γ with
  | some (tr, Γ') => if statOk (tr.map (·.g)) Γ.length = true ∧ drawOk os Γ tr = true then some (tr.map (·.g), Γ') else none
  | none => none
end Go.Den
set_option autoImplicit false
namespace Go.Den

/-! ### The look is enough -/
theorem traceL_get {E : Env} {ops : List Oper} : ∀ {os : List Oper} {Γ Γ' : List G} {tr : List St}, traceL E ops os Γ = some (tr, Γ') →
    tr.length = os.length ∧ (∀ (i : Nat) (s : St), tr[i]? = some s → ∃ o, os[i]? = some o ∧ elabG E ops s.b o = some (s.g, s.a)) ∧ (∀ (i : Nat) (s t : St), tr[i]? = some s → tr[i + 1]? = some t → t.b = s.a) ∧ (∀ s : St, tr[0]? = some s → s.b = Γ) ∧ (∀ s : St, tr[os.length - 1]? = some s → s.a = Γ') ∧ (os = [] → Γ' = Γ)
  | [], Γ, Γ', tr, h => by
    simp only [traceL, Option.some.injEq, Prod.mk.injEq] at h
    obtain ⟨rfl, rfl⟩ := h
    simp
  | o :: os, Γ, Γ', tr, h => by
    simp only [traceL] at h
    split at h
    · cases h
    · rename_i g Γ1 h1
      split at h
      · cases h
      · rename_i l Γ2 h2
        simp only [Option.some.injEq, Prod.mk.injEq] at h
        obtain ⟨rfl, rfl⟩ := h
        obtain ⟨a1, a2, a3, a4, a5, a6⟩ := traceL_get h2
        refine ⟨by simp [a1], fun i s hs => ?_, fun i s t hs ht => ?_, fun s hs => ?_, fun s hs => ?_, fun hx => by cases hx⟩
        · cases i with
          | zero => simp only [List.getElem?_cons_zero, Option.some.injEq] at hs; subst hs; exact ⟨o, rfl, h1⟩
          | succ i => exact a2 i s (by simpa using hs)
        · cases i with
          | zero =>
            simp only [List.getElem?_cons_zero, Option.some.injEq] at hs
            subst hs
            exact a4 t (by simpa using ht)
          | succ i => exact a3 i s t (by simpa using hs) (by simpa using ht)
        · simp only [List.getElem?_cons_zero, Option.some.injEq] at hs; subst hs; rfl
        · cases os with
          | nil =>
            have hl : l = [] := List.length_eq_zero_iff.1 (by simpa using a1)
            subst hl
            simp at hs
            subst hs
            exact (a6 rfl).symm
          | cons o2 os2 =>
            simp only [List.length_cons, Nat.add_sub_cancel, List.getElem?_cons_succ] at hs
            exact a5 s (by simpa using hs)

def modF (tr : List St) (i y : Nat) : Option G := match tr[i]? with
  | some s => if (modL s).contains y then some (s.a.getD y .dead) else none
  | none => none
/-- A slot's kind behind those of the first operations that a set names. -/
def kat (tr : List St) (Γ0 : List G) (m : Nat) : Nat → Nat → G
  | 0, y => Γ0.getD y .dead
  | j + 1, y => if m.testBit j then (match modF tr j y with | some g => g | none => kat tr Γ0 m j y) else kat tr Γ0 m j y

section
variable {tr : List St} {Γ0 : List G}
theorem kat_same {m m' y : Nat} : ∀ {k : Nat}, (∀ j, j < k → modF tr j y ≠ none → m.testBit j = m'.testBit j) → kat tr Γ0 m k y = kat tr Γ0 m' k y
  | 0, _ => rfl
  | k + 1, h => by
    have ih := kat_same (k := k) fun j hj => h j (by omega)
    simp only [kat]
    cases hm : modF tr k y with
    | none => simp [ih]
    | some g => rw [h k (by omega) (by rw [hm]; simp), ih]
theorem kat_stop {m i y : Nat} : ∀ {n : Nat}, i ≤ n → (∀ j, i ≤ j → j < n → modF tr j y ≠ none → m.testBit j = false) → kat tr Γ0 m n y = kat tr Γ0 m i y
  | 0, hi, _ => by rw [Nat.le_zero.1 hi]
  | n + 1, hi, h => by
    by_cases he : i = n + 1
    · rw [he]
    · have ih := kat_stop (n := n) (by omega) fun j h1 h2 => h j h1 (by omega)
      simp only [kat]
      cases hm : modF tr n y with
      | none => simp [ih]
      | some g => rw [h n (by omega) (by omega) (by rw [hm]; simp)]; simp [ih]
theorem kat_add {m i n y : Nat} (hi : i < n) (hp : m.testBit i = false) (h : modF tr i y ≠ none → ∀ j, j < n → j ≠ i → modF tr j y ≠ none → m.testBit j = decide (j < i)) :
    kat tr Γ0 (m ||| 1 <<< i) n y = match modF tr i y with | some g => g | none => kat tr Γ0 m n y := by
  cases hm : modF tr i y with
  | none =>
    refine kat_same fun j _ hj => ?_
    rw [testBit_or]
    have : j ≠ i := by rintro rfl; exact hj hm
    simp [this]
  | some g =>
    have h' := h (by rw [hm]; simp)
    rw [kat_stop (i := i + 1) (by omega) fun j h1 h2 h3 => by
      rw [testBit_or, h' j h2 (by omega) h3]; simp; omega]
    simp only [kat, testBit_or, beq_self_eq_true, Bool.true_or, if_true, hm]

theorem ancO_bit {acc : List Nat} {o : Oper} {j : Nat} : (ancO acc o).testBit j = true ↔ ∃ e ∈ o.after.toList, Region.binds .any e = true ∧ (j = e.on ∨ (acc.getD e.on 0).testBit j = true) := by
  have key : ∀ (l : List Edge) (m0 : Nat), (l.foldl (fun m e => if Region.binds .any e then m ||| (1 <<< e.on) ||| acc.getD e.on 0 else m) m0).testBit j = true ↔ m0.testBit j = true ∨ ∃ e ∈ l, Region.binds .any e = true ∧ (j = e.on ∨ (acc.getD e.on 0).testBit j = true) := by
    intro l
    induction l with
    | nil => intro m0; simp
    | cons e l ih =>
      intro m0
      rw [List.foldl_cons, ih]
      by_cases hb : Region.binds .any e = true
      · rw [if_pos hb, Nat.testBit_or, testBit_or]
        simp only [Bool.or_eq_true, beq_iff_eq, List.mem_cons, exists_eq_or_imp, hb, true_and]
        grind
      · rw [if_neg hb]
        simp [hb]
  unfold ancO
  rw [key]
  simp
theorem ancs_get : ∀ {os : List Oper} {acc : List Nat} {i : Nat} {o : Oper}, os[i]? = some o → ∃ acc', acc'.length = acc.length + i ∧ (ancs os acc)[acc.length + i]? = some (ancO acc' o) ∧ (∀ k, k < acc'.length → (ancs os acc)[k]? = acc'[k]?)
  | [], _, _, _, h => by simp at h
  | o1 :: os, acc, i, o, h => by
    have pre : ∀ {os : List Oper} {acc : List Nat} {k : Nat}, k < acc.length → (ancs os acc)[k]? = acc[k]? := by
      intro os
      induction os with
      | nil => intro acc k _; rfl
      | cons o os ih =>
        intro acc k hk
        simp only [ancs]
        rw [ih (by simp; omega), List.getElem?_append_left hk]
    cases i with
    | zero =>
      simp only [List.getElem?_cons_zero, Option.some.injEq] at h
      subst h
      refine ⟨acc, rfl, ?_, fun k hk => pre hk⟩
      simp only [ancs, Nat.add_zero]
      rw [pre (by simp)]
      simp
    | succ i =>
      simp only [List.getElem?_cons_succ] at h
      obtain ⟨acc', h1, h2, h3⟩ := ancs_get (acc := acc ++ [ancO acc o1]) h
      refine ⟨acc', by rw [h1]; simp; omega, ?_, fun k hk => h3 k hk⟩
      simp only [ancs]
      rw [show acc.length + (i + 1) = (acc ++ [ancO acc o1]).length + i by simp; omega]
      exact h2
theorem predsOk_get : ∀ {os : List Oper} {i0 i : Nat} {o : Oper}, predsOk os i0 = true → os[i]? = some o → ∀ e ∈ o.after.toList, Region.binds .any e = true → e.on < i0 + i
  | [], _, _, _, _, h => by simp at h
  | o1 :: os, i0, i, o, hp, h => by
    simp only [predsOk, Bool.and_eq_true, List.all_eq_true, Bool.or_eq_true, Bool.not_eq_true', decide_eq_true_eq] at hp
    cases i with
    | zero =>
      simp only [List.getElem?_cons_zero, Option.some.injEq] at h
      subst h
      exact fun e he hb => (hp.1 e he).resolve_left (by simp [hb])
    | succ i =>
      intro e he hb
      have := predsOk_get hp.2 (by simpa using h) e he hb
      omega
theorem freeAll_get {s : St} {a : Nat} : ∀ {l : List St} {j0 j : Nat} {t : St}, freeAll s a l j0 = true → l[j]? = some t → a.testBit (j0 + j) = true ∨ free s t = true
  | [], _, _, _, _, h => by simp at h
  | t1 :: l, j0, j, t, hf, h => by
    simp only [freeAll, Bool.and_eq_true, Bool.or_eq_true] at hf
    cases j with
    | zero => simp only [List.getElem?_cons_zero, Option.some.injEq] at h; subst h; exact hf.1
    | succ j =>
      have := freeAll_get hf.2 (by simpa using h)
      rwa [show j0 + 1 + j = j0 + (j + 1) by omega] at this
theorem pairsOk_get {all : List St} : ∀ {l : List St} {as : List Nat} {i0 i : Nat} {s : St}, pairsOk all l as i0 = true → l[i]? = some s → ∃ a, as[i]? = some a ∧ freeAll s a (all.take (i0 + i)) 0 = true
  | [], _, _, _, _, _, h => by simp at h
  | s1 :: l, [], _, _, _, hp, _ => by simp [pairsOk] at hp
  | s1 :: l, a1 :: as, i0, i, s, hp, h => by
    simp only [pairsOk, Bool.and_eq_true] at hp
    cases i with
    | zero => simp only [List.getElem?_cons_zero, Option.some.injEq] at h; subst h; exact ⟨a1, rfl, hp.1⟩
    | succ i =>
      obtain ⟨a, h1, h2⟩ := pairsOk_get hp.2 (by simpa using h)
      exact ⟨a, h1, by rwa [show i0 + 1 + i = i0 + (i + 1) by omega] at h2⟩
theorem covered_get {anc y : Nat} : ∀ {l : List St} {j0 : Nat}, covered anc y l j0 = true → ∃ j t, l[j]? = some t ∧ anc.testBit (j0 + j) = true ∧ y ∈ modL t
  | [], _, h => by cases h
  | t :: l, j0, h => by
    simp only [covered, Bool.or_eq_true, Bool.and_eq_true] at h
    rcases h with ⟨h1, h2⟩ | h
    · exact ⟨0, t, rfl, h1, by simpa using h2⟩
    · obtain ⟨j, t', h1, h2, h3⟩ := covered_get h
      exact ⟨j + 1, t', by simpa using h1, by rwa [show j0 + (j + 1) = j0 + 1 + j by omega], h3⟩
theorem quiet0_get {all : List St} {s : St} {a : Nat} : ∀ {l : List G} {y0 y : Nat} {k : G}, quiet0 all s a l y0 = true → l[y]? = some k → quietAt s (y0 + y) k = true ∨ covered a (y0 + y) all 0 = true
  | [], _, _, _, _, h => by simp at h
  | k1 :: l, y0, y, k, hq, h => by
    simp only [quiet0, Bool.and_eq_true, Bool.or_eq_true] at hq
    cases y with
    | zero => simp only [List.getElem?_cons_zero, Option.some.injEq] at h; subst h; exact hq.1
    | succ y =>
      have := quiet0_get hq.2 (by simpa using h)
      rwa [show y0 + 1 + y = y0 + (y + 1) by omega] at this
theorem quiet1_get {s : St} {i anc : Nat} : ∀ {l : List St} {as : List Nat} {j0 j : Nat} {t : St}, quiet1 s anc i l as j0 = true → l[j]? = some t → (as.getD j 0).testBit i = true ∨ ∀ y ∈ modL t, quietAt s y (t.a.getD y .dead) = true ∨ ∃ j' t', j < j' ∧ l[j']? = some t' ∧ anc.testBit (j0 + j') = true ∧ y ∈ modL t'
  | [], _, _, _, _, _, h => by simp at h
  | t1 :: l, [], _, _, _, hq, _ => by simp [quiet1] at hq
  | t1 :: l, a :: as, j0, j, t, hq, h => by
    simp only [quiet1, Bool.and_eq_true, Bool.or_eq_true, List.all_eq_true] at hq
    cases j with
    | zero =>
      simp only [List.getElem?_cons_zero, Option.some.injEq] at h; subst h
      refine hq.1.imp id fun hq y hy => (hq y hy).imp id fun hc => ?_
      obtain ⟨j', t', h1, h2, h3⟩ := covered_get hc
      exact ⟨j' + 1, t', by omega, by simpa using h1, by rwa [show j0 + (j' + 1) = j0 + 1 + j' by omega], h3⟩
    | succ j =>
      have := quiet1_get (l := l) (j := j) hq.2 (by simpa using h)
      refine Or.imp (fun h => by simpa using h) (fun hq y hy => (hq y hy).imp id fun hc => ?_) this
      obtain ⟨j', t', h1, h2, h3, h4⟩ := hc
      exact ⟨j' + 1, t', by omega, by simpa using h2, by rwa [show j0 + (j' + 1) = j0 + 1 + j' by omega], h4⟩
theorem quiet_get {all : List St} {as : List Nat} {Γ0 : List G} : ∀ {l : List St} {rest : List Nat} {i0 i : Nat} {s : St}, quiet all as Γ0 l rest i0 = true → l[i]? = some s → quiet0 all s (rest.getD i 0) Γ0 0 = true ∧ quiet1 s (rest.getD i 0) (i0 + i) all as 0 = true
  | [], _, _, _, _, _, h => by simp at h
  | s1 :: l, [], _, _, _, hq, _ => by simp [quiet] at hq
  | s1 :: l, a :: rest, i0, i, s, hq, h => by
    simp only [quiet, Bool.and_eq_true] at hq
    cases i with
    | zero => simp only [List.getElem?_cons_zero, Option.some.injEq] at h; subst h; exact ⟨hq.1.1, hq.1.2⟩
    | succ i =>
      have := quiet_get hq.2 (by simpa using h)
      rw [show i0 + (i + 1) = i0 + 1 + i by omega]
      exact this
theorem diffL_mem : ∀ {as bs : List G} {y0 y : Nat}, as.length = bs.length → (y ∈ diffL as bs y0 ↔ y0 ≤ y ∧ as.getD (y - y0) .dead ≠ bs.getD (y - y0) .dead)
  | [], [], y0, y, _ => by simp [diffL]
  | [], _ :: _, _, _, h => by simp at h
  | _ :: _, [], _, _, h => by simp at h
  | a :: as, b :: bs, y0, y, h => by
    have ih := diffL_mem (as := as) (bs := bs) (y0 := y0 + 1) (y := y) (by simpa using h)
    simp only [diffL]
    by_cases hy : y = y0
    · subst hy
      have hno : ¬ y ∈ diffL as bs (y + 1) := fun hx => by have := (ih.1 hx).1; omega
      split
      · rename_i hab; simp [hno, hab]
      · rename_i hab; simp [hab]
    · by_cases hlt : y0 < y
      · have e : y - y0 = (y - (y0 + 1)) + 1 := by omega
        rw [e]
        simp only [List.getD_cons_succ]
        split
        · rw [ih]; constructor
          · rintro ⟨_, h2⟩; exact ⟨by omega, h2⟩
          · rintro ⟨_, h2⟩; exact ⟨by omega, h2⟩
        · rw [List.mem_cons, ih]; constructor
          · rintro (h1 | ⟨_, h2⟩)
            · exact absurd h1 hy
            · exact ⟨by omega, h2⟩
          · rintro ⟨_, h2⟩; exact .inr ⟨by omega, h2⟩
      · have hno : ¬ y ∈ diffL as bs (y0 + 1) := fun hx => by have := (ih.1 hx).1; omega
        split
        · constructor
          · intro hx; exact absurd hx hno
          · rintro ⟨h1, _⟩; omega
        · rw [List.mem_cons]; constructor
          · rintro (h1 | h1)
            · exact absurd h1 hy
            · exact absurd h1 hno
          · rintro ⟨h1, _⟩; omega
theorem kill_dead (g : GOp) (y : Nat) : g.kill y .dead = false := by
  have hk : ∀ s : Src, ks y .dead s = false := fun s => by cases s <;> rfl
  have hd : ∀ d, dK d .dead = false := fun d => by cases d <;> rfl
  have hx : ∀ x, xK x y .dead = false := fun x => by cases x <;> rfl
  simp [GOp.kill, COp.killable, hd, hx, hk, kills]
theorem disj_not {l l' : List Nat} {x : Nat} (h : disj l l' = true) (h1 : x ∈ l) (h2 : x ∈ l') : False := by
  simp only [disj, List.all_eq_true, Bool.not_eq_true'] at h
  have := h x h1
  simp [h2] at this
end

section
variable {X : Cx} {L0 : Nat → Lab} {w0 : World} {K : KV} {Q : Exit → Act → World → Prop} {E : Env} {Tb : Nat → Rel}

theorem drawOk_inv {ops : List Oper} {tr : List St} {Γ0 Γf : List G} (htr : traceL E ops ops Γ0 = some (tr, Γf)) (hok : drawOk ops Γ0 tr = true) (hM : ∀ s ∈ tr, s.g.cop.isM = false) :
    ∃ Inv : Nat → Ent → Prop, Inv ops.length (0, Γ0) ∧ (∀ e, Inv 0 e → (∀ i, i < ops.length → e.1.testBit i = true) ∧ e.2 = Γf) ∧ (∀ k e, Inv (k + 1) e → ∃ i, i < ops.length ∧ readyM ops e.1 i = true) ∧
      (∀ k e i, Inv (k + 1) e → i < ops.length → readyM ops e.1 i = true → ∃ o g Γ', ops[i]? = some o ∧ (tr.map (·.g))[i]? = some g ∧ elabG E ops e.2 o = some (g, Γ') ∧ condC (tr.map (·.g)) e.1 i g = true ∧ Inv k (e.1 ||| 1 <<< i, Γ')) := by
  obtain ⟨t1, t2, t3, t4, t5, t6⟩ := traceL_get htr
  simp only [drawOk, Bool.and_eq_true, List.all_eq_true] at hok
  obtain ⟨⟨⟨hpre, hpair⟩, hall⟩, hquiet⟩ := hok
  let n := ops.length
  have hn : tr.length = n := t1
  let anc : Nat → Nat := fun i => (ancs ops []).getD i 0
  -- the order
  have ancB : ∀ (i : Nat) (o : Oper), ops[i]? = some o → ∀ j, (anc i).testBit j = true → ∃ e ∈ o.after.toList, Region.binds .any e = true ∧ (j = e.on ∨ (anc e.on).testBit j = true) := by
    intro i o ho j hj
    obtain ⟨acc', h1, h2, h3⟩ := ancs_get (acc := []) ho
    simp only [List.length_nil, Nat.zero_add] at h1 h2
    have : anc i = ancO acc' o := by simp only [anc, List.getD_eq_getElem?_getD, h2]; rfl
    rw [this] at hj
    obtain ⟨e, he, hb, hx⟩ := ancO_bit.1 hj
    refine ⟨e, he, hb, hx.imp id fun hx => ?_⟩
    have hlt := predsOk_get hpre ho e he hb
    have : anc e.on = acc'.getD e.on 0 := by simp only [anc, List.getD_eq_getElem?_getD]; rw [h3 e.on (by omega)]
    rw [this]; exact hx
  -- pairs
  have pair : ∀ (i j : Nat) (s t : St), tr[i]? = some s → tr[j]? = some t → j < i → (anc i).testBit j = true ∨ free s t = true := by
    intro i j s t hs ht hji
    obtain ⟨a, h1, h2⟩ := pairsOk_get hpair hs
    rw [Nat.zero_add] at h2
    have h3 := freeAll_get h2 (j := j) (t := t) (by rw [List.getElem?_take, if_pos hji]; exact ht)
    rw [Nat.zero_add] at h3
    have : anc i = a := by simp only [anc, List.getD_eq_getElem?_getD, h1]; rfl
    rw [this]; exact h3
  have hmodrel : ∀ s : St, ∀ y ∈ modL s, y ∈ relL s := fun s y hy => mem_lv (mem_lv (mem_lv (List.mem_append_right _ hy)))
  -- the kinds that may be met
  let Poss : Nat → Nat → Nat → G → Prop := fun m q y k => (k = Γ0.getD y .dead ∧ ∀ j, j < q → m.testBit j = true → modF tr j y = none) ∨ ∃ (j : Nat) (s : St), j < q ∧ m.testBit j = true ∧ tr[j]? = some s ∧ y ∈ modL s ∧ k = s.a.getD y .dead ∧ ∀ j', j < j' → j' < q → m.testBit j' = true → modF tr j' y = none
  have katP : ∀ m q y, Poss m q y (kat tr Γ0 m q y) := by
    intro m q y
    induction q with
    | zero => exact .inl ⟨rfl, fun j hj => absurd hj (by omega)⟩
    | succ q ih =>
      simp only [kat]
      have next : (m.testBit q = true → modF tr q y = none) → Poss m (q + 1) y (kat tr Γ0 m q y) := by
        intro hq
        rcases ih with ⟨h1, h2⟩ | ⟨j, s, h1, h2⟩
        · exact .inl ⟨h1, fun j hj hb => by
            by_cases he : j = q
            · subst he; exact hq hb
            · exact h2 j (by omega) hb⟩
        · obtain ⟨b1, b2, b3, b4, b5⟩ := h2
          exact .inr ⟨j, s, by omega, b1, b2, b3, b4, fun j' h1 h2 hb => by
            by_cases he : j' = q
            · subst he; exact hq hb
            · exact b5 j' h1 (by omega) hb⟩
      split
      · rename_i hb
        cases hm : modF tr q y with
        | none => exact next fun _ => hm
        | some g =>
          unfold modF at hm
          cases hs : tr[q]? with
          | none => rw [hs] at hm; cases hm
          | some s =>
            rw [hs] at hm
            simp only at hm
            split at hm
            · rename_i hc
              injection hm with hm
              exact .inr ⟨q, s, by omega, hb, hs, by simpa using hc, hm.symm, fun j' h1 h2 => absurd h1 (by omega)⟩
            · cases hm
      · rename_i hb; exact next fun h => absurd h hb
  -- a set that holds what must come before i, and nothing that must come behind
  let Fit : Nat → Nat → Nat → Prop := fun m q i => (∀ j, (anc i).testBit j = true → j < q ∧ m.testBit j = true) ∧ ∀ j, j < q → m.testBit j = true → (anc j).testBit i = false
  have quietP : ∀ (i : Nat) (s : St), tr[i]? = some s → ∀ m q, Fit m q i → ∀ y k, y ∉ cand2 s → Poss m q y k → s.g.kill y k = false := by
    intro i s hs m q hfit y k hy hp
    obtain ⟨q0, q1⟩ := quiet_get hquiet hs
    rw [Nat.zero_add] at q1
    have fin : quietAt s y k = true → s.g.kill y k = false := fun h => by
      simp only [quietAt, Bool.or_eq_true, Bool.not_eq_true'] at h
      rcases h with h | h
      · exact h
      · exact absurd (by simpa using h) hy
    rcases hp with ⟨rfl, hno⟩ | ⟨j, t, hj, hbj, ht, hyt, rfl, hlast⟩
    · by_cases hyl : y < Γ0.length
      · have := quiet0_get q0 (y := y) (k := Γ0[y]) (List.getElem?_eq_getElem hyl)
        rw [Nat.zero_add] at this
        rcases this with h | h
        · refine fin ?_
          rw [List.getD_eq_getElem?_getD, List.getElem?_eq_getElem hyl]
          exact h
        · exfalso
          obtain ⟨j, t, h1, h2, h3⟩ := covered_get h
          rw [Nat.zero_add] at h2
          obtain ⟨f1, f2⟩ := hfit.1 j h2
          have := hno j f1 f2
          unfold modF at this
          rw [h1] at this
          simp only at this
          rw [if_pos (by simpa using h3)] at this
          cases this
      · rw [List.getD_eq_getElem?_getD, List.getElem?_eq_none (by omega)]; exact kill_dead _ _
    · rcases quiet1_get q1 ht with h | h
      · have := hfit.2 j hj hbj
        exact absurd h (by rw [show (ancs ops []).getD j 0 = anc j from rfl, this]; simp)
      · rcases h y hyt with h | ⟨j', t', h1, h2, h3, h4⟩
        · exact fin h
        · exfalso
          rw [Nat.zero_add] at h3
          obtain ⟨f1, f2⟩ := hfit.1 j' h3
          have := hlast j' h1 f1 f2
          unfold modF at this
          rw [h2] at this
          simp only at this
          rw [if_pos (by simpa using h4)] at this
          cases this
  have nobal : ∀ (i : Nat) (s : St), tr[i]? = some s → ∀ y ∈ lv s.b (lv s.b (cand2 s)), ∀ v nn, s.b.getD y .dead = .bal v nn → ∀ v' n', s.b.getD v .dead ≠ .bal v' n' := by
    intro i s hs y hy v nn hv v' n' hb
    have := (hall s (List.mem_of_getElem? hs)).1.1
    simp only [noBal, List.all_eq_true] at this
    have := this y hy
    rw [hv] at this
    simp only [hb] at this
    cases this
  -- one operation, wherever its slots agree
  have hlenT : ∀ (i : Nat) (s : St), tr[i]? = some s → s.a.length = s.b.length := by
    intro i s hs
    have := (hall s (List.mem_of_getElem? hs)).2
    simpa using this
  have modIff : ∀ (i : Nat) (s : St), tr[i]? = some s → ∀ y, y ∈ modL s ↔ s.a.getD y .dead ≠ s.b.getD y .dead := fun i s hs y => by
    unfold modL
    rw [diffL_mem (hlenT i s hs)]
    simp
  have stepG : ∀ (i : Nat) (s : St) (o : Oper) (Γ : List G) (m q : Nat), tr[i]? = some s → ops[i]? = some o → Γ.length = s.b.length → (∀ z ∈ relL s, Γ.getD z .dead = s.b.getD z .dead) → Fit m q i → (∀ y, Poss m q y (Γ.getD y .dead)) →
      ∃ Γ', elabG E ops Γ o = some (s.g, Γ') ∧ Γ'.length = Γ.length ∧ (∀ y, Γ'.getD y .dead = if y ∈ modL s then s.a.getD y .dead else Γ.getD y .dead) := by
    intro i s o Γ m q hs ho hll hag hfit hpo
    obtain ⟨o', ho', he⟩ := t2 i s hs
    rw [ho] at ho'
    injection ho' with ho'
    subst ho'
    have hp : ∀ y ∈ lv s.b (lv s.b (cand2 s)), P2 s.b Γ y := fun y hy => ⟨hag y (mem_lv hy), fun v nn hv => ⟨hag v (mem_lv2 hy (by rw [hv]; simp [dl])), nobal i s hs y hy v nn hv⟩⟩
    have sub : ∀ l l' : List Nat, (∀ y ∈ l, y ∈ l') → ∀ y ∈ lv s.b l, y ∈ lv s.b l' := fun l l' h y hy => by
      simp only [lv, List.mem_append, List.mem_flatMap] at hy ⊢
      rcases hy with hy | ⟨z, hz, hy⟩
      · exact .inl (h y hy)
      · exact .inr ⟨z, h z hz, hy⟩
    have hc2 : ∀ y ∈ cand2 s, P2 s.b Γ y := fun y hy => hp y (mem_lv (mem_lv hy))
    obtain ⟨Γ', h1, tw⟩ := elabG_tw he (hM s (List.mem_of_getElem? hs)) (by have := (hall s (List.mem_of_getElem? hs)).1.2; simpa using this) hll (fun y hy => hp y (sub _ _ (sub _ _ fun z hz => List.mem_append_left _ hz) y hy))
      (fun y _ hn => quietP i s hs m q hfit y _ (fun hx => hn (hc2 y hx)) (hpo y))
    refine ⟨Γ', h1, tw.len', fun y => ?_⟩
    by_cases hy : y ∈ cand2 s
    · have hpy := hc2 y hy
      rw [(tw.pt y hpy).1]
      by_cases hmm : y ∈ modL s
      · rw [if_pos hmm]
      · rw [if_neg hmm, hpy.1]
        rw [modIff i s hs] at hmm
        exact Decidable.not_not.1 hmm
    · have hnm : y ∉ modL s := fun hx => hy (List.mem_append_right _ hx)
      rw [if_neg hnm]
      exact tw.keep' y (fun hx => hy (List.mem_append_left _ hx)) (quietP i s hs m q hfit y _ hy (hpo y))
  -- the text's order fits
  have ancLt : ∀ i j, i < n → (anc i).testBit j = true → j < i := by
    intro i
    induction i using Nat.strongRecOn with
    | _ i ih =>
      intro j hi hj
      obtain ⟨e, he, hb, hx⟩ := ancB i _ (List.getElem?_eq_getElem hi) j hj
      have hlt := predsOk_get hpre (List.getElem?_eq_getElem hi) e he hb
      rw [Nat.zero_add] at hlt
      rcases hx with rfl | hx
      · exact hlt
      · have := ih e.on hlt j (by omega) hx; omega
  have fitC : ∀ i, i < n → Fit (2 ^ n - 1) i i := fun i hi => ⟨fun j hj => by
      have := ancLt i j hi hj
      exact ⟨this, by rw [Nat.testBit_two_pow_sub_one]; simp; omega⟩, fun j hj _ => by
      cases hb : (anc j).testBit i with
      | false => rfl
      | true => have := ancLt j i (by omega) hb; omega⟩
  -- the order of the text
  have canon : ∀ (i : Nat) (s : St), tr[i]? = some s → s.b.length = Γ0.length ∧ s.a.length = Γ0.length ∧ (∀ y, s.b.getD y .dead = kat tr Γ0 (2 ^ n - 1) i y) ∧ (∀ y, s.a.getD y .dead = kat tr Γ0 (2 ^ n - 1) (i + 1) y) := by
    intro i
    induction i with
    | zero =>
      intro s hs
      have hb := t4 s hs
      have hbk : ∀ y, s.b.getD y .dead = kat tr Γ0 (2 ^ n - 1) 0 y := fun y => by rw [hb]; rfl
      obtain ⟨o, ho, he⟩ := t2 0 s hs
      obtain ⟨Γ', h1, h2, h3⟩ := stepG 0 s o s.b (2 ^ n - 1) 0 hs ho rfl (fun _ _ => rfl) (fitC 0 (by rw [← hn]; exact (List.getElem?_eq_some_iff.1 hs).1)) (fun y => by rw [hbk]; exact katP _ _ _)
      rw [he] at h1
      injection h1 with h1
      injection h1 with _ h1
      subst h1
      refine ⟨by rw [hb], by rw [h2, hb], hbk, fun y => ?_⟩
      rw [h3 y, hbk]
      have hi : 0 < n := by rw [← hn]; exact (List.getElem?_eq_some_iff.1 hs).1
      simp only [kat, modF, hs, Nat.testBit_two_pow_sub_one, hi, decide_true, if_true]
      by_cases hm : y ∈ modL s <;> simp [hm]
    | succ i ih =>
      intro s hs
      have hil : i < tr.length := by have := (List.getElem?_eq_some_iff.1 hs).1; omega
      obtain ⟨_, ih2, _, ih4⟩ := ih _ (List.getElem?_eq_getElem hil)
      have hb := t3 i _ s (List.getElem?_eq_getElem hil) hs
      have hbk : ∀ y, s.b.getD y .dead = kat tr Γ0 (2 ^ n - 1) (i + 1) y := fun y => by rw [hb]; exact ih4 y
      obtain ⟨o, ho, he⟩ := t2 (i + 1) s hs
      obtain ⟨Γ', h1, h2, h3⟩ := stepG (i + 1) s o s.b (2 ^ n - 1) (i + 1) hs ho rfl (fun _ _ => rfl) (fitC (i + 1) (by rw [← hn]; exact (List.getElem?_eq_some_iff.1 hs).1)) (fun y => by rw [hbk]; exact katP _ _ _)
      rw [he] at h1
      injection h1 with h1
      injection h1 with _ h1
      subst h1
      refine ⟨by rw [hb]; exact ih2, by rw [h2, hb]; exact ih2, hbk, fun y => ?_⟩
      rw [h3 y, hbk]
      have hi : i + 1 < n := by rw [← hn]; exact (List.getElem?_eq_some_iff.1 hs).1
      rw [kat.eq_2 tr Γ0 (2 ^ n - 1) y (i + 1)]
      simp only [modF, hs, Nat.testBit_two_pow_sub_one, hi, decide_true, if_true]
      by_cases hm : y ∈ modL s <;> simp [hm]
  have gext : ∀ {Γ Γ' : List G}, Γ.length = Γ'.length → (∀ y, Γ.getD y .dead = Γ'.getD y .dead) → Γ = Γ' := by
    intro Γ Γ' hl h
    apply List.ext_getElem hl
    intro i h1 h2
    have := h i
    simpa [List.getD_eq_getElem?_getD, h1, h2] using this
  have finalG : Γf.length = Γ0.length ∧ ∀ y, Γf.getD y .dead = kat tr Γ0 (2 ^ n - 1) n y := by
    rcases Nat.eq_zero_or_pos n with h0 | h0
    · have : ops = [] := List.length_eq_zero_iff.1 h0
      rw [t6 this]
      exact ⟨rfl, fun y => by rw [h0]; rfl⟩
    · have hs : tr[n - 1]? = some tr[n - 1] := List.getElem?_eq_getElem (by omega)
      obtain ⟨_, c2, _, c4⟩ := canon (n - 1) _ hs
      rw [← t5 _ hs]
      exact ⟨c2, fun y => by rw [c4 y, show n - 1 + 1 = n by omega]⟩
  let cnt : Nat → Nat := fun m => ((List.range n).filter fun i => !m.testBit i).length
  let Inv : Nat → Ent → Prop := fun k e => cnt e.1 = k ∧ e.2.length = Γ0.length ∧ (∀ y, e.2.getD y .dead = kat tr Γ0 e.1 n y) ∧ ∀ i, i < n → e.1.testBit i = true → ∀ j, (anc i).testBit j = true → e.1.testBit j = true
  refine ⟨Inv, ⟨?_, rfl, fun y => ?_, fun i _ hb => by simp at hb⟩, ?_, ?_, ?_⟩
  · show ((List.range n).filter fun i => !(0 : Nat).testBit i).length = ops.length
    rw [List.filter_eq_self.2 (by simp)]
    simp [n]
  · exact (kat_stop (i := 0) (Nat.zero_le _) fun j _ _ _ => by simp).symm
  · rintro ⟨m, Γ⟩ ⟨h1, h2, h3, h4⟩
    have hbits : ∀ i, i < n → m.testBit i = true := by
      intro i hi
      have : (List.range n).filter (fun i => !m.testBit i) = [] := List.length_eq_zero_iff.1 h1
      rw [List.filter_eq_nil_iff] at this
      simpa using this i (List.mem_range.2 hi)
    refine ⟨hbits, gext (by rw [h2, finalG.1]) fun y => ?_⟩
    rw [h3 y, finalG.2 y]
    exact kat_same fun j hj _ => by rw [hbits j hj, Nat.testBit_two_pow_sub_one]; simp [hj]
  · rintro k ⟨m, Γ⟩ ⟨h1, h2, h3, h4⟩
    -- the least that is still to come
    have hex : ∃ i, i < n ∧ m.testBit i = false := by
      apply Classical.byContradiction
      intro hno
      have : (List.range n).filter (fun i => !m.testBit i) = [] := by
        rw [List.filter_eq_nil_iff]
        intro i hi hb
        exact hno ⟨i, List.mem_range.1 hi, by simpa using hb⟩
      simp only [cnt, this] at h1
      cases h1
    have hmin : ∃ i, (i < n ∧ m.testBit i = false) ∧ ∀ j, j < i → ¬ (j < n ∧ m.testBit j = false) := by
      obtain ⟨i0, hi0⟩ := hex
      induction i0 using Nat.strongRecOn with
      | _ i0 ih =>
        by_cases hj : ∃ j, j < i0 ∧ (j < n ∧ m.testBit j = false)
        · obtain ⟨j, h1, h2⟩ := hj; exact ih j h1 h2
        · exact ⟨i0, hi0, fun j hjl hjj => hj ⟨j, hjl, hjj⟩⟩
    obtain ⟨i, ⟨hi1, hi2⟩, hlt⟩ := hmin
    refine ⟨i, hi1, ?_⟩
    have ho : ops[i]? = some ops[i] := List.getElem?_eq_getElem hi1
    simp only [readyM, hi2, ho, Bool.not_false, Bool.true_and, predsIn, List.all_eq_true, Bool.or_eq_true, Bool.not_eq_true']
    intro e he
    cases hb : Region.binds .any e with
    | false => exact .inl rfl
    | true =>
      right
      have hon := predsOk_get hpre ho e he hb
      rw [Nat.zero_add] at hon
      have := hlt e.on hon
      cases hbit : m.testBit e.on with
      | true => rfl
      | false => exact absurd ⟨Nat.lt_trans hon hi1, hbit⟩ this
  · rintro k ⟨m, Γ⟩ i ⟨h1, h2, h3, h4⟩ hi hrd
    have ho : ops[i]? = some ops[i] := List.getElem?_eq_getElem hi
    have hil : i < tr.length := by rw [hn]; exact hi
    have hs : tr[i]? = some tr[i] := List.getElem?_eq_getElem hil
    simp only [readyM, ho, Bool.and_eq_true, Bool.not_eq_true', predsIn, List.all_eq_true, Bool.or_eq_true] at hrd
    obtain ⟨hbit, hpr⟩ := hrd
    -- what must come before is done
    have hanc : ∀ j, (anc i).testBit j = true → m.testBit j = true := by
      intro j hj
      obtain ⟨e, he, hb, hx⟩ := ancB i _ ho j hj
      have hon := (hpr e he).resolve_left (by simp [hb])
      rcases hx with rfl | hx
      · exact hon
      · have hlt := predsOk_get hpre ho e he hb
        exact h4 e.on (by omega) hon j hx
    -- those that are bound
    have bound : ∀ (j : Nat) (t : St), tr[j]? = some t → j ≠ i → (m.testBit j = decide (j < i)) ∨ (j < i ∧ free tr[i] t = true) ∨ (i < j ∧ free t tr[i] = true) := by
      intro j t ht hne
      rcases Nat.lt_or_gt_of_ne hne with hlt | hgt
      · rcases pair i j _ t hs ht hlt with ha | hf
        · left; rw [hanc j ha]; simp [hlt]
        · exact .inr (.inl ⟨hlt, hf⟩)
      · rcases pair j i t _ ht hs hgt with ha | hf
        · left
          have hjn : j < n := by rw [← hn]; exact (List.getElem?_eq_some_iff.1 ht).1
          cases hbj : m.testBit j with
          | false => have : ¬ j < i := by omega
                     simp [this]
          | true =>
            exfalso
            have := h4 j hjn hbj i ha
            rw [hbit] at this; cases this
        · exact .inr (.inr ⟨hgt, hf⟩)
    have hmod : ∀ y ∈ relL tr[i], ∀ j, j < n → j ≠ i → modF tr j y ≠ none → m.testBit j = decide (j < i) := by
      intro y hy j hj hne hm
      have hjl : j < tr.length := by rw [hn]; exact hj
      have ht : tr[j]? = some tr[j] := List.getElem?_eq_getElem hjl
      have hyj : y ∈ modL tr[j] := by
        unfold modF at hm
        rw [ht] at hm
        simp only at hm
        split at hm
        · rename_i hc; simpa using hc
        · exact absurd rfl hm
      rcases bound j _ ht hne with hb | ⟨_, hf⟩ | ⟨_, hf⟩
      · exact hb
      · exfalso
        simp only [free, Bool.and_eq_true] at hf
        exact disj_not hf.1.2 hy hyj
      · exfalso
        simp only [free, Bool.and_eq_true] at hf
        exact disj_not hf.2 hy hyj
    obtain ⟨c1, _, c3, _⟩ := canon i _ hs
    have hag : ∀ z ∈ relL tr[i], Γ.getD z .dead = tr[i].b.getD z .dead := by
      intro z hz
      rw [h3 z, c3 z, kat_stop (i := i) (Nat.le_of_lt hi) fun j hj1 hj2 hj3 => by
        by_cases hji : j = i
        · rw [hji]; exact hbit
        · rw [hmod z hz j hj2 hji hj3]; simp; omega]
      refine kat_same fun j hj hj3 => ?_
      have hi' : i < n := hi
      rw [hmod z hz j (by omega) (by omega) hj3, Nat.testBit_two_pow_sub_one]
      simp [hj, show j < n by omega]
    obtain ⟨Γ', e1, e2, e3⟩ := stepG i _ _ Γ m n hs ho (by rw [c1]; exact h2) hag ⟨fun j hj => ⟨Nat.lt_trans (ancLt i j hi hj) hi, hanc j hj⟩, fun j hj hbj => by
      cases hb : (anc j).testBit i with
      | false => rfl
      | true => have := h4 j hj hbj i hb; rw [hbit] at this; cases this⟩ (fun y => by rw [h3 y]; exact katP _ _ _)
    refine ⟨_, tr[i].g, Γ', ho, by simp [hs], e1, ?_, ?_, by rw [e2]; exact h2, fun y => ?_, fun i' hi' hb' j hj => ?_⟩
    · -- no meddling
      simp only [condC, List.all_eq_true, List.mem_range, List.length_map, Bool.or_eq_true, beq_iff_eq]
      intro j hj
      by_cases hji : j = i
      · exact .inl hji
      · right
        have ht : tr[j]? = some tr[j] := List.getElem?_eq_getElem hj
        simp only [List.getElem?_map, ht, Option.map_some, Bool.and_eq_true, Bool.or_eq_true, beq_iff_eq]
        rcases bound j _ ht hji with hb | ⟨_, hf⟩ | ⟨_, hf⟩
        · refine ⟨?_, .inr hb⟩
          split
          · simp only [Bool.or_eq_true, beq_iff_eq]; exact .inr hb
          · rfl
        · simp only [free, Bool.and_eq_true] at hf
          obtain ⟨⟨⟨⟨⟨f1, f2⟩, f3⟩, f4⟩, _⟩, _⟩ := hf
          refine ⟨?_, .inl f4⟩
          split
          · rename_i y hy
            rw [hy] at f1
            simp only [Bool.or_eq_true, beq_iff_eq]
            exact .inl f1
          · rfl
        · simp only [free, Bool.and_eq_true] at hf
          obtain ⟨⟨⟨⟨⟨f1, f2⟩, f3⟩, f4⟩, _⟩, _⟩ := hf
          refine ⟨?_, .inl f3⟩
          split
          · rename_i y hy
            rw [hy] at f2
            simp only [Bool.not_eq_true'] at f2
            simp only [Bool.or_eq_true, beq_iff_eq]
            left
            simp only [Bool.not_eq_true', Bool.or_eq_false_iff, f2, true_and]
            cases hd : (tr[i]).g.cop.dst with
            | none => rfl
            | some y' =>
              rw [hd] at f1
              simp only [Bool.not_eq_true', Bool.or_eq_false_iff] at f1
              have f12 := f1.2
              rw [hy] at f12
              simp only [beq_eq_false_iff_ne, ne_eq, Option.some.injEq] at f12 ⊢
              exact fun hx => f12 hx.symm
          · rfl
    · -- one less to come
      have hcnt : ((List.range n).filter fun i => !m.testBit i).length = k + 1 := h1
      show ((List.range n).filter fun j => !(m ||| 1 <<< i).testBit j).length = k
      have key : ∀ l : List Nat, l.Nodup → i ∈ l → ((l.filter fun j => !(m ||| 1 <<< i).testBit j).length + 1 = (l.filter fun j => !m.testBit j).length) := by
        intro l
        induction l with
        | nil => intro _ h; cases h
        | cons a l ih =>
          intro hnd hmem
          rw [List.nodup_cons] at hnd
          by_cases ha : a = i
          · subst ha
            have hrest : (l.filter fun j => !(m ||| 1 <<< a).testBit j) = l.filter fun j => !m.testBit j := by
              apply List.filter_congr
              intro j hj
              have : j ≠ a := by rintro rfl; exact hnd.1 hj
              rw [testBit_or]; simp [this]
            rw [List.filter_cons, List.filter_cons, hrest]
            simp [testBit_or, hbit]
          · have := ih hnd.2 ((List.mem_cons.1 hmem).resolve_left (Ne.symm ha))
            rw [List.filter_cons, List.filter_cons, testBit_or]
            have hab : (a == i) = false := by simpa using ha
            rw [hab, Bool.false_or]
            split
            · simp only [List.length_cons]; omega
            · exact this
      have := key (List.range n) List.nodup_range (List.mem_range.2 hi)
      omega
    · rw [e3 y, kat_add (i := i) hi hbit (fun hm j hj hne hmj => hmod y (hmodrel _ y (by
        unfold modF at hm
        rw [hs] at hm
        simp only at hm
        split at hm
        · rename_i hc; simpa using hc
        · exact absurd rfl hm)) j hj hne hmj)]
      simp only [modF, hs]
      by_cases hmm : y ∈ modL tr[i]
      · simp [hmm]
      · simp [hmm]; simpa [List.getD_eq_getElem?_getD] using h3 y
    · simp only [testBit_or] at hb' ⊢
      simp only [Bool.or_eq_true, beq_iff_eq] at hb' ⊢
      rcases hb' with rfl | hb'
      · exact .inr (hanc j hj)
      · exact .inr (h4 i' hi' hb' j hj)
end
end Go.Den
set_option autoImplicit false
namespace Go.Den
section
variable {X : Cx} {L0 : Nat → Lab} {w0 : World} {K : KV} {Q : Exit → Act → World → Prop} {E : Env} {Tb : Nat → Rel}

theorem draw_sound {id : Nat} {ops : Array Oper} {gs : List GOp} {Γ Γ' : List G} {s : S} (hE : E.P = X.P) (hm : X.P.follows .mixedOrders = true) (hT : Known X.P E Tb) (he : elabDraw E ops.toList Γ = some (gs, Γ')) (h : Sim X Γ s) (f : Fr X L0 w0 s.L s.w)
    (hk : wpGs Tb X.lim gs K s.σ s.H) (hQ : ∀ a w, Good X Γ' L0 w0 K a w → Q .normal a w) : (Code.region id ops true).wp X.P Q s.a s.w := by
  unfold elabDraw at he
  split at he
  · rename_i tr Γ2 hel
    split at he
    · rename_i hc
      simp only [Option.some.injEq, Prod.mk.injEq] at he
      obtain ⟨rfl, rfl⟩ := he
      obtain ⟨hstat, hchk⟩ := hc
      let gs' := tr.map (·.g)
      obtain ⟨Inv, hI, hI0, hI1, hI2⟩ := drawOk_inv hel hchk (fun s hs => by
        simp only [statOk, List.all_eq_true, Bool.and_eq_true, Bool.not_eq_true'] at hstat
        exact (hstat s.g (List.mem_map.2 ⟨s, hs, rfl⟩)).1.1)
      obtain ⟨σs, Hs, us, e1, e2, htr, hK⟩ := wpGs_trace (by
        simp only [statOk, List.all_eq_true, Bool.and_eq_true] at hstat ⊢
        exact fun g hg => (hstat g hg).1.1) hk
      have hlen : gs'.length = ops.toList.length := by simp only [gs', List.length_map]; exact (traceL_get hel).1
      have hσl : ∀ i, i ≤ gs'.length → (σs i).length = (σs 0).length := by
        intro i
        induction i with
        | zero => intro _; rfl
        | succ i ih =>
          intro hi
          have hg : gs'[i]? = some gs'[i] := List.getElem?_eq_getElem (by omega)
          rw [(htr i _ hg).2, app_len, ih (by omega)]
      have hΓl : Γ.length = (σs 0).length := by rw [e1, h.lenG]
      have hstat2 : statOk gs' (σs 0).length = true := by rw [← hΓl]; exact hstat
      have hσv : ∀ i y, i ≤ gs'.length → (σs i).getD y .undef = val us (σs 0) (fun _ => true) i y := by
        intro i
        induction i with
        | zero => intro y _; rfl
        | succ i ih =>
          intro y hi
          have hg : gs'[i]? = some gs'[i] := List.getElem?_eq_getElem (by omega)
          obtain ⟨hr, hσ⟩ := htr i _ hg
          rw [hσ, app_get (fun d hd => by
            rw [hσl i (by omega)]
            simp only [statOk, List.all_eq_true, Bool.and_eq_true, Bool.or_eq_true, decide_eq_true_eq, Option.isNone_iff_eq_none] at hstat2
            obtain ⟨⟨_, h1⟩, h2⟩ := hstat2 _ (List.getElem_mem (show i < gs'.length by omega))
            have hd' : gs'[i].d = none ∨ gs'[i].d = gs'[i].cop.dst ∨ gs'[i].g = none := by rcases h1 with (h1 | h1) | h1 <;> simp [h1]
            cases hu : us i with
            | none => rw [hu] at hd; cases hd
            | some dv =>
              obtain ⟨d', v⟩ := dv
              rw [hu] at hd hr
              simp only [slotU, Option.map_some, Option.some.injEq] at hd
              subst hd
              have := GOp.runU_slot hd' hr
              rw [this] at h2; simpa using h2), ih y (by omega)]
          simp only [val]
          cases us i with
          | none => rfl
          | some dv => simp [selU]
      refine wp_region_any hm ?_
      have hsz : ops.size = ops.toList.length := by simp
      rw [hsz]
      refine draw_step (K := K) hE hT hlen htr hstat2 hσl hσv (Inv := Inv) hI0 hI1 hI2 hK hQ ops.toList.length (0, Γ) _ _ _ hI ⟨⟨by simp, fun i => ⟨fun hi => ?_, fun _ => by simp⟩⟩, { s with w := { s.w with drawn := s.w.drawn + 1 } }, rfl, rfl, drawn_sim h _, ⟨f.os, f.tape, f.output, f.size, f.keep⟩, ?_, fun y => ?_, 0, Nat.zero_le _, ?_, ?_⟩
      · have hi' : i < ops.size := by simpa using hi
        simp [Array.getD_eq_getD_getElem?, hi']
      · rw [e1]
      · rw [e1]
        exact (val_stop (i := 0) (Nat.zero_le _) fun j _ _ _ => by simp).symm
      · exact e2.symm
      · intro j g _ _; simp
    · cases he
  · cases he
end
end Go.Den
set_option autoImplicit false
namespace Go.Den

/-- What is returned: a slot; a variable in memory. -/
inductive RV where
  | tmp (t : Nat)
  | cell (u : Nat) (n : Option Nat) (fl : Bool)
  deriving Inhabited
def retV (σ : List PV) (H : Boxes) : List RV → Option (List PV)
  | [] => some []
  | .tmp t :: is => match retV σ H is with
    | some vs => some (σ.getD t .undef :: vs)
    | none => none
  | .cell u n fl :: is => match loadV H (σ.getD u .undef) n with
    | some v => if fl = true → v.isFlat = true then (match retV σ H is with
      | some vs => some (v :: vs)
      | none => none) else none
    | none => none

/-! ### Commands -/
inductive Cmd where
  | skip
  | ops (l : List GOp)
  | seq (a b : Cmd)
  | cond (c : Operand) (a b : Cmd)
  | block (id : Nat) (a : Cmd)
  | loop (ms : List Bool) (a : Cmd)
  | exit (id : Nat)
  | ret (ts : List RV) (ss : List Src)
  | dead
  | retm (u n : Nat) (c : Cmd)
  deriving Inhabited
structure Ks where
  n : KV
  r : KV
  x : Nat → KV

def maskL : List Bool → List PV → List PV
  | b :: bs, v :: vs => (if b then v else .undef) :: maskL bs vs
  | [], v :: vs => .undef :: maskL [] vs
  | _, [] => []

def wpC (Tb : Nat → Rel) (lim : Nat) : Cmd → Ks → List PV → Boxes → Prop
  | .skip, K, σ, H => K.n σ H
  | .ops l, K, σ, H => wpGs Tb lim l K.n σ H
  | .seq a b, K, σ, H => wpC Tb lim a { K with n := wpC Tb lim b K } σ H
  | .cond c a b, K, σ, H => match valO σ c with
    | .bool t => if t then wpC Tb lim a K σ H else wpC Tb lim b K σ H
    | _ => False
  | .block id a, K, σ, H => wpC Tb lim a { K with x := fun i => if i = id then K.n else K.x i } σ H
  | .loop ms a, K, σ, H => ∃ (I : Nat → KV) (n0 : Nat), I n0 (maskL ms σ) H ∧ ∀ n σ H, I n σ H → wpC Tb lim a { K with n := fun σ' H' => ∃ m, m < n ∧ I m (maskL ms σ') H' } σ H
  | .exit id, K, σ, H => K.x id σ H
  | .ret ts ss, K, σ, H => ∃ vs, retV σ H ts = some vs ∧ vs.all (fun v => !v.isUndef) = true ∧ K.r vs (eatsH σ H ss)
  | .dead, _, _, _ => False
  | .retm u n c, K, σ, H => (∃ r b, σ.getD u .undef = .ref r 0 ∧ H[r]? = some b ∧ b.2.length = n) ∧ wpC Tb lim c K σ H

structure FI where
  ts : List ResultVar
  rs : List TK
  mu : Option TypeId
def FI.rs' (F : FI) : List TK := if F.mu.isSome then F.rs ++ [.own] else F.rs
def retG (E : Env) (N : Nat) : List ResultVar → List G → Option (List G × List Operand × List RV)
  | [], Γ => some (Γ, [], [])
  | .tmp t :: is, Γ => if t < N then (match retG E N is Γ with
    | some (Γ', xs, rvs) => some (Γ', .tmp t :: xs, .tmp t :: rvs)
    | none => none) else none
  | .cell u T :: is, Γ => if u < N then (match elabLoadB E (Γ ++ [.dead]) Γ.length T (.tmp u) with
    | some (.loadB d u' n fl, Γ1) => if d = Γ.length ∧ oSame u' (.tmp u) = true then (match retG E N is Γ1 with
      | some (Γ', xs, rvs) => some (Γ', .tmp Γ.length :: xs, .cell u n fl :: rvs)
      | none => none) else none
    | _ => none) else none
def elabRet0 (E : Env) (ts : List ResultVar) (rs : List TK) (Γ : List G) : Option Cmd :=
  match retG E Γ.length ts Γ with
  | some (Γ1, xs, rvs) => match eats (rs.map some) xs Γ1 with
    | some (_, ss) => if (ss.flatMap srcS).all (fun u => decide (u < Γ.length)) = true then some (.ret rvs ss) else none
    | none => none
  | none => none
def elabRet (E : Env) (F : FI) (Γ : List G) : Option Cmd :=
  match F.mu with
  | none => elabRet0 E F.ts F.rs Γ
  | some T => if Γ.getD 0 .dead = .mo 0 then elabRet0 E (F.ts ++ [.tmp 0]) (F.rs ++ [.own]) Γ
    else match (List.range Γ.length).find? (fun u => Γ.getD u .dead == .pm 0), tyN E.P T with
      | some u, some (some n) => match elabRet0 E (F.ts ++ [.cell u T]) (F.rs ++ [.own]) Γ with
        | some c => some (.retm u n c)
        | none => none
      | _, _ => none
structure Outs where
  n : Option (List G)
  x : List (Nat × List G)
abbrev HS := List (List Nat)

def joinG (Γ Γ' : List G) : List G := List.zipWith (fun a b => if a = b then a else if a.le b then b else if b.le a then a else .dead) Γ Γ'
def joinAll (l : List (List G)) : Option (Option (List G)) :=
  match l with
  | [] => some none
  | [a] => some (some a)
  | a :: rest =>
    let j := rest.foldl joinG a
    if l.all (fun g => leG g j) then some (some j) else none
def dropL (ks : List Nat) (Γ : List G) : List G := ks.foldl (fun Γ k => Γ.set k .dead) Γ
def clean1 (Γ : List G) : List G := Γ.map fun g => match g with
  | .al x => if Γ.getD x .dead = .dead then .dead else g
  | .bal u _ => if Γ.getD u .dead = .dead then .dead else g
  | .ea t => if Γ.getD t .dead = .dead then .dead else g
  | .eal x u => if Γ.getD x .dead = .dead ∨ Γ.getD u .dead = .dead then .dead else g
  | .hole u _ => if Γ.getD u .dead = .dead then .dead else g
  | g => g
def clean (Γ : List G) : List G := clean1 (clean1 Γ)
def loops : Code → Nat
  | .seq a b => loops a + loops b
  | .cond _ a b => loops a + loops b
  | .block _ a => loops a
  | .loop a => 1 + loops a
  | _ => 0
def iter (f : List G → Option (Cmd × Outs × HS)) (ks : List Nat) : Nat → List G → Option (List G × Cmd × Outs × HS)
  | 0, _ => none
  | k + 1, Γ =>
    let Γh := clean (dropL ks Γ)
    if maskOk Γh = true then
      match f Γh with
      | some (c, o, hs) => match o.n with
        | none => some (Γh, c, o, hs)
        | some Γn => if leG Γn Γh = true then some (Γh, c, o, hs) else iter f ks k (joinG Γh Γn)
      | none => none
    else none

def compile (E : Env) (F : FI) : Code → HS → List G → Option (Cmd × Outs × HS)
  | .skip, hs, Γ => some (.skip, ⟨some Γ, []⟩, hs)
  | .label _, hs, Γ => some (.skip, ⟨some Γ, []⟩, hs)
  | .region _ ops dr, hs, Γ => match (if dr then elabDraw E ops.toList Γ else elabL E ops.toList ops.toList Γ) with
    | some (gs, Γ') => some (.ops gs, ⟨some Γ', []⟩, hs)
    | none => none
  | .seq a b, hs, Γ => match compile E F a hs Γ with
    | some (ca, oa, hs1) => match oa.n with
      | none => some (.seq ca .dead, ⟨none, oa.x⟩, hs1.drop (loops b))
      | some Γ1 => match compile E F b hs1 Γ1 with
        | some (cb, ob, hs2) => some (.seq ca cb, ⟨ob.n, oa.x ++ ob.x⟩, hs2)
        | none => none
    | none => none
  | .cond c a b, hs, Γ =>
    if kdO Γ c = .fl then
      match compile E F a hs Γ with
      | some (ca, oa, hs1) => match compile E F b hs1 Γ with
        | some (cb, ob, hs2) => match joinAll (oa.n.toList ++ ob.n.toList) with
          | some n => some (.cond c ca cb, ⟨n, oa.x ++ ob.x⟩, hs2)
          | none => none
        | none => none
      | none => none
    else none
  | .block id a, hs, Γ => match compile E F a hs Γ with
    | some (ca, oa, hs1) => match joinAll (oa.n.toList ++ (oa.x.filter fun e => e.1 == id).map (·.2)) with
      | some n => some (.block id ca, ⟨n, oa.x.filter fun e => e.1 != id⟩, hs1)
      | none => none
    | none => none
  | .loop a, hs, Γ => match iter (compile E F a hs.tail) (hs.headD []) 6 Γ with
    | some (Γh, c, o, hs') => if leG Γ Γh = true then some (.loop (Γh.map fun g => g != .dead) c, ⟨none, o.x⟩, hs') else none
    | none => none
  | .exit id, hs, Γ => some (.exit id, ⟨none, [(id, Γ)]⟩, hs)
  | .ret, hs, Γ => match elabRet E F Γ with
    | some c => some (c, ⟨none, []⟩, hs)
    | none => none
  | _, _, _ => none

theorem maskL_eq : ∀ {Γ : List G} {σ : List PV}, maskL (Γ.map fun g => g != .dead) σ = maskσ Γ σ
  | [], [] => rfl
  | [], v :: vs => by
    have := maskL_eq (Γ := []) (σ := vs)
    simp only [List.map_nil, maskL, maskσ, List.mapIdx_cons] at this ⊢
    rw [this]; simp
  | g :: Γ, [] => by simp [maskL, maskσ]
  | g :: Γ, v :: vs => by
    have := maskL_eq (Γ := Γ) (σ := vs)
    simp only [List.map_cons, maskL, maskσ, List.mapIdx_cons] at this ⊢
    rw [this]
    congr 1
    by_cases h : g = .dead <;> simp [h]

theorem joinAll_le {l : List (List G)} {n : Option (List G)} (h : joinAll l = some n) : ∀ g ∈ l, ∃ j, n = some j ∧ leG g j = true := by
  unfold joinAll at h
  split at h
  · intro g hg; simp at hg
  · intro g hg
    injection h with h
    subst h
    obtain rfl : g = _ := by simpa using hg
    exact ⟨_, rfl, leG_refl _⟩
  · rename_i a rest _
    simp only at h
    split at h
    · rename_i hc
      injection h with h
      subst h
      intro g hg
      simp only [List.all_eq_true] at hc
      exact ⟨_, rfl, hc g hg⟩
    · cases h

theorem iter_spec {f : List G → Option (Cmd × Outs × HS)} {ks : List Nat} : ∀ {k : Nat} {Γ Γh : List G} {c : Cmd} {o : Outs} {hs : HS}, iter f ks k Γ = some (Γh, c, o, hs) → f Γh = some (c, o, hs) ∧ maskOk Γh = true ∧ ∀ Γn, o.n = some Γn → leG Γn Γh = true
  | 0, _, _, _, _, _, h => by simp [iter] at h
  | k + 1, Γ, Γh, c, o, hs, h => by
    simp only [iter] at h
    split at h
    · rename_i hm
      split at h
      · rename_i c' o' hs' hf
        split at h
        · rename_i hn
          simp only [Option.some.injEq, Prod.mk.injEq] at h
          obtain ⟨rfl, rfl, rfl, rfl⟩ := h
          exact ⟨hf, hm, fun Γn h => by rw [hn] at h; cases h⟩
        · rename_i Γn hn
          split at h
          · rename_i hl
            simp only [Option.some.injEq, Prod.mk.injEq] at h
            obtain ⟨rfl, rfl, rfl, rfl⟩ := h
            exact ⟨hf, hm, fun Γn' h => by rw [hn] at h; injection h with h; subst h; exact hl⟩
          · exact iter_spec h
      · cases h
    · cases h

section
variable {X : Cx} {L0 : Nat → Lab} {w0 : World} {E : Env} {Tb : Nat → Rel} {F : FI}

def resF (tmps : Array Value) (x : ResultVar) : Sem Value :=
  match x with
  | .tmp t => pure (tmps.getD t undef)
  | .cell a t => do loadVar t (← asAddr (tmps.getD a undef))
def RetP0 (X : Cx) (L0 : Nat → Lab) (w0 : World) (ts : List ResultVar) (rs : List TK) (K : KV) (a : Act) (w : World) : Prop :=
  ∃ s' : S, a.defers = [] ∧ (ts.mapM (resF a.tmps)).run X.P w = .ok s'.a.tmps.toList w ∧ s'.w = w ∧ Sim X (rs.map TK.toG) s' ∧ Fr X L0 w0 s'.L s'.w ∧ K s'.σ s'.H ∧ ∀ ts1 h, ts = ts1 ++ [h] → ∃ cs1, (ts1.mapM (resF a.tmps)).run X.P w = .ok cs1 w ∧ cs1.length = ts1.length
def RetP (X : Cx) (L0 : Nat → Lab) (w0 : World) (F : FI) (K : KV) (a : Act) (w : World) : Prop :=
  ∃ s' : S, a.defers = [] ∧ (F.ts.mapM (resF a.tmps)).run X.P w = .ok (if F.mu.isSome then s'.a.tmps.pop else s'.a.tmps).toList w ∧ (F.mu.isSome = true → s'.a.tmps.size = F.ts.length + 1 ∧ s'.c F.ts.length = X.hd 0) ∧ s'.w = w ∧ Sim X (F.rs'.map TK.toG) s' ∧ Fr X L0 w0 s'.L s'.w ∧ K s'.σ s'.H
def QF (X : Cx) (L0 : Nat → Lab) (w0 : World) (F : FI) (o : Outs) (K : Ks) : Exit → Act → World → Prop
  | .normal, a, w => ∃ Γ, o.n = some Γ ∧ Good X Γ L0 w0 K.n a w
  | .ret, a, w => RetP X L0 w0 F K.r a w
  | .exit id, a, w => ∃ Γ, (id, Γ) ∈ o.x ∧ Good X Γ L0 w0 (K.x id) a w
  | _, _, _ => False

theorem Sim.snoc {Γ : List G} {s : S} (h : Sim X Γ s) : Sim X (Γ ++ [.dead]) { s with σ := s.σ ++ [.undef], a := { s.a with tmps := s.a.tmps.push undef } } := by
  have hv : ∀ i, S.v { s with σ := s.σ ++ [.undef], a := { s.a with tmps := s.a.tmps.push undef } } i = s.v i := fun i => by
    simp only [S.v, List.getD_eq_getElem?_getD]
    by_cases hi : i < s.σ.length
    · rw [List.getElem?_append_left hi]
    · rw [List.getElem?_append_right (by omega), List.getElem?_eq_none (l := s.σ) (by omega)]
      cases i - s.σ.length <;> simp
  have hc : ∀ i, S.c { s with σ := s.σ ++ [.undef], a := { s.a with tmps := s.a.tmps.push undef } } i = s.c i := fun i => by
    simp only [S.c, Array.getD_eq_getD_getElem?, Array.getElem?_push]
    split
    · rename_i hi; rw [hi]; simp
    · rfl
  refine ⟨by simp [h.lenG], by simp [h.lenA], h.defs, fun i g hg => ?_, fun r b hb => h.box r b hb, h.top, h.n0⟩
  by_cases hi : i < Γ.length
  · rw [List.getElem?_append_left hi] at hg
    exact (h.slot i g hg).out ⟨hv i, hc i, fun _ _ => ⟨rfl, rfl⟩, fun x _ => ⟨hv x, hc x⟩, fun _ r b hr => ⟨b, hr, rfl, rfl, fun _ _ => ⟨rfl, rfl⟩⟩, fun _ _ _ _ _ => rfl⟩
  · rw [List.getElem?_append_right (by omega)] at hg
    have := List.mem_of_getElem? hg
    simp at this
    rw [this]; exact .inr trivial

theorem retV_congr {σ σ' : List PV} {H : Boxes} {N : Nat} (hσ : ∀ t, t < N → σ'.getD t .undef = σ.getD t .undef) (hE : E.P = X.P) : ∀ {is : List ResultVar} {Γ Γ' : List G} {xs : List Operand} {rvs : List RV}, retG E N is Γ = some (Γ', xs, rvs) → retV σ' H rvs = retV σ H rvs
  | [], Γ, Γ', xs, rvs, h => by simp only [retG, Option.some.injEq, Prod.mk.injEq] at h; obtain ⟨_, _, rfl⟩ := h; rfl
  | .tmp t :: is, Γ, Γ', xs, rvs, h => by
    simp only [retG] at h
    split at h
    · rename_i ht
      split at h
      · rename_i Γ2 xs2 rvs2 h2
        simp only [Option.some.injEq, Prod.mk.injEq] at h
        obtain ⟨_, _, rfl⟩ := h
        simp only [retV]
        rw [retV_congr hσ hE h2, hσ t ht]
      · cases h
    · cases h
  | .cell u T :: is, Γ, Γ', xs, rvs, h => by
    simp only [retG] at h
    split at h
    · rename_i hu
      split at h
      · split at h
        · split at h
          · rename_i Γ2 xs2 rvs2 h2
            simp only [Option.some.injEq, Prod.mk.injEq] at h
            obtain ⟨_, _, rfl⟩ := h
            simp only [retV]
            rw [retV_congr hσ hE h2, hσ u hu]
          · cases h
        · cases h
      · cases h
    · cases h

theorem retG_sound (hE : E.P = X.P) {N : Nat} {tmps0 : Array Value} {σ0 : List PV} : ∀ (is : List ResultVar) (Γ Γ' : List G) (xs : List Operand) (rvs : List RV) (s : S) (vs : List PV), retG E N is Γ = some (Γ', xs, rvs) → Sim X Γ s → N ≤ Γ.length →
    (∀ t, t < N → s.σ.getD t .undef = σ0.getD t .undef) → (∀ t, t < N → s.a.tmps.getD t undef = tmps0.getD t undef) → retV σ0 s.H rvs = some vs →
    ∃ s' : S, Sim X Γ' s' ∧ s'.H = s.H ∧ s'.L = s.L ∧ s'.w = s.w ∧ s'.bm = s.bm ∧ (∀ t, t < Γ.length → s'.σ.getD t .undef = s.σ.getD t .undef) ∧ (∀ t, t < Γ.length → s'.a.tmps.getD t undef = s.a.tmps.getD t undef) ∧ xs.map (valO s'.σ) = vs ∧ (is.mapM (resF tmps0)).run X.P s.w = .ok (xs.map s'.a.eval) s.w
  | [], Γ, Γ', xs, rvs, s, vs, he, h, hN, hσ, ha, hv => by
    simp only [retG, Option.some.injEq, Prod.mk.injEq] at he
    obtain ⟨rfl, rfl, rfl⟩ := he
    simp only [retV, Option.some.injEq] at hv
    exact ⟨s, h, rfl, rfl, rfl, rfl, fun _ _ => rfl, fun _ _ => rfl, hv, rfl⟩
  | .tmp t :: is, Γ, Γ', xs, rvs, s, vs, he, h, hN, hσ, ha, hv => by
    simp only [retG] at he
    split at he
    · rename_i ht
      split at he
      · rename_i Γ2 xs2 rvs2 h2
        simp only [Option.some.injEq, Prod.mk.injEq] at he
        obtain ⟨rfl, rfl, rfl⟩ := he
        simp only [retV] at hv
        split at hv
        · rename_i vs2 hv2
          injection hv with hv
          obtain ⟨s', g1, g2, g3, g4, g5, g6, g7, g8, g9⟩ := retG_sound hE is Γ Γ2 xs2 rvs2 s vs2 h2 h hN hσ ha hv2
          refine ⟨s', g1, g2, g3, g4, g5, g6, g7, ?_, ?_⟩
          · rw [List.map_cons, g8, ← hv]
            congr 1
            show s'.σ.getD t .undef = _
            rw [g6 t (Nat.lt_of_lt_of_le ht hN), hσ t ht]
          · rw [List.mapM_cons]
            simp only [resF, Sem.run_bind, Sem.run_pure, Result.andThen_ok, g9, List.map_cons]
            congr 2
            show _ = s'.a.tmps.getD t undef
            rw [g7 t (Nat.lt_of_lt_of_le ht hN), ha t ht]
        · cases hv
      · cases he
    · cases he
  | .cell u T :: is, Γ, Γ', xs, rvs, s, vs, he, h, hN, hσ, ha, hv => by
    simp only [retG] at he
    split at he
    · rename_i hu
      split at he
      · rename_i d u' n fl Γ1 hel
        split at he
        · rename_i hc
          obtain ⟨rfl, hou⟩ := hc
          have hou := oSame_eq hou
          subst hou
          split at he
          · rename_i Γ2 xs2 rvs2 h2
            simp only [Option.some.injEq, Prod.mk.injEq] at he
            obtain ⟨rfl, rfl, rfl⟩ := he
            simp only [retV] at hv
            split at hv
            · rename_i v hlv
              split at hv
              · rename_i hfl
                split at hv
                · rename_i vs2 hv2
                  injection hv with hv
                  have hsn := h.snoc
                  have hl : s.σ.length = Γ.length := h.lenG.symm
                  have hla : s.a.tmps.size = Γ.length := by rw [h.lenA, hl]
                  let s1 : S := { s with σ := s.σ ++ [.undef], a := { s.a with tmps := s.a.tmps.push undef } }
                  have q1 : ∀ t, t < Γ.length → s1.σ.getD t .undef = s.σ.getD t .undef := fun t ht => by
                    simp only [s1, List.getD_eq_getElem?_getD]; rw [List.getElem?_append_left (by omega)]
                  have q2 : ∀ t, t < Γ.length → s1.a.tmps.getD t undef = s.a.tmps.getD t undef := fun t ht => by
                    simp only [s1, Array.getD_eq_getD_getElem?, Array.getElem?_push]; rw [if_neg (by omega)]
                  obtain ⟨c, g, ad, hp, hrun, rfl, hnew⟩ := loadB_core (s := s1) (v := v) hE hel hsn (by
                    show loadV s.H (s1.σ.getD u .undef) n = some v
                    rw [q1 u (Nat.lt_of_lt_of_le hu hN), hσ u hu]; exact hlv) hfl
                  have hs2 := hsn.set (d := Γ.length) (by simp) hnew
                  have hlen2 : (setG none false Γ.length g (Γ ++ [.dead])).length = Γ.length + 1 := by rw [setG_len]; simp
                  have p1 : ∀ t, t < Γ.length → (s1.put Γ.length v c).σ.getD t .undef = s.σ.getD t .undef := fun t ht => (S.put_v_ne (s := s1) (by omega)).trans (q1 t ht)
                  have p2 : ∀ t, t < Γ.length → (s1.put Γ.length v c).a.tmps.getD t undef = s.a.tmps.getD t undef := fun t ht => (S.put_c_ne (s := s1) (by omega)).trans (q2 t ht)
                  obtain ⟨s', g1, g2, g3, g4, g5, g6, g7, g8, g9⟩ := retG_sound hE is _ Γ2 xs2 rvs2 (s1.put Γ.length v c) vs2 h2 hs2 (by omega) (fun t ht => (p1 t (by omega)).trans (hσ t ht)) (fun t ht => (p2 t (by omega)).trans (ha t ht)) hv2
                  refine ⟨s', g1, g2, g3, g4, g5, fun t ht => (g6 t (by omega)).trans (p1 t ht), fun t ht => (g7 t (by omega)).trans (p2 t ht), ?_, ?_⟩
                  · rw [List.map_cons, g8, ← hv]
                    congr 1
                    show s'.σ.getD Γ.length .undef = v
                    rw [g6 _ (by omega)]
                    exact S.put_v (s := s1) (by simp [s1, hl])
                  · rw [List.mapM_cons]
                    have hp' : tmps0.getD u undef = .pointer (some ad) := by
                      rw [← ha u hu, ← q2 u (Nat.lt_of_lt_of_le hu hN)]; exact hp
                    have hc : s'.a.tmps.getD Γ.length undef = c := by
                      rw [g7 _ (by omega)]
                      exact S.put_c (s := s1) (by simp [s1, hla])
                    change (loadVar T ad).run X.P s.w = .ok c s.w at hrun
                    have g9' : (is.mapM (resF tmps0)).run X.P s.w = .ok (xs2.map s'.a.eval) s.w := g9
                    simp only [resF, hp', asAddr, Sem.run_bind, Sem.run_pure, Result.andThen_ok, hrun, g9', List.map_cons]
                    congr 2
                    exact hc.symm
                · cases hv
              · cases hv
            · cases hv
          · cases he
        · cases he
      · cases he
    · cases he

theorem retV_append {σ : List PV} {H : Boxes} : ∀ {a b : List RV} {vs : List PV}, retV σ H (a ++ b) = some vs → ∃ va, retV σ H a = some va
  | [], _, _, _ => ⟨[], rfl⟩
  | .tmp t :: a, b, vs, h => by
    simp only [List.cons_append, retV] at h
    split at h
    · rename_i vs2 h2
      obtain ⟨va, h3⟩ := retV_append h2
      exact ⟨σ.getD t .undef :: va, by simp only [retV, h3]⟩
    · cases h
  | .cell u n fl :: a, b, vs, h => by
    simp only [List.cons_append, retV] at h ⊢
    split at h
    · rename_i v hv
      split at h
      · rename_i hc
        split at h
        · rename_i vs2 h2
          obtain ⟨va, h3⟩ := retV_append h2
          exact ⟨v :: va, by simp only [if_pos hc, h3]⟩
        · cases h
      · cases h
    · cases h
theorem retV_mem {σ : List PV} {H : Boxes} {t : Nat} : ∀ {a : List RV} {vs : List PV}, .tmp t ∈ a → retV σ H a = some vs → σ.getD t .undef ∈ vs
  | .tmp t' :: a, vs, hm, h => by
    simp only [retV] at h
    split at h
    · rename_i vs2 h2
      injection h with h
      subst h
      rcases List.mem_cons.1 hm with hm | hm
      · injection hm with hm; subst hm; exact List.mem_cons_self
      · exact List.mem_cons_of_mem _ (retV_mem hm h2)
    · cases h
  | .cell u n fl :: a, vs, hm, h => by
    simp only [retV] at h
    split at h
    · split at h
      · split at h
        · rename_i vs2 h2
          injection h with h
          subst h
          rcases List.mem_cons.1 hm with hm | hm
          · cases hm
          · exact List.mem_cons_of_mem _ (retV_mem hm h2)
        · cases h
      · cases h
    · cases h
theorem retG_mem {E : Env} {N t : Nat} : ∀ {a : List ResultVar} {Γ Γ' : List G} {xs : List Operand} {rvs : List RV}, .tmp t ∈ a → retG E N a Γ = some (Γ', xs, rvs) → .tmp t ∈ rvs
  | .tmp t' :: a, Γ, Γ', xs, rvs, hm, h => by
    simp only [retG] at h
    split at h
    · split at h
      · rename_i Γ2 xs2 rvs2 h2
        simp only [Option.some.injEq, Prod.mk.injEq] at h
        obtain ⟨_, rfl, rfl⟩ := h
        rcases List.mem_cons.1 hm with hm | hm
        · injection hm with hm; subst hm; exact List.mem_cons_self
        · exact List.mem_cons_of_mem _ (retG_mem hm h2)
      · cases h
    · cases h
  | .cell u T :: a, Γ, Γ', xs, rvs, hm, h => by
    simp only [retG] at h
    split at h
    · split at h
      · split at h
        · split at h
          · rename_i Γ2 xs2 rvs2 h2
            simp only [Option.some.injEq, Prod.mk.injEq] at h
            obtain ⟨_, rfl, rfl⟩ := h
            rcases List.mem_cons.1 hm with hm | hm
            · cases hm
            · exact List.mem_cons_of_mem _ (retG_mem hm h2)
          · cases h
        · cases h
      · cases h
    · cases h
theorem retG_append {E : Env} {N : Nat} : ∀ {a b : List ResultVar} {Γ Γ' : List G} {xs : List Operand} {rvs : List RV}, retG E N (a ++ b) Γ = some (Γ', xs, rvs) → ∃ Γa xa ra xb rb, retG E N a Γ = some (Γa, xa, ra) ∧ xa.length = a.length ∧ rvs = ra ++ rb ∧ xs = xa ++ xb
  | [], _, Γ, _, xs, rvs, _ => ⟨Γ, [], [], xs, rvs, rfl, rfl, rfl, rfl⟩
  | .tmp t :: a, b, Γ, Γ', xs, rvs, h => by
    simp only [List.cons_append, retG] at h ⊢
    split at h
    · rename_i ht
      split at h
      · rename_i Γ2 xs2 rvs2 h2
        simp only [Option.some.injEq, Prod.mk.injEq] at h
        obtain ⟨_, rfl, rfl⟩ := h
        obtain ⟨Γa, xa, ra, xb, rb, e1, e2, e3, e4⟩ := retG_append h2
        exact ⟨Γa, .tmp t :: xa, .tmp t :: ra, xb, rb, by simp only [if_pos ht, e1], by simp [e2], by simp [e3], by simp [e4]⟩
      · cases h
    · cases h
  | .cell u T :: a, b, Γ, Γ', xs, rvs, h => by
    simp only [List.cons_append, retG] at h ⊢
    split at h
    · rename_i hu
      split at h
      · rename_i d u' n fl Γ1 hl
        split at h
        · rename_i hc
          split at h
          · rename_i Γ2 xs2 rvs2 h2
            simp only [Option.some.injEq, Prod.mk.injEq] at h
            obtain ⟨_, rfl, rfl⟩ := h
            obtain ⟨Γa, xa, ra, xb, rb, e1, e2, e3, e4⟩ := retG_append h2
            exact ⟨Γa, .tmp Γ.length :: xa, .cell u n fl :: ra, xb, rb, by simp only [if_pos hu, hl, if_pos hc, e1], by simp [e2], by simp [e3], by simp [e4]⟩
          · cases h
        · cases h
      · cases h
    · cases h

theorem ret_sound0 (hE : E.P = X.P) {ts : List ResultVar} {rs : List TK} {Γ : List G} {s : S} {cmd : Cmd} {K : Ks} (he : elabRet0 E ts rs Γ = some cmd) (h : Sim X Γ s) (f : Fr X L0 w0 s.L s.w)
    (hk : wpC Tb X.lim cmd K s.σ s.H) : RetP0 X L0 w0 ts rs K.r s.a s.w := by
  unfold elabRet0 at he
  split at he
  · rename_i Γ1 xs rvs hrg
    split at he
    · rename_i Γ' ss hea
      split at he
      · rename_i hss
        injection he with he
        subst he
        obtain ⟨vs, hrv, hall, hk⟩ := hk
        obtain ⟨s', k1, k2, k3, k4, k5, k6, k7, k8, k9⟩ := retG_sound (X := X) hE ts Γ Γ1 xs rvs s vs hrg h (Nat.le_refl _) (fun _ _ => rfl) (fun _ _ => rfl) hrv
        have hlen : rs.length = xs.length := by
          have : ∀ (ms : List (Option TK)) (xs : List Operand) (Γ Γ' : List G) (ss : List Src), eats ms xs Γ = some (Γ', ss) → ms.length = xs.length := by
            intro ms
            induction ms with
            | nil => intro xs Γ Γ' ss h; cases xs with | nil => rfl | cons => simp [eats] at h
            | cons m ms ih =>
              intro xs Γ Γ' ss h
              cases xs with
              | nil => cases m <;> simp [eats] at h
              | cons x xs =>
                cases m with
                | none =>
                  simp only [eats] at h
                  split at h
                  · rename_i h1; simp [ih _ _ _ _ h1]
                  · cases h
                | some m =>
                  simp only [eats] at h
                  split at h
                  · split at h
                    · rename_i h1; simp [ih _ _ _ _ h1]
                    · cases h
                  · cases h
          simpa using this _ _ _ _ _ hea
        obtain ⟨L1, hs1, hh, hf1, _⟩ := Sim.eats _ _ Γ1 Γ' s' ss 0 k1 hea (fun j m x hm hx => by
          right
          have hm' : valO s'.σ x ∈ vs := by rw [← k8]; exact List.mem_map.2 ⟨x, List.mem_of_getElem? hx, rfl⟩
          simp only [List.all_eq_true, Bool.not_eq_true'] at hall
          have := hall _ hm'
          intro hx; rw [hx] at this; cases this)
        let L2 : Nat → Lab := fun k => match L1 k with
          | .res j => .s j
          | .s _ | .t _ _ => .no
          | l => l
        let s2 : S := { σ := vs, H := eatsH s'.σ s'.H ss, L := L2, bm := s'.bm, a := ⟨(xs.map s'.a.eval).toArray, []⟩, w := s'.w }
        have hL : ∀ k, (∀ j, L1 k ≠ .res j) → (∀ x, L1 k ≠ .s x) → (∀ x j, L1 k ≠ .t x j) → L2 k = L1 k := fun k h1 h2 h3 => by
          cases hl : L1 k <;> first | exact absurd hl (h1 _) | exact absurd hl (h2 _) | exact absurd hl (h3 _ _) | (simp only [L2, hl])
        have hvl : vs.length = xs.length := by rw [← k8]; simp
        have eH : eatsH s'.σ s'.H ss = eatsH s.σ s.H ss := by
          rw [k2]
          refine eatsH_congr fun y hy => ?_
          simp only [List.all_eq_true, decide_eq_true_eq] at hss
          exact k6 y (hss y hy)
        refine ⟨s2, h.defs, by rw [k9], k4, ⟨by simp [s2, hlen, hvl], by simp [s2, hvl], rfl, fun i g hg => ?_, fun r b hb => ?_, fun k hk => ?_, hs1.n0⟩, (f.trans (by rw [k3, k4] at hf1; exact hf1)).trans ⟨by show s'.w.os = s.w.os; rw [k4], by show s'.w.tape = s.w.tape; rw [k4], by show s'.w.output = s.w.output; rw [k4], by show _ ≤ s'.w.heap.size; rw [k4]; exact Nat.le_refl _, fun k _ hl => ⟨by show s'.w.heap[k]? = _; rw [k4], ?_⟩⟩, by show K.r vs (eatsH s'.σ s'.H ss); rw [eH]; exact hk, fun ts1 hh hts => ?_⟩
        · simp only [List.getElem?_map, Option.map_eq_some_iff] at hg
          obtain ⟨tk, htk, rfl⟩ := hg
          have hi : i < xs.length := by rw [← hlen]; exact (List.getElem?_eq_some_iff.1 htk).1
          have ht : xs[i]? = some xs[i] := List.getElem?_eq_getElem hi
          have h1 := hh i tk xs[i] (by simp [htk]) ht
          rw [Nat.zero_add] at h1
          have e1 : s2.v i = valO s'.σ xs[i] := by simp [s2, S.v, ← k8, ht]
          have e2 : s2.c i = s'.a.eval xs[i] := by
            simp only [s2, S.c]
            rw [Array.getD_eq_getD_getElem?]
            simp [ht]
          right
          rw [e1, e2]
          cases tk with
          | fl => exact R.nowhere h1 fun _ h => h
          | dd => trivial
          | own => exact R.relabel (s1 := s2) h1 fun k hk => ⟨by show L2 k = .s i; simp only [L2]; rw [show L1 k = .res i from hk], rfl⟩
          | sh => exact R.relabel (s1 := s2) h1 fun k hk => ⟨by show L2 k = .sh; simp only [L2]; rw [show L1 k = .sh from hk], rfl⟩
          | fz => exact R.relabel (s1 := s2) h1 fun k hk => ⟨by show L2 k = .nw; simp only [L2]; rw [show L1 k = .nw from hk], rfl⟩
        · have hb1 := hs1.box r b hb
          obtain ⟨_, _, _, g2, _⟩ := hb1
          change L1 (s'.bm r) = .bk r at g2
          have hbo := hs1.box r b hb
          refine BoxOk.step (s1 := s2) hbo ⟨?_, rfl⟩ (fun k hk => ⟨?_, rfl⟩) (H_lt hb) (Nat.le_refl _) (fun _ _ => rfl)
          · exact hL (s'.bm r) (by rw [g2]; simp) (by rw [g2]; simp) (by rw [g2]; simp)
          · rcases hk with ⟨j, hk⟩ | hk | hk <;> change L1 k = _ at hk <;> exact hL k (by rw [hk]; simp) (by rw [hk]; simp) (by rw [hk]; simp)
        · have : L1 k = .no := hs1.top k hk
          show L2 k = .no
          simp only [L2]; rw [this]
        · exact hL k (fun j hx => by rw [hx] at hl; exact hl) (fun j hx => by rw [hx] at hl; exact hl) (fun x j hx => by rw [hx] at hl; exact hl)
        · subst hts
          obtain ⟨Γa, xa, ra, xb, rb, u1, u2, u3, _⟩ := retG_append hrg
          obtain ⟨va, hva⟩ := retV_append (by rw [← u3]; exact hrv)
          obtain ⟨sa, _, _, _, _, _, _, _, t8, t9⟩ := retG_sound (X := X) hE ts1 Γ Γa xa ra s va u1 h (Nat.le_refl _) (fun _ _ => rfl) (fun _ _ => rfl) hva
          exact ⟨_, t9, by rw [List.length_map, u2]⟩
      · cases he
    · cases he
  · cases he

theorem ret_sound (hE : E.P = X.P) {Γ : List G} {s : S} {cmd : Cmd} {K : Ks} (he : elabRet E F Γ = some cmd) (h : Sim X Γ s) (f : Fr X L0 w0 s.L s.w)
    (hk : wpC Tb X.lim cmd K s.σ s.H) : RetP X L0 w0 F K.r s.a s.w := by
  unfold elabRet at he
  split at he
  · rename_i hmu
    obtain ⟨s', k1, k2, k3, k4, k5, k6, _⟩ := ret_sound0 hE he h f hk
    refine ⟨s', k1, by rw [hmu]; exact k2, (fun hx => by rw [hmu] at hx; cases hx), k3, by unfold FI.rs'; rw [hmu]; exact k4, k5, k6⟩
  · rename_i T hmu
    have fin : ∀ (hv : ResultVar) (c : Cmd), elabRet0 E (F.ts ++ [hv]) (F.rs ++ [.own]) Γ = some c → wpC Tb X.lim c K s.σ s.H → (∀ v w', (resF s.a.tmps hv).run X.P s.w = .ok v w' → v = X.hd 0) → RetP X L0 w0 F K.r s.a s.w := by
      intro hv c hc hwp hhd
      obtain ⟨s', k1, k2, k3, k4, k5, k6, k7⟩ := ret_sound0 hE hc h f hwp
      obtain ⟨cs1, q1, q2⟩ := k7 F.ts hv rfl
      rw [List.mapM_append] at k2
      simp only [Sem.run_bind, q1, Result.andThen_ok, List.mapM_cons, List.mapM_nil] at k2
      cases hr : (resF s.a.tmps hv).run X.P s.w with
      | ok v w' =>
        rw [hr] at k2
        simp only [Result.andThen_ok, Sem.run_pure, Result.ok.injEq] at k2
        obtain ⟨k2a, k2b⟩ := k2
        have hv1 := hhd v w' hr
        refine ⟨s', k1, ?_, fun _ => ⟨?_, ?_⟩, k3, by unfold FI.rs'; rw [hmu]; exact k4, k5, k6⟩
        · rw [hmu]
          simp only [Option.isSome_some, if_true]
          rw [q1]
          congr 1
          rw [Array.toList_pop, ← k2a]
          simp
        · have := congrArg List.length k2a
          simp at this
          rw [← this, q2]
        · show s'.a.tmps.getD F.ts.length undef = _
          have : s'.a.tmps[F.ts.length]? = some v := by
            rw [← Array.getElem?_toList, ← k2a, List.getElem?_append_right (by omega), q2]; simp
          rw [Array.getD_eq_getD_getElem?, this]
          exact hv1
      | halt => rw [hr] at k2; simp at k2
    split at he
    · rename_i hmo
      refine fin _ _ he hk fun v w' hr => ?_
      simp only [resF, Sem.run_pure, Result.ok.injEq] at hr
      rw [← hr.1]
      have hnu : s.v 0 ≠ .undef := by
        unfold elabRet0 at he
        split at he
        · rename_i Γ1 xs rvs hrg
          split at he
          · split at he
            · injection he with he
              subst he
              obtain ⟨vs, hrv, hall, _⟩ := hk
              have hm := retV_mem (retG_mem (t := 0) (by simp) hrg) hrv
              simp only [List.all_eq_true, Bool.not_eq_true'] at hall
              have := hall _ hm
              intro hx
              change s.σ.getD 0 .undef = _ at hx
              rw [hx] at this; cases this
            · cases he
          · cases he
        · cases he
      exact (h.opnd' (o := .tmp 0) hmo hnu).2
    · split at he
      · rename_i u n hfind hty
        split at he
        · rename_i c hc
          injection he with he
          subst he
          obtain ⟨⟨r, b, h1, h2, h3⟩, hk⟩ := hk
          refine fin _ _ hc hk fun v w' hr => ?_
          have hg : Γ.getD u .dead = .pm 0 := by
            have := List.find?_some hfind
            simpa using this
          have hreal := h.opnd' (o := .tmp u) hg (by show s.σ.getD u .undef ≠ _; rw [h1]; simp)
          obtain ⟨r', b', vals, e, p1, p2, p3, p4, p5, p6, p7⟩ := hreal
          change s.σ.getD u .undef = _ at p1
          rw [h1] at p1
          injection p1 with p1 _
          subst p1
          rw [h2] at p3
          injection p3 with p3
          subst p3
          obtain ⟨vals2, e2, q1, q2, q3, _⟩ := h.box r b h2
          rw [p6] at q1
          injection q1 with q1
          injection q1 with q1 _ _
          subst q1
          rw [hE] at hty
          have hsz : vals.size = n := by omega
          have hev : s.a.tmps.getD u undef = .pointer (some ⟨s.bm r, 0, none⟩) := p2
          have hload := run_loadVar_agg hty (w := s.w) (a := ⟨s.bm r, 0, none⟩) (f := fun q => vals.getD q undef) (fun q hq => by
            have := row_cell (i := q) p6
            rw [this, Array.getElem?_eq_getElem (by omega)]; simp [Array.getD, show q < vals.size by omega])
          simp only [resF, hev, asAddr] at hr
          rw [show (Sem.run X.P (do let __do_lift ← (pure { block := s.bm r, off := 0, spot := none } : Sem Addr); loadVar T __do_lift) s.w) = (loadVar T ⟨s.bm r, 0, none⟩).run X.P s.w by simp] at hr
          rw [hload] at hr
          injection hr with hr _
          rw [← hr, p7]
          congr 1
          apply Array.ext_getElem?
          intro q
          by_cases hq : q < n
          · simp [hq, Array.getD, show q < vals.size by omega]
          · simp [hq, show ¬ q < vals.size by omega]
        · cases he
      · cases he

theorem compile_sound (hE : E.P = X.P) (hm : X.P.follows .mixedOrders = true) (hT : Known X.P E Tb) : ∀ (c : Code) (hs : HS) (Γ : List G) (cmd : Cmd) (o : Outs) (hs' : HS), compile E F c hs Γ = some (cmd, o, hs') →
    ∀ (s : S) (K : Ks), Sim X Γ s → Fr X L0 w0 s.L s.w → wpC Tb X.lim cmd K s.σ s.H → c.wp X.P (QF X L0 w0 F o K) s.a s.w := by
  intro c
  induction c with
  | skip =>
    intro hs Γ cmd o hs' he s K h f hk
    simp only [compile, Option.some.injEq, Prod.mk.injEq] at he
    obtain ⟨rfl, rfl, rfl⟩ := he
    exact wp_skip ⟨Γ, rfl, s, rfl, rfl, h, f, hk⟩
  | label l =>
    intro hs Γ cmd o hs' he s K h f hk
    simp only [compile, Option.some.injEq, Prod.mk.injEq] at he
    obtain ⟨rfl, rfl, rfl⟩ := he
    exact wp_label ⟨Γ, rfl, s, rfl, rfl, h, f, hk⟩
  | region id ops dr =>
    intro hs Γ cmd o hs' he s K h f hk
    simp only [compile] at he
    split at he
    · rename_i gs Γ' hel
      simp only [Option.some.injEq, Prod.mk.injEq] at he
      obtain ⟨rfl, rfl, rfl⟩ := he
      cases dr with
      | true =>
        rw [if_pos rfl] at hel
        exact draw_sound hE hm hT hel h f hk fun a w hg => ⟨Γ', rfl, hg⟩
      | false =>
        rw [if_neg (by simp)] at hel
        exact wp_region_list (elabL_sound hE hT _ Γ Γ' gs s hel h f hk fun a w hg => ⟨Γ', rfl, hg⟩)
    · cases he
  | seq a b iha ihb =>
    intro hs Γ cmd o hs' he s K h f hk
    simp only [compile] at he
    split at he
    · rename_i ca oa hs1 hea
      split at he
      · rename_i hn
        simp only [Option.some.injEq, Prod.mk.injEq] at he
        obtain ⟨rfl, rfl, rfl⟩ := he
        refine wp_seq (wp_mono (iha _ _ _ _ _ hea s _ h f hk) fun e a w hq => ?_)
        cases e with
        | normal => obtain ⟨Γ1, h1, _⟩ := hq; rw [hn] at h1; cases h1
        | exit id => exact hq
        | ret => exact hq
        | goto l => exact hq
        | panic ch => exact hq
        | outgrown => exact hq
      · rename_i Γ1 hn
        split at he
        · rename_i cb ob hs2 heb
          simp only [Option.some.injEq, Prod.mk.injEq] at he
          obtain ⟨rfl, rfl, rfl⟩ := he
          refine wp_seq (wp_mono (iha _ _ _ _ _ hea s _ h f hk) fun e a w hq => ?_)
          cases e with
          | normal =>
            obtain ⟨Γ2, h1, s1, rfl, rfl, h2, f2, k2⟩ := hq
            rw [hn] at h1; injection h1 with h1; subst h1
            refine wp_mono (ihb _ _ _ _ _ heb s1 K h2 f2 k2) fun e a w hq => ?_
            cases e with
            | exit id => obtain ⟨Γ3, h3, h4⟩ := hq; exact ⟨Γ3, by simp [h3], h4⟩
            | normal => exact hq
            | ret => exact hq
            | goto l => exact hq
            | panic ch => exact hq
            | outgrown => exact hq
          | exit id => obtain ⟨Γ3, h3, h4⟩ := hq; exact ⟨Γ3, by simp [h3], h4⟩
          | ret => exact hq
          | goto l => exact hq
          | panic ch => exact hq
          | outgrown => exact hq
        · cases he
    · cases he
  | cond c a b iha ihb =>
    intro hs Γ cmd o hs' he s K h f hk
    simp only [compile] at he
    split at he
    · rename_i hfl
      split at he
      · rename_i ca oa hs1 hea
        split at he
        · rename_i cb ob hs2 heb
          split at he
          · rename_i n hj
            simp only [Option.some.injEq, Prod.mk.injEq] at he
            obtain ⟨rfl, rfl, rfl⟩ := he
            have hle := joinAll_le hj
            simp only [wpC] at hk
            split at hk
            · rename_i t hv
              have hc : s.a.eval c = .bool t := (fl_of h hfl hv (by simp)).bool_inv
              refine wp_cond hc ?_
              cases t with
              | true =>
                rw [if_pos rfl] at hk ⊢
                refine wp_mono (iha _ _ _ _ _ hea s K h f hk) fun e a w hq => ?_
                cases e with
                | normal =>
                  obtain ⟨Γ1, h1, hg⟩ := hq
                  obtain ⟨j, h2, h3⟩ := hle Γ1 (by simp [h1])
                  exact ⟨j, h2, hg.weaken h3⟩
                | exit id => obtain ⟨Γ3, h3, h4⟩ := hq; exact ⟨Γ3, by simp [h3], h4⟩
                | ret => exact hq
                | goto l => exact hq
                | panic ch => exact hq
                | outgrown => exact hq
              | false =>
                rw [if_neg (by simp)] at hk ⊢
                refine wp_mono (ihb _ _ _ _ _ heb s K h f hk) fun e a w hq => ?_
                cases e with
                | normal =>
                  obtain ⟨Γ1, h1, hg⟩ := hq
                  obtain ⟨j, h2, h3⟩ := hle Γ1 (by simp [h1])
                  exact ⟨j, h2, hg.weaken h3⟩
                | exit id => obtain ⟨Γ3, h3, h4⟩ := hq; exact ⟨Γ3, by simp [h3], h4⟩
                | ret => exact hq
                | goto l => exact hq
                | panic ch => exact hq
                | outgrown => exact hq
            · exact hk.elim
          · cases he
        · cases he
      · cases he
    · cases he
  | block id a iha =>
    intro hs Γ cmd o hs' he s K h f hk
    simp only [compile] at he
    split at he
    · rename_i ca oa hs1 hea
      split at he
      · rename_i n hj
        simp only [Option.some.injEq, Prod.mk.injEq] at he
        obtain ⟨rfl, rfl, rfl⟩ := he
        have hle := joinAll_le hj
        refine wp_block (wp_mono (iha _ _ _ _ _ hea s _ h f hk) fun e a w hq => ?_)
        cases e with
        | normal =>
          obtain ⟨Γ1, h1, hg⟩ := hq
          obtain ⟨j, h2, h3⟩ := hle Γ1 (by simp [h1])
          exact ⟨j, h2, hg.weaken h3⟩
        | exit id' =>
          obtain ⟨Γ1, h1, hg⟩ := hq
          show if id' = id then _ else _
          by_cases hid : id' = id
          · subst hid
            rw [if_pos rfl]
            simp only [if_pos] at hg
            obtain ⟨j, h2, h3⟩ := hle Γ1 (by
              simp only [List.mem_append, List.mem_map, List.mem_filter]
              exact .inr ⟨(id', Γ1), ⟨h1, by simp⟩, rfl⟩)
            exact ⟨j, h2, hg.weaken h3⟩
          · rw [if_neg hid]
            simp only [if_neg hid] at hg
            exact ⟨Γ1, by simp [List.mem_filter, h1, hid], hg⟩
        | ret => exact hq
        | goto l => exact hq
        | panic ch => exact hq
        | outgrown => exact hq
      · cases he
    · cases he
  | loop a iha =>
    intro hs Γ cmd o hs' he s K h f hk
    simp only [compile] at he
    split at he
    · rename_i Γh c o' hs1 hit
      split at he
      · rename_i hl
        simp only [Option.some.injEq, Prod.mk.injEq] at he
        obtain ⟨rfl, rfl, rfl⟩ := he
        obtain ⟨hf, hmk, hback⟩ := iter_spec hit
        obtain ⟨I, n0, h0, hstep⟩ := hk
        have head : ∀ {s1 : S} {n : Nat}, Sim X Γh s1 → Fr X L0 w0 s1.L s1.w → I n (maskL (Γh.map fun g => g != .dead) s1.σ) s1.H → ∃ s2 : S, s2.a = s1.a ∧ s2.w = s1.w ∧ Sim X Γh s2 ∧ Fr X L0 w0 s2.L s2.w ∧ I n s2.σ s2.H := by
          intro s1 n hs1 hf1 hI
          rw [maskL_eq] at hI
          exact ⟨{ s1 with σ := maskσ Γh s1.σ }, rfl, rfl, hs1.mask hmk, hf1, hI⟩
        refine wp_loop_ghost (fun n a w => ∃ s2 : S, s2.a = a ∧ s2.w = w ∧ Sim X Γh s2 ∧ Fr X L0 w0 s2.L s2.w ∧ I n s2.σ s2.H) n0 (head (h.weaken hl) f h0) ?_
        rintro n a w ⟨s2, rfl, rfl, hs2, hf2, hI⟩
        refine wp_mono (iha _ _ _ _ _ hf s2 _ hs2 hf2 (hstep n s2.σ s2.H hI)) fun e a w hq => ?_
        cases e with
        | normal =>
          obtain ⟨Γ1, h1, s3, rfl, rfl, h3, f3, m, hm1, k3⟩ := hq
          exact ⟨m, hm1, head (h3.weaken (hback Γ1 h1)) f3 k3⟩
        | exit id => exact hq
        | ret => exact hq
        | goto l => exact hq
        | panic ch => exact hq
        | outgrown => exact hq
      · cases he
    · cases he
  | exit id =>
    intro hs Γ cmd o hs' he s K h f hk
    simp only [compile, Option.some.injEq, Prod.mk.injEq] at he
    obtain ⟨rfl, rfl, rfl⟩ := he
    exact wp_exit ⟨Γ, by simp, s, rfl, rfl, h, f, hk⟩
  | ret =>
    intro hs Γ cmd o hs' he s K h f hk
    simp only [compile] at he
    split at he
    · rename_i c hea
      simp only [Option.some.injEq, Prod.mk.injEq] at he
      obtain ⟨rfl, rfl, rfl⟩ := he
      exact wp_ret (ret_sound hE hea h f hk)
    · cases he
  | rangeFunc => intro hs Γ cmd o hs' he; simp [compile] at he
  | scope => intro hs Γ cmd o hs' he; simp [compile] at he
  | goto => intro hs Γ cmd o hs' he; simp [compile] at he
  | refuse => intro hs Γ cmd o hs' he; simp [compile] at he
end
end Go.Den
set_option autoImplicit false
namespace Go.Den

/-! ### Functions -/
def fiOf (fn : Func) (sg : Sig) : FI := ⟨fn.results.toList, sg.rs, if sg.mu then fn.params[0]? else none⟩
def muOk (fn : Func) (sg : Sig) : Bool := !sg.mu || (fn.params[0]?).isSome
def entryG (sg : Sig) (n : Nat) : List G := entG sg ++ List.replicate (n - sg.ps.length) .dead
def compileFn (E : Env) (fn : Func) (sg : Sig) (hs : HS) : Option Cmd :=
  if muOk fn sg = true then match fn.body with
  | some c => match compile E (fiOf fn sg) c hs (entryG sg fn.ntmps) with
    | some (cmd, o, _) => match o.x with
      | [] => match o.n with
        | none => some cmd
        | some Γ => match elabRet E (fiOf fn sg) Γ with
          | some r => some (.seq cmd r)
          | none => none
      | _ => none
    | none => none
  | none => none
  else none

theorem results_run {fn : Func} {cs : List Value} {tmps : Array Value} {P : Program} {w : World} (h : (fn.results.toList.mapM (resF tmps)).run P w = .ok cs w) :
    (results fn tmps).run P w = .ok (packV cs.toArray) w := by
  have e : results fn tmps = (do let vs ← fn.results.mapM (resF tmps); pure (if h : vs.size = 1 then vs[0] else .tuple vs)) := by
    unfold results
    congr 1
  rw [e, Array.mapM_eq_mapM_toList]
  simp only [Sem.run_bind, Sem.run_map, h, Result.andThen_ok]
  rfl

theorem entG_deps {sg : Sig} {i : Nat} {g : G} (h : (entG sg)[i]? = some g) (x : Nat) : ¬ g.deps x := by
  have plain : ∀ {i : Nat} {g : G}, (sg.ps.map PK.toG)[i]? = some g → ¬ g.deps x := by
    intro i g h
    simp only [List.getElem?_map, Option.map_eq_some_iff] at h
    obtain ⟨p, _, rfl⟩ := h
    cases p <;> exact fun h => h
  unfold entG at h
  split at h
  · by_cases hi : i = 0
    · subst hi
      cases hp : sg.ps.map PK.toG with
      | nil => rw [hp] at h; simp at h
      | cons a l => rw [hp] at h; simp at h; subst h; exact fun h => h
    · rw [List.getElem?_set_ne (Ne.symm hi)] at h
      exact plain h
  · exact plain h

theorem fn_spec {P : Program} {g : Nat} {fn : Func} {sg : Sig} {E : Env} {Tb : Nat → Rel} {R : Rel} {hs : HS} {cmd : Cmd} (hf : P.funcs[g]? = some fn) (hname : (fn.name == "runtime.NumGoroutine") = false) (hE : E.P = P) (hm : P.follows .mixedOrders = true) (hT : Known P E Tb)
    (hc : compileFn E fn sg hs = some cmd)
    (hvc : ∀ (lim : Nat) (vs : List PV) (H : Boxes) (rs : List PV) (H' : Boxes), R lim vs H rs H' → vs.length = sg.ps.length → lim ≤ H.length → (sg.pure = true → lim = H.length) →
      wpC Tb lim cmd ⟨fun _ _ => False, fun rs' H'' => rs' = rs ∧ (sg.pure = true ∨ H'' = H'), fun _ _ _ => False⟩ (vs ++ List.replicate (fn.ntmps - sg.ps.length) .undef) H) : SpecR P g sg R := by
  unfold compileFn at hc
  split at hc
  rotate_left
  · cases hc
  rename_i hmuok
  split at hc
  · rename_i c hb
    split at hc
    · rename_i cmd' o hs' hcomp
      split at hc
      · rename_i hx
        refine ⟨⟨fn, hf, hname, by rw [hb]; rfl⟩, ?_⟩
        rintro X s K rfl hs hn0 hpure hmu ⟨rs, H', hR, hK⟩
        have hlen : s.σ.length = sg.ps.length := by have := hs.lenG; rw [entG_len] at this; exact this.symm
        have hsz : s.a.tmps.size = sg.ps.length := by rw [hs.lenA, hlen]
        refine calls_of_wp hf hb ?_
        rw [hsz]
        -- the frame entered
        let s0 : S := { s with σ := s.σ ++ List.replicate (fn.ntmps - sg.ps.length) .undef, a := ⟨s.a.tmps ++ Array.replicate (fn.ntmps - sg.ps.length) undef, []⟩ }
        have hv : ∀ i, i < sg.ps.length → s0.v i = s.v i := fun i hi => by
          simp only [s0, S.v, List.getD_eq_getElem?_getD]
          rw [List.getElem?_append_left (by omega)]
        have hcc : ∀ i, i < sg.ps.length → s0.c i = s.c i := fun i hi => by
          simp only [s0, S.c, Array.getD_eq_getD_getElem?]
          rw [Array.getElem?_append_left (by omega)]
        have h0 : Sim X (entryG sg fn.ntmps) s0 := by
          refine ⟨by simp [entryG, s0, hlen, entG_len], by simp [s0, hsz, hlen], rfl, fun i gg hg => ?_, fun r b hb => hs.box r b hb, hs.top, hs.n0⟩
          by_cases hi : i < sg.ps.length
          · have hg' : (entG sg)[i]? = some gg := by
              unfold entryG at hg
              rwa [List.getElem?_append_left (by rw [entG_len]; exact hi)] at hg
            refine (hs.slot i gg hg').out ⟨hv i hi, hcc i hi, fun _ _ => ⟨rfl, rfl⟩, fun x hx => ?_, fun _ r b hr => ⟨b, hr, rfl, rfl, fun _ _ => ⟨rfl, rfl⟩⟩, fun _ _ _ _ _ => rfl⟩
            exact absurd hx (entG_deps hg' x)
          · unfold entryG at hg
            rw [List.getElem?_append_right (by rw [entG_len]; omega)] at hg
            have := List.mem_of_getElem? hg
            rw [List.mem_replicate] at this
            rw [this.2]
            exact .inr trivial
        have hl0 : X.lim ≤ s.H.length := Nat.le_trans hs.n0.1 hs.n0.len
        have hwp := hvc X.lim s.σ s.H rs H' hR hlen hl0 (fun hp => by rw [hpure hp, hn0])
        have fin : ∀ a w, RetP X s.L s.w (fiOf fn sg) (fun rs' H'' => rs' = rs ∧ (sg.pure = true ∨ H'' = H')) a w → a.defers = [] ∧ ∃ v, (results fn a.tmps).run X.P w = .ok v w ∧ ∃ s' : S, Ending.returned v = .returned (packV (if sg.mu then s'.a.tmps.pop else s'.a.tmps)) ∧ s'.w = w ∧ Sim X (sg.rs'.map TK.toG) s' ∧ (sg.mu = true → s'.c sg.rs.length = s.c 0) ∧ Fr X s.L s.w s'.L s'.w ∧ ∃ H', (sg.pure = true ∨ H' = s'.H) ∧ K s'.σ H' := by
          rintro a w ⟨s', q1, q2, qm, q3, q4, q5, q6, q7⟩
          have hmi : (fiOf fn sg).mu.isSome = sg.mu := by
            unfold fiOf
            cases hm : sg.mu with
            | false => rfl
            | true => simpa [muOk, hm] using hmuok
          have hrs : (fiOf fn sg).rs' = sg.rs' := by unfold FI.rs' Sig.rs'; rw [hmi]; rfl
          rw [hrs] at q4
          rw [hmi] at q2 qm
          refine ⟨q1, _, results_run q2, s', rfl, q3, q4, fun hm => ?_, q5, H', q7.imp id Eq.symm, by rw [q6]; exact hK⟩
          obtain ⟨m1, m2⟩ := qm hm
          have e1 : (fiOf fn sg).ts.length = sg.rs.length := by
            have := q4.lenA
            rw [← q4.lenG] at this
            simp [Sig.rs', hm] at this
            omega
          rw [← hmu hm, ← m2, e1]
        -- the two endings
        cases hno : o.n with
        | none =>
          rw [hno] at hc
          simp only [Option.some.injEq] at hc
          subst hc
          refine wp_mono (compile_sound (L0 := s.L) (w0 := s.w) hE hm hT c _ _ _ _ _ hcomp s0 _ h0 (Fr.refl _ _ _) hwp) fun e a w hq => ?_
          cases e with
          | normal => obtain ⟨Γ, h1, _⟩ := hq; rw [hno] at h1; cases h1
          | ret => exact fin a w hq
          | exit id => obtain ⟨Γ, h1, _⟩ := hq; rw [hx] at h1; cases h1
          | goto l => exact hq
          | panic ch => exact hq.elim
          | outgrown => exact hq.elim
        | some Γ =>
          rw [hno] at hc
          simp only at hc
          split at hc
          · rename_i r hea
            injection hc with hc
            subst hc
            refine wp_mono (compile_sound (L0 := s.L) (w0 := s.w) hE hm hT c _ _ _ _ _ hcomp s0 _ h0 (Fr.refl _ _ _) hwp) fun e a w hq => ?_
            cases e with
            | normal =>
              obtain ⟨Γ1, h1, s1, rfl, rfl, h2, f2, k2⟩ := hq
              rw [hno] at h1; injection h1 with h1; subst h1
              exact fin _ _ (ret_sound (F := (fiOf fn sg)) hE hea h2 f2 k2)
            | ret => exact fin a w hq
            | exit id => obtain ⟨Γ, h1, _⟩ := hq; rw [hx] at h1; cases h1
            | goto l => exact hq
            | panic ch => exact hq.elim
            | outgrown => exact hq.elim
          · cases hc
      · cases hc
    · cases hc
  · cases hc
end Go.Den
set_option autoImplicit false
namespace Go.Den

/-! ### What a function calls, with its contracts -/
abbrev Deps := List (Nat × Sig × Rel)
def sigOf : Deps → Nat → Option Sig
  | [], _ => none
  | e :: l, g => if g = e.1 then some e.2.1 else sigOf l g
def relOf : Deps → Nat → Rel
  | [], _ => fun _ _ _ _ _ => False
  | e :: l, g => if g = e.1 then e.2.2 else relOf l g
def vsOf (l : Deps) : List (Nat × Nat × Nat) → Nat → Option (Nat × Sig × Nat)
  | [], _ => none
  | (t', g, nc) :: vs, t => if t = t' then (match sigOf l g with
    | some sg => some (g, sg, nc)
    | none => none) else vsOf l vs t
def ckOf : List (Nat × CK) → Nat → Option CK
  | [], _ => none
  | (d', ck) :: l, d => if d = d' then some ck else ckOf l d
def AllSpec (P : Program) : Deps → Prop
  | [] => True
  | e :: l => SpecR P e.1 e.2.1 e.2.2 ∧ AllSpec P l
def mkE (P : Program) (names : List Nat) (hints : List (Nat × CK)) (l : Deps) (vs : List (Nat × Nat × Nat)) : Env :=
  { P := P, names := fun n => names.contains n, hint := ckOf hints, sig := sigOf l, vsig := vsOf l vs }

theorem AllSpec.get {P : Program} : ∀ {l : Deps} {g : Nat} {sg : Sig}, AllSpec P l → sigOf l g = some sg → SpecR P g sg (relOf l g)
  | [], _, _, _, h => by cases h
  | e :: l, g, sg, ha, h => by
    simp only [sigOf] at h
    simp only [relOf]
    split at h
    · rename_i he
      injection h with h
      subst he; subst h
      rw [if_pos rfl]
      exact ha.1
    · rename_i he
      rw [if_neg he]
      exact AllSpec.get ha.2 h
theorem vsOf_sig {l : Deps} : ∀ {vs : List (Nat × Nat × Nat)} {t g nc : Nat} {sg : Sig}, vsOf l vs t = some (g, sg, nc) → sigOf l g = some sg
  | [], _, _, _, _, h => by cases h
  | (t', g', nc') :: vs, t, g, nc, sg, h => by
    simp only [vsOf] at h
    split at h
    · split at h
      · rename_i sg' hs
        simp only [Option.some.injEq, Prod.mk.injEq] at h
        obtain ⟨rfl, rfl, rfl⟩ := h
        exact hs
      · cases h
    · exact vsOf_sig h
theorem known {P : Program} {names : List Nat} {hints : List (Nat × CK)} {l : Deps} {vs : List (Nat × Nat × Nat)} (h : AllSpec P l) : Known P (mkE P names hints l vs) (relOf l) :=
  ⟨fun _ _ hs => h.get hs, fun _ _ _ _ hs => h.get (vsOf_sig hs)⟩

/-- A function's contract, out of what is to be shown of its commands. -/
theorem fnSpec {P : Program} {g : Nat} {fn : Func} {sg : Sig} {names : List Nat} {hints : List (Nat × CK)} {l : Deps} {vs : List (Nat × Nat × Nat)} {R : Rel} {hs : HS} {cmd : Cmd} (hm : P.follows .mixedOrders = true) (hf : P.funcs[g]? = some fn) (hname : (fn.name == "runtime.NumGoroutine") = false)
    (hc : compileFn (mkE P names hints l vs) fn sg hs = some cmd) (ha : AllSpec P l)
    (hvc : ∀ (lim : Nat) (vs : List PV) (H : Boxes) (rs : List PV) (H' : Boxes), R lim vs H rs H' → vs.length = sg.ps.length → lim ≤ H.length → (sg.pure = true → lim = H.length) →
      wpC (relOf l) lim cmd ⟨fun _ _ => False, fun rs' H'' => rs' = rs ∧ (sg.pure = true ∨ H'' = H'), fun _ _ _ => False⟩ (vs ++ List.replicate (fn.ntmps - sg.ps.length) .undef) H) : SpecR P g sg R :=
  fn_spec hf hname rfl hm (known ha) hc hvc
end Go.Den
set_option autoImplicit false
namespace Go.Den

/-! ### The same as functions of what follows: to be reckoned -/
def guardK (v : PV) (b : Bool) (p q : Prop) : Prop :=
  match v with
  | .bool c => (c = b → p) ∧ (c ≠ b → q)
  | .no => q
  | _ => False
def condK (v : PV) (p q : Prop) : Prop :=
  match v with
  | .bool t => (t = true → p) ∧ (t = false → q)
  | _ => False
def pickK (c a b : PV) (K : PV → Prop) : Prop :=
  match c with
  | .bool t => (t = true → a ≠ .undef ∧ K a) ∧ (t = false → b ≠ .undef ∧ K b)
  | _ => False
def fnK (v : PV) (g nc : Nat) (K : List PV → Prop) : Prop :=
  match v with
  | .fn g' caps => g' = g ∧ caps.length = nc ∧ K caps
  | _ => False
def hK (H : Option Boxes) (K : Boxes → Prop) : Prop :=
  match H with
  | some H => K H
  | none => False
def callK (R : Rel) (lim : Nat) (sg : Sig) (vs : List PV) (H1 : Boxes) (K : PV → Boxes → Prop) : Prop :=
  argsV (limV sg.pure lim H1) H1 sg.ps vs ∧ ∃ rs H2, R (limV sg.pure lim H1) vs H1 rs H2 ∧ K (packP rs) (if sg.pure then H1 else mergeH lim H1 H2)

def backK (r : Option (List PV × Boxes)) (K : List PV → Boxes → Prop) : Prop :=
  match r with
  | some (σ1, H') => K σ1 H'
  | none => False
def aggK (v : PV) (K : List PV → Prop) : Prop :=
  match v with
  | .agg xs => K xs
  | _ => False
def ex (Tb : Nat → Rel) (lim : Nat) : COp → List PV → Boxes → (PV → Boxes → Prop) → Prop
  | .copy _ x, σ, H, K => K (valO σ x) H
  | .take _ x src, σ, H, K => (valO σ x).isUndef = false ∧ K (valO σ x) (eatH σ H src)
  | .bin _ op x y, σ, H, K => optK (binV op (valO σ x) (valO σ y)) fun v => K v H
  | .un _ op x, σ, H, K => optK (unV op (valO σ x)) fun v => K v H
  | .conv _ k x, σ, H, K => optK (convV k (valO σ x)) fun v => K v H
  | .pick _ c a b, σ, H, K => pickK (valO σ c) (valO σ a) (valO σ b) fun v => K v H
  | .beq _ neg x y, σ, H, K => optK (beqV neg (valO σ x) (valO σ y)) fun v => K v H
  | .len _ str x, σ, H, K => optK (lenV str (valO σ x)) fun v => K v H
  | .isnil _ neg x, σ, H, K => optK (isnilV neg (valO σ x)) fun v => K v H
  | .mm _ mx x y, σ, H, K => optK (mmV mx (valO σ x) (valO σ y)) fun v => K v H
  | .box _ ck x src, σ, H, K => (valO σ x).isUndef = false ∧ K (.ref H.length 0) (eatH σ H src ++ [(ck, (valO σ x).cells)])
  | .alloc _ ck zs, _, H, K => K (.ref H.length 0) (H ++ [(ck, zs)])
  | .loadB _ u n fl, σ, H, K => optK (loadV H (valO σ u) n) fun v => (fl = true → v.isFlat = true) ∧ K v H
  | .storeB u x n src, σ, H, K => (valO σ x).isUndef = false ∧ hK (storeV (eatH σ H src) (valO σ u) (valO σ x) n) fun H' => K .undef H'
  | .fadd _ u off, σ, H, K => optK (faddV (valO σ u) off) fun v => K v H
  | .iadd _ t e i, σ, H, K => optK (iaddV e (σ.getD t .undef) (valO σ i)) fun v => K v H
  | .loadE _ t u n fl, σ, H, K => optK (elemV (σ.getD t .undef) (σ.getD u .undef) n) fun v => (fl = true → v.isFlat = true) ∧ K v H
  | .storeE x u n y, σ, H, K => optK (storeEV (σ.getD x .undef) (σ.getD u .undef) (valO σ y) n) fun v => K v H
  | .mks _ e by_ z l c, σ, H, K => optK (mksV e by_ z (valO σ l) (valO σ c)) fun v => K v H
  | .lit _ e n xs ss, σ, H, K => litOk n (xs.map (valO σ)) = true ∧ K (.sl e (xs.map (valO σ))) (eatsH σ H ss)
  | .call _ g sg xs ss, σ, H, K => callK (Tb g) lim sg (xs.map (valO σ)) (eatsH σ H ss) K
  | .callv _ f g nc sg xs ss, σ, H, K => fnK (valO σ f) g nc fun caps => callK (Tb g) lim sg (xs.map (valO σ) ++ caps) (eatsH σ H ss) K
  | .mkfn _ g xs, σ, H, K => isRefs (xs.map (valO σ)) = true ∧ K (.fn g (xs.map (valO σ))) H
  | .app _ e by_ fl x y ss, σ, H, K => optK (appV e by_ fl (valO σ x) (valO σ y)) fun v => K v (eatsH σ H ss)
  | .ext _ t j, σ, H, K => optK (extV (σ.getD t .undef) j) fun v => K v H
  | .sidx _ x i, σ, H, K => optK (sidxV (valO σ x) (valO σ i)) fun v => K v H
  | .callm _ g sg x xs src, σ, H, K => argsV (limV true lim (eatH σ H src)) (eatH σ H src) sg.ps ((x :: xs).map (valO σ)) ∧ ∃ k w H2, Tb g (limV true lim (eatH σ H src)) ((x :: xs).map (valO σ)) (eatH σ H src) [k, w] H2 ∧ w.isUndef = false ∧ backK (backV σ (eatH σ H src) src w) fun σ1 H' => K (.tup (k :: σ1)) H'
  | .boxm _ x, σ, H, K => aggK (valO σ x) fun xs => K (.ref H.length 0) (H ++ [(.own, xs)])
  | .ssl _ x lo hi, σ, H, K => optK (sslV (valO σ x) (lo.map (valO σ)) (hi.map (valO σ))) fun v => K v H
  | .sli _ e x lo hi mx, σ, H, K => optK (sliV e (valO σ x) (lo.map (valO σ)) (hi.map (valO σ)) (mx.map (valO σ))) fun v => K v H
  | .build _ zs ps ss, σ, H, K => optK (buildP zs (ps.map fun p => (p.1, p.2.1, valO σ p.2.2))) fun v => K v (eatsH σ H ss)
  | _, _, _, _ => False

theorem isUndef_ne {v : PV} (h : v.isUndef = false) : v ≠ .undef := by rintro rfl; cases h
theorem optK_ex {x : Option PV} {K : PV → Prop} (h : optK x K) : ∃ v, x = some v ∧ K v := h.get
theorem callK_ex {R : Rel} {lim : Nat} {sg : Sig} {vs : List PV} {H1 : Boxes} {K : PV → Boxes → Prop} (h : callK R lim sg vs H1 K) : ∃ v H', callR R lim sg vs H1 v H' ∧ K v H' := by
  obtain ⟨h1, rs, H2, h2, h3⟩ := h
  exact ⟨_, _, ⟨h1, rs, H2, h2, rfl, rfl⟩, h3⟩

theorem ex_run {Tb : Nat → Rel} {lim : Nat} {cop : COp} {σ : List PV} {H : Boxes} {K : PV → Boxes → Prop} (h : ex Tb lim cop σ H K) : ∃ v H', cop.run Tb lim σ H v H' ∧ K v H' := by
  have opt : ∀ {x : Option PV}, (optK x fun v => K v H) → ∃ v H', (x = some v ∧ H' = H) ∧ K v H' := fun h => by
    obtain ⟨v, h1, h2⟩ := h.get
    exact ⟨v, H, ⟨h1, rfl⟩, h2⟩
  cases cop <;> simp only [ex, COp.run] at h ⊢
  case copy d x => exact ⟨_, _, ⟨rfl, rfl⟩, h⟩
  case take d x s => exact ⟨_, _, ⟨isUndef_ne h.1, rfl, rfl⟩, h.2⟩
  case bin => exact opt h
  case un => exact opt h
  case conv => exact opt h
  case pick d c a b =>
    unfold pickK at h
    split at h
    · rename_i t hc
      cases t
      · obtain ⟨h1, h2⟩ := h.2 rfl
        exact ⟨_, _, ⟨⟨false, hc, rfl, h1⟩, rfl⟩, h2⟩
      · obtain ⟨h1, h2⟩ := h.1 rfl
        exact ⟨_, _, ⟨⟨true, hc, rfl, h1⟩, rfl⟩, h2⟩
    · exact h.elim
  case beq => exact opt h
  case len => exact opt h
  case isnil => exact opt h
  case mm => exact opt h
  case box d ck x s => exact ⟨_, _, ⟨isUndef_ne h.1, rfl, rfl⟩, h.2⟩
  case alloc d ck zs => exact ⟨_, _, ⟨rfl, rfl⟩, h⟩
  case loadB d u n fl =>
    obtain ⟨v, h1, h2, h3⟩ := h.get
    exact ⟨v, H, ⟨⟨h1, h2⟩, rfl⟩, h3⟩
  case storeB u x n s =>
    obtain ⟨h1, h2⟩ := h
    unfold hK at h2
    split at h2
    · rename_i H' hs; exact ⟨_, _, ⟨isUndef_ne h1, hs, rfl⟩, h2⟩
    · exact h2.elim
  case fadd => exact opt h
  case iadd => exact opt h
  case loadE d t u n fl =>
    obtain ⟨v, h1, h2, h3⟩ := h.get
    exact ⟨v, H, ⟨⟨h1, h2⟩, rfl⟩, h3⟩
  case storeE => exact opt h
  case mks => exact opt h
  case lit d e n xs ss => exact ⟨_, _, ⟨h.1, rfl, rfl⟩, h.2⟩
  case call d g sg xs ss => exact callK_ex h
  case callv d f g nc sg xs ss =>
    unfold fnK at h
    split at h
    · rename_i g' caps hv
      obtain ⟨rfl, h2, h3⟩ := h
      obtain ⟨v, H', h4, h5⟩ := callK_ex h3
      exact ⟨v, H', ⟨caps, hv, h2, h4⟩, h5⟩
    · exact h.elim
  case mkfn d g xs => exact ⟨_, _, ⟨h.1, rfl, rfl⟩, h.2⟩
  case ext => exact opt h
  case app d e b fl x y ss =>
    obtain ⟨v, h1, h2⟩ := h.get
    exact ⟨v, _, ⟨h1, rfl⟩, h2⟩
  case sidx => exact opt h
  case ssl => exact opt h
  case callm d g sg x xs src =>
    obtain ⟨h1, k, w, H2, h2, h3, h4⟩ := h
    unfold backK at h4
    split at h4
    · rename_i σ1 H' hb
      exact ⟨_, _, ⟨h1, k, w, H2, σ1, h2, isUndef_ne h3, hb, rfl⟩, h4⟩
    · exact h4.elim
  case boxm d x =>
    unfold aggK at h
    split at h
    · rename_i xs hx; exact ⟨_, _, ⟨xs, hx, rfl, rfl⟩, h⟩
    · exact h.elim
  case sli => exact opt h
  case build d zs ps ss =>
    obtain ⟨v, h1, h2⟩ := h.get
    exact ⟨v, _, ⟨h1, rfl⟩, h2⟩

def wpX (Tb : Nat → Rel) (lim : Nat) : List GOp → KV → List PV → Boxes → Prop
  | [], K, σ, H => K σ H
  | ⟨cop, none, _, _⟩ :: gs, K, σ, H => ex Tb lim cop σ H fun v H' => wpX Tb lim gs K (cop.upd σ v) H'
  | ⟨cop, some (j, b), d, fl⟩ :: gs, K, σ, H => guardK (σ.getD j .undef) b (ex Tb lim cop σ H fun v H' => wpX Tb lim gs K (cop.upd σ v) H') (wpX Tb lim gs K (setD σ d (skipV fl)) H)

theorem run_skip {Tb : Nat → Rel} {lim : Nat} {cop : COp} {j : Nat} {b : Bool} {d : Option Nat} {fl : Bool} {σ : List PV} {H : Boxes} (h : σ.getD j .undef = .no ∨ ∃ c, σ.getD j .undef = .bool c ∧ c ≠ b) : GOp.run Tb lim ⟨cop, some (j, b), d, fl⟩ σ H (setD σ d (skipV fl)) H := by
  unfold GOp.run
  simp only
  rcases h with h | ⟨c, h, hc⟩
  · rw [h]; simp
  · rw [h]; simp [hc]
theorem run_go {Tb : Nat → Rel} {lim : Nat} {cop : COp} {j : Nat} {b : Bool} {d : Option Nat} {fl : Bool} {σ : List PV} {H H' : Boxes} {v : PV} (h : σ.getD j .undef = .bool b) (hr : cop.run Tb lim σ H v H') : GOp.run Tb lim ⟨cop, some (j, b), d, fl⟩ σ H (cop.upd σ v) H' := by
  unfold GOp.run
  simp only
  rw [h]; simp only [if_true]; exact ⟨v, hr, rfl⟩
theorem wpX_sound {Tb : Nat → Rel} {lim : Nat} {K : KV} : ∀ {gs : List GOp} {σ : List PV} {H : Boxes}, wpX Tb lim gs K σ H → wpGs Tb lim gs K σ H
  | [], σ, H, h => h
  | ⟨cop, none, d, fl⟩ :: gs, σ, H, h => by
    obtain ⟨v, H', h1, h2⟩ := ex_run h
    exact ⟨_, H', ⟨v, h1, rfl⟩, wpX_sound h2⟩
  | ⟨cop, some (j, b), d, fl⟩ :: gs, σ, H, h => by
    simp only [wpX, guardK] at h
    split at h
    · rename_i c hc
      by_cases hcb : c = b
      · obtain ⟨v, H', h1, h2⟩ := ex_run (h.1 hcb)
        exact ⟨_, H', run_go (by rw [hc, hcb]) h1, wpX_sound h2⟩
      · exact ⟨_, H, run_skip (.inr ⟨c, hc, hcb⟩), wpX_sound (h.2 hcb)⟩
    · rename_i hc
      exact ⟨_, H, run_skip (.inl hc), wpX_sound h⟩
    · exact h.elim

def rvK (σ : List PV) (H : Boxes) : List RV → (List PV → Prop) → Prop
  | [], K => K []
  | .tmp t :: is, K => (σ.getD t .undef).isUndef = false ∧ rvK σ H is fun vs => K (σ.getD t .undef :: vs)
  | .cell u n fl :: is, K => optK (loadV H (σ.getD u .undef) n) fun v => v.isUndef = false ∧ (fl = true → v.isFlat = true) ∧ rvK σ H is fun vs => K (v :: vs)
theorem rvK_sound {σ : List PV} {H : Boxes} : ∀ {is : List RV} {K : List PV → Prop}, rvK σ H is K → ∃ vs, retV σ H is = some vs ∧ vs.all (fun v => !v.isUndef) = true ∧ K vs
  | [], K, h => ⟨[], rfl, rfl, h⟩
  | .tmp t :: is, K, h => by
    obtain ⟨h1, h2⟩ := h
    obtain ⟨vs, h3, h4, h5⟩ := rvK_sound h2
    exact ⟨_, by simp only [retV, h3], by rw [List.all_cons, h1, h4]; rfl, h5⟩
  | .cell u n fl :: is, K, h => by
    obtain ⟨v, h1, h2, h3, h4⟩ := h.get
    obtain ⟨vs, h5, h6, h7⟩ := rvK_sound h4
    refine ⟨v :: vs, ?_, by rw [List.all_cons, h2, h6]; rfl, h7⟩
    simp only [retV, h1, h5]
    rw [if_pos h3]

/-- A loop's claim: a relation that bears a number. -/
def loopK (ms : List Bool) (σ : List PV) (H : Boxes) (body : KV → KV) : Prop :=
  ∃ (I : Nat → KV) (n0 : Nat), I n0 (maskL ms σ) H ∧ ∀ n σ H, I n σ H → body (fun σ' H' => ∃ m, m < n ∧ I m (maskL ms σ') H') σ H

def wpV (Tb : Nat → Rel) (lim : Nat) : Cmd → KV → KV → (Nat → KV) → List PV → Boxes → Prop
  | .skip, n, _, _, σ, H => n σ H
  | .ops l, n, _, _, σ, H => wpX Tb lim l n σ H
  | .seq a b, n, r, x, σ, H => wpV Tb lim a (fun σ H => wpV Tb lim b n r x σ H) r x σ H
  | .cond c a b, n, r, x, σ, H => condK (valO σ c) (wpV Tb lim a n r x σ H) (wpV Tb lim b n r x σ H)
  | .block id a, n, r, x, σ, H => wpV Tb lim a n r (fun i => if i = id then n else x i) σ H
  | .loop ms a, _, r, x, σ, H => loopK ms σ H fun n σ H => wpV Tb lim a n r x σ H
  | .exit id, _, _, x, σ, H => x id σ H
  | .ret ts ss, _, r, _, σ, H => rvK σ H ts fun vs => r vs (eatsH σ H ss)
  | .dead, _, _, _, _, _ => False
  | .retm u n c, k, r, x, σ, H => (match σ.getD u .undef with
    | .ref q 0 => (match H[q]? with
      | some b => b.2.length = n
      | none => False)
    | _ => False) ∧ wpV Tb lim c k r x σ H

theorem wpGs_mono {Tb : Nat → Rel} {lim : Nat} {K K' : KV} (hk : ∀ σ H, K σ H → K' σ H) : ∀ {gs : List GOp} {σ : List PV} {H : Boxes}, wpGs Tb lim gs K σ H → wpGs Tb lim gs K' σ H
  | [], σ, H, h => hk _ _ h
  | g :: gs, σ, H, ⟨σ', H', h1, h2⟩ => ⟨σ', H', h1, wpGs_mono hk h2⟩
theorem wpC_mono {Tb : Nat → Rel} {lim : Nat} : ∀ {c : Cmd} {K K' : Ks} {σ : List PV} {H : Boxes}, (∀ σ H, K.n σ H → K'.n σ H) → (∀ σ H, K.r σ H → K'.r σ H) → (∀ i σ H, K.x i σ H → K'.x i σ H) → wpC Tb lim c K σ H → wpC Tb lim c K' σ H
  | .skip, K, K', σ, H, hn, hr, hx, h => hn _ _ h
  | .ops l, K, K', σ, H, hn, hr, hx, h => wpGs_mono hn h
  | .seq a b, K, K', σ, H, hn, hr, hx, h => wpC_mono (c := a) (K := { K with n := wpC Tb lim b K }) (K' := { K' with n := wpC Tb lim b K' }) (fun σ H h => wpC_mono (c := b) hn hr hx h) hr hx h
  | .cond c a b, K, K', σ, H, hn, hr, hx, h => by
    simp only [wpC] at h ⊢
    split at h
    · split at h
      · rename_i ht; rw [if_pos ht]; exact wpC_mono (c := a) hn hr hx h
      · rename_i ht; rw [if_neg ht]; exact wpC_mono (c := b) hn hr hx h
    · exact h.elim
  | .block id a, K, K', σ, H, hn, hr, hx, h => wpC_mono (c := a) (K := { K with x := fun i => if i = id then K.n else K.x i }) (K' := { K' with x := fun i => if i = id then K'.n else K'.x i }) hn hr (fun i σ H h => by
      by_cases hi : i = id
      · simp only [if_pos hi] at h ⊢; exact hn _ _ h
      · simp only [if_neg hi] at h ⊢; exact hx i _ _ h) h
  | .loop ms a, K, K', σ, H, hn, hr, hx, ⟨I, n0, h0, hs⟩ => ⟨I, n0, h0, fun n σ H hi => wpC_mono (c := a) (K := { K with n := fun σ' H' => ∃ m, m < n ∧ I m (maskL ms σ') H' }) (K' := { K' with n := fun σ' H' => ∃ m, m < n ∧ I m (maskL ms σ') H' }) (fun _ _ h => h) hr hx (hs n σ H hi)⟩
  | .exit id, K, K', σ, H, hn, hr, hx, h => hx id _ _ h
  | .ret ts ss, K, K', σ, H, hn, hr, hx, ⟨vs, h1, h2, h3⟩ => ⟨vs, h1, h2, hr _ _ h3⟩
  | .dead, K, K', σ, H, hn, hr, hx, h => h
  | .retm u n c, K, K', σ, H, hn, hr, hx, ⟨h1, h2⟩ => ⟨h1, wpC_mono (c := c) hn hr hx h2⟩

theorem wpV_sound {Tb : Nat → Rel} {lim : Nat} : ∀ {c : Cmd} {n r : KV} {x : Nat → KV} {σ : List PV} {H : Boxes}, wpV Tb lim c n r x σ H → wpC Tb lim c ⟨n, r, x⟩ σ H
  | .skip, n, r, x, σ, H, h => h
  | .ops l, n, r, x, σ, H, h => wpX_sound h
  | .seq a b, n, r, x, σ, H, h => wpC_mono (c := a) (K := ⟨fun σ H => wpV Tb lim b n r x σ H, r, x⟩) (fun σ H h => wpV_sound (c := b) h) (fun _ _ h => h) (fun _ _ _ h => h) (wpV_sound (c := a) h)
  | .cond c a b, n, r, x, σ, H, h => by
    simp only [wpV, condK] at h
    simp only [wpC]
    split at h
    · rename_i t ht
      (try rw [ht])
      cases t
      · exact wpV_sound (c := b) (h.2 rfl)
      · exact wpV_sound (c := a) (h.1 rfl)
    · exact h.elim
  | .block id a, n, r, x, σ, H, h => wpV_sound (c := a) (x := fun i => if i = id then n else x i) h
  | .loop ms a, n, r, x, σ, H, ⟨I, n0, h0, hs⟩ => ⟨I, n0, h0, fun m σ H hi => wpV_sound (c := a) (n := fun σ' H' => ∃ k, k < m ∧ I k (maskL ms σ') H') (hs m σ H hi)⟩
  | .exit id, n, r, x, σ, H, h => h
  | .ret ts ss, n, r, x, σ, H, h => rvK_sound h
  | .dead, n, r, x, σ, H, h => h
  | .retm u m c, n, r, x, σ, H, ⟨h1, h2⟩ => by
    refine ⟨?_, wpV_sound (c := c) h2⟩
    split at h1
    · rename_i q hq
      split at h1
      · rename_i b hb; exact ⟨q, b, hq, hb, h1⟩
      · exact h1.elim
    · exact h1.elim

/-- A function's contract, out of what is to be reckoned. -/
theorem fnX {P : Program} {g : Nat} {fn : Func} {sg : Sig} {names : List Nat} {hints : List (Nat × CK)} {l : Deps} {vs : List (Nat × Nat × Nat)} {R : Rel} {hs : HS} {cmd : Cmd} (nt : Nat) (hm : P.follows .mixedOrders = true) (hf : P.funcs[g]? = some fn) (hname : (fn.name == "runtime.NumGoroutine") = false)
    (hc : compileFn (mkE P names hints l vs) fn sg hs = some cmd) (hnt : fn.ntmps - sg.ps.length = nt) (ha : AllSpec P l)
    (hvc : ∀ (lim : Nat) (vs : List PV) (H : Boxes) (rs : List PV) (H' : Boxes), R lim vs H rs H' → vs.length = sg.ps.length → lim ≤ H.length → (sg.pure = true → lim = H.length) →
      wpV (relOf l) lim cmd (fun _ _ => False) (fun rs' H'' => rs' = rs ∧ (sg.pure = true ∨ H'' = H')) (fun _ _ _ => False) (vs ++ List.replicate nt .undef) H) : SpecR P g sg R :=
  fnSpec hm hf hname hc ha fun lim vs H rs H' hR h1 h2 h3 => wpV_sound (by rw [hnt]; exact hvc lim vs H rs H' hR h1 h2 h3)
end Go.Den
set_option autoImplicit false
namespace Go.Den

/-! ### How the reckoning goes: all of it told by data -/
inductive Frm where
  | s (b : Cmd)
  | bl (id : Nat)
  | lp (J : KV)
def res (Tb : Nat → Rel) (lim : Nat) (r : KV) : List Frm → KV × (Nat → KV)
  | [] => (fun _ _ => False, fun _ _ _ => False)
  | .s b :: st => (fun σ H => wpV Tb lim b (res Tb lim r st).1 r (res Tb lim r st).2 σ H, (res Tb lim r st).2)
  | .bl id :: st => ((res Tb lim r st).1, fun i => if i = id then (res Tb lim r st).1 else (res Tb lim r st).2 i)
  | .lp J :: st => (J, (res Tb lim r st).2)
/-- What the parts of a reckoning share: the contracts, the bound, what must hold at the return. -/
structure Bs where
  Tb : Nat → Rel
  lim : Nat
  r : KV
def goN (B : Bs) (st : List Frm) (σ : List PV) (H : Boxes) : Prop := (res B.Tb B.lim B.r st).1 σ H
def goX (B : Bs) (i : Nat) (st : List Frm) (σ : List PV) (H : Boxes) : Prop := (res B.Tb B.lim B.r st).2 i σ H
def goC (B : Bs) (c : Cmd) (st : List Frm) (σ : List PV) (H : Boxes) : Prop := wpV B.Tb B.lim c (res B.Tb B.lim B.r st).1 B.r (res B.Tb B.lim B.r st).2 σ H
def goO (B : Bs) (gs : List GOp) (st : List Frm) (σ : List PV) (H : Boxes) : Prop := wpX B.Tb B.lim gs (res B.Tb B.lim B.r st).1 σ H
def goL (B : Bs) (ms : List Bool) (a : Cmd) (st : List Frm) (σ : List PV) (H : Boxes) : Prop := goC B (.loop ms a) st σ H
def goR (B : Bs) (ts : List RV) (ss : List Src) (vs : List PV) (σ : List PV) (H : Boxes) : Prop := rvK σ H ts fun us => B.r (vs ++ us) (eatsH σ H ss)
def goIf (B : Bs) (v : PV) (a b : Cmd) (st : List Frm) (σ : List PV) (H : Boxes) : Prop := condK v (goC B a st σ H) (goC B b st σ H)
def goG (B : Bs) (v : PV) (b : Bool) (cop : COp) (d : Option Nat) (fl : Bool) (gs : List GOp) (st : List Frm) (σ : List PV) (H : Boxes) : Prop :=
  guardK v b (goO B (⟨cop, none, d, fl⟩ :: gs) st σ H) (goO B gs st (setD σ d (skipV fl)) H)
def goV (B : Bs) (v : Option PV) (d : Nat) (gs : List GOp) (st : List Frm) (σ : List PV) (H : Boxes) : Prop := optK v fun v => goO B gs st (σ.set d v) H
def goF (B : Bs) (v : Option PV) (fl : Bool) (d : Nat) (gs : List GOp) (st : List Frm) (σ : List PV) (H : Boxes) : Prop := optK v fun v => (fl = true → v.isFlat = true) ∧ goO B gs st (σ.set d v) H
def goH (B : Bs) (H : Option Boxes) (gs : List GOp) (st : List Frm) (σ : List PV) : Prop := hK H fun H => goO B gs st σ H
def goP (B : Bs) (c x y : PV) (d : Nat) (gs : List GOp) (st : List Frm) (σ : List PV) (H : Boxes) : Prop := pickK c x y fun v => goO B gs st (σ.set d v) H
/-- A call. -/
def goCall (B : Bs) (R : Rel) (sg : Sig) (vs : List PV) (H1 : Boxes) (d : Option Nat) (gs : List GOp) (st : List Frm) (σ : List PV) : Prop := callK R B.lim sg vs H1 fun v H' => goO B gs st (setD σ d v) H'
def goFn (B : Bs) (f : PV) (g nc : Nat) (sg : Sig) (vs : List PV) (H1 : Boxes) (d : Option Nat) (gs : List GOp) (st : List Frm) (σ : List PV) : Prop := fnK f g nc fun caps => goCall B (B.Tb g) sg (vs ++ caps) H1 d gs st σ

def goBk (B : Bs) (r : Option (List PV × Boxes)) (k : PV) (d : Nat) (gs : List GOp) (st : List Frm) : Prop := backK r fun σ1 H' => goO B gs st (σ1.set d k) H'
/-- A call that changes what its first argument holds. -/
def goM (B : Bs) (R : Rel) (sg : Sig) (vs : List PV) (src : Src) (H1 : Boxes) (d : Nat) (gs : List GOp) (st : List Frm) (σ : List PV) : Prop :=
  argsV (limV true B.lim H1) H1 sg.ps vs ∧ ∃ k w H2, R (limV true B.lim H1) vs H1 [k, w] H2 ∧ w.isUndef = false ∧ goBk B (backV σ H1 src w) k d gs st
def goA (B : Bs) (v : PV) (d : Nat) (gs : List GOp) (st : List Frm) (σ : List PV) (H : Boxes) : Prop := aggK v fun xs => goO B gs st (σ.set d (.ref H.length 0)) (H ++ [(.own, xs)])
def goW (B : Bs) (v : PV) (n : Nat) (c : Cmd) (st : List Frm) (σ : List PV) (H : Boxes) : Prop := (match v with
  | .ref q 0 => (match H[q]? with
    | some b => b.2.length = n
    | none => False)
  | _ => False) ∧ goC B c st σ H

section
variable {B : Bs} {st : List Frm} {σ : List PV} {H : Boxes} {gs : List GOp} {p : Option Nat} {f : Bool}
@[simp] theorem goN_nil : goN B [] σ H = False := propext Iff.rfl
@[simp] theorem goN_s {b : Cmd} : goN B (.s b :: st) σ H = goC B b st σ H := propext Iff.rfl
@[simp] theorem goN_bl {id : Nat} : goN B (.bl id :: st) σ H = goN B st σ H := propext Iff.rfl
@[simp] theorem goN_lp {J : KV} : goN B (.lp J :: st) σ H = J σ H := propext Iff.rfl
@[simp] theorem goX_nil {i : Nat} : goX B i [] σ H = False := propext Iff.rfl
@[simp] theorem goX_s {b : Cmd} {i : Nat} : goX B i (.s b :: st) σ H = goX B i st σ H := propext Iff.rfl
@[simp] theorem goX_bl {id i : Nat} : goX B i (.bl id :: st) σ H = if i = id then goN B st σ H else goX B i st σ H := by
  show (if i = id then (res B.Tb B.lim B.r st).1 else (res B.Tb B.lim B.r st).2 i) σ H = _
  split <;> rfl
@[simp] theorem goX_lp {J : KV} {i : Nat} : goX B i (.lp J :: st) σ H = goX B i st σ H := propext Iff.rfl
@[simp] theorem goC_skip : goC B .skip st σ H = goN B st σ H := propext Iff.rfl
@[simp] theorem goC_ops {l : List GOp} : goC B (.ops l) st σ H = goO B l st σ H := propext Iff.rfl
@[simp] theorem goC_seq {a b : Cmd} : goC B (.seq a b) st σ H = goC B a (.s b :: st) σ H := propext Iff.rfl
@[simp] theorem goC_cond {c : Operand} {a b : Cmd} : goC B (.cond c a b) st σ H = goIf B (valO σ c) a b st σ H := propext Iff.rfl
@[simp] theorem goC_block {id : Nat} {a : Cmd} : goC B (.block id a) st σ H = goC B a (.bl id :: st) σ H := propext Iff.rfl
@[simp] theorem goC_loop {ms : List Bool} {a : Cmd} : goC B (.loop ms a) st σ H = goL B ms a st σ H := propext Iff.rfl
@[simp] theorem goC_exit {id : Nat} : goC B (.exit id) st σ H = goX B id st σ H := propext Iff.rfl
@[simp] theorem goC_ret {ts : List RV} {ss : List Src} : goC B (.ret ts ss) st σ H = goR B ts ss [] σ H := propext Iff.rfl
@[simp] theorem goC_dead : goC B .dead st σ H = False := propext Iff.rfl
@[simp] theorem goC_retm {u n : Nat} {c : Cmd} : goC B (.retm u n c) st σ H = goW B (σ.getD u .undef) n c st σ H := propext Iff.rfl
@[simp] theorem goW_ref {q n : Nat} {c : Cmd} : goW B (.ref q 0) n c st σ H = ((match H[q]? with | some b => b.2.length = n | none => False) ∧ goC B c st σ H) := propext Iff.rfl
@[simp] theorem goBk_some {σ1 : List PV} {H' : Boxes} {k : PV} {d : Nat} : goBk B (some (σ1, H')) k d gs st = goO B gs st (σ1.set d k) H' := propext Iff.rfl
@[simp] theorem goA_agg {xs : List PV} {d : Nat} : goA B (.agg xs) d gs st σ H = goO B gs st (σ.set d (.ref H.length 0)) (H ++ [(.own, xs)]) := propext Iff.rfl
@[simp] theorem go_callm {d g : Nat} {sg : Sig} {x : Operand} {xs : List Operand} {src : Src} : goO B (⟨.callm d g sg x xs src, none, p, f⟩ :: gs) st σ H = goM B (B.Tb g) sg ((x :: xs).map (valO σ)) src (eatH σ H src) d gs st σ := propext Iff.rfl
@[simp] theorem go_boxm {d : Nat} {x : Operand} : goO B (⟨.boxm d x, none, p, f⟩ :: gs) st σ H = goA B (valO σ x) d gs st σ H := propext Iff.rfl
@[simp] theorem goIf_bool {t : Bool} {a b : Cmd} : goIf B (.bool t) a b st σ H = ((t = true → goC B a st σ H) ∧ (t = false → goC B b st σ H)) := propext Iff.rfl
@[simp] theorem goR_nil {ss : List Src} {vs : List PV} : goR B [] ss vs σ H = B.r (vs ++ []) (eatsH σ H ss) := propext Iff.rfl
@[simp] theorem goR_tmp {t : Nat} {ts : List RV} {ss : List Src} {vs : List PV} : goR B (.tmp t :: ts) ss vs σ H = ((σ.getD t .undef).isUndef = false ∧ goR B ts ss (vs ++ [σ.getD t .undef]) σ H) := by
  simp only [goR, rvK, List.append_assoc, List.singleton_append]
@[simp] theorem goR_cell {u : Nat} {n : Option Nat} {fl : Bool} {ts : List RV} {ss : List Src} {vs : List PV} : goR B (.cell u n fl :: ts) ss vs σ H = optK (loadV H (σ.getD u .undef) n) fun v => v.isUndef = false ∧ (fl = true → v.isFlat = true) ∧ goR B ts ss (vs ++ [v]) σ H := by
  simp only [goR, rvK, List.append_assoc, List.singleton_append]
@[simp] theorem goO_nil : goO B [] st σ H = goN B st σ H := propext Iff.rfl
@[simp] theorem goO_guard {cop : COp} {j : Nat} {b : Bool} {d : Option Nat} {fl : Bool} : goO B (⟨cop, some (j, b), d, fl⟩ :: gs) st σ H = goG B (σ.getD j .undef) b cop d fl gs st σ H := propext Iff.rfl
@[simp] theorem goG_bool {c b : Bool} {cop : COp} {d : Option Nat} {fl : Bool} : goG B (.bool c) b cop d fl gs st σ H = ((c = b → goO B (⟨cop, none, d, fl⟩ :: gs) st σ H) ∧ (c ≠ b → goO B gs st (setD σ d (skipV fl)) H)) := propext Iff.rfl
@[simp] theorem goG_no {b : Bool} {cop : COp} {d : Option Nat} {fl : Bool} : goG B .no b cop d fl gs st σ H = goO B gs st (setD σ d (skipV fl)) H := propext Iff.rfl
@[simp] theorem goV_some {v : PV} {d : Nat} : goV B (some v) d gs st σ H = goO B gs st (σ.set d v) H := propext Iff.rfl
@[simp] theorem goF_some {v : PV} {fl : Bool} {d : Nat} : goF B (some v) fl d gs st σ H = ((fl = true → v.isFlat = true) ∧ goO B gs st (σ.set d v) H) := propext Iff.rfl
@[simp] theorem goH_some : goH B (some H) gs st σ = goO B gs st σ H := propext Iff.rfl
@[simp] theorem goP_bool {t : Bool} {x y : PV} {d : Nat} : goP B (.bool t) x y d gs st σ H = ((t = true → x ≠ .undef ∧ goO B gs st (σ.set d x) H) ∧ (t = false → y ≠ .undef ∧ goO B gs st (σ.set d y) H)) := propext Iff.rfl
@[simp] theorem goFn_fn {g' g nc : Nat} {caps : List PV} {sg : Sig} {vs : List PV} {H1 : Boxes} {d : Option Nat} : goFn B (.fn g' caps) g nc sg vs H1 d gs st σ = (g' = g ∧ caps.length = nc ∧ goCall B (B.Tb g) sg (vs ++ caps) H1 d gs st σ) := propext Iff.rfl
@[simp] theorem go_copy {d : Nat} {x : Operand} : goO B (⟨.copy d x, none, p, f⟩ :: gs) st σ H = goO B gs st (σ.set d (valO σ x)) H := propext Iff.rfl
@[simp] theorem go_take {d : Nat} {x : Operand} {s : Src} : goO B (⟨.take d x s, none, p, f⟩ :: gs) st σ H = ((valO σ x).isUndef = false ∧ goO B gs st (σ.set d (valO σ x)) (eatH σ H s)) := propext Iff.rfl
@[simp] theorem go_bin {d : Nat} {op : BinOp} {x y : Operand} : goO B (⟨.bin d op x y, none, p, f⟩ :: gs) st σ H = goV B (binV op (valO σ x) (valO σ y)) d gs st σ H := propext Iff.rfl
@[simp] theorem go_un {d : Nat} {op : UnOp} {x : Operand} : goO B (⟨.un d op x, none, p, f⟩ :: gs) st σ H = goV B (unV op (valO σ x)) d gs st σ H := propext Iff.rfl
@[simp] theorem go_conv {d : Nat} {k : IntKind} {x : Operand} : goO B (⟨.conv d k x, none, p, f⟩ :: gs) st σ H = goV B (convV k (valO σ x)) d gs st σ H := propext Iff.rfl
@[simp] theorem go_pick {d : Nat} {a b c : Operand} : goO B (⟨.pick d a b c, none, p, f⟩ :: gs) st σ H = goP B (valO σ a) (valO σ b) (valO σ c) d gs st σ H := propext Iff.rfl
@[simp] theorem go_beq {d : Nat} {n : Bool} {x y : Operand} : goO B (⟨.beq d n x y, none, p, f⟩ :: gs) st σ H = goV B (beqV n (valO σ x) (valO σ y)) d gs st σ H := propext Iff.rfl
@[simp] theorem go_len {d : Nat} {n : Bool} {x : Operand} : goO B (⟨.len d n x, none, p, f⟩ :: gs) st σ H = goV B (lenV n (valO σ x)) d gs st σ H := propext Iff.rfl
@[simp] theorem go_isnil {d : Nat} {n : Bool} {x : Operand} : goO B (⟨.isnil d n x, none, p, f⟩ :: gs) st σ H = goV B (isnilV n (valO σ x)) d gs st σ H := propext Iff.rfl
@[simp] theorem go_mm {d : Nat} {n : Bool} {x y : Operand} : goO B (⟨.mm d n x y, none, p, f⟩ :: gs) st σ H = goV B (mmV n (valO σ x) (valO σ y)) d gs st σ H := propext Iff.rfl
@[simp] theorem go_box {d : Nat} {ck : CK} {x : Operand} {s : Src} : goO B (⟨.box d ck x s, none, p, f⟩ :: gs) st σ H = ((valO σ x).isUndef = false ∧ goO B gs st (σ.set d (.ref H.length 0)) (eatH σ H s ++ [(ck, (valO σ x).cells)])) := propext Iff.rfl
@[simp] theorem go_alloc {d : Nat} {ck : CK} {zs : List PV} : goO B (⟨.alloc d ck zs, none, p, f⟩ :: gs) st σ H = goO B gs st (σ.set d (.ref H.length 0)) (H ++ [(ck, zs)]) := propext Iff.rfl
@[simp] theorem go_loadB {d : Nat} {u : Operand} {n : Option Nat} {fl : Bool} : goO B (⟨.loadB d u n fl, none, p, f⟩ :: gs) st σ H = goF B (loadV H (valO σ u) n) fl d gs st σ H := propext Iff.rfl
@[simp] theorem go_storeB {u x : Operand} {n : Option Nat} {s : Src} : goO B (⟨.storeB u x n s, none, p, f⟩ :: gs) st σ H = ((valO σ x).isUndef = false ∧ goH B (storeV (eatH σ H s) (valO σ u) (valO σ x) n) gs st σ) := propext Iff.rfl
@[simp] theorem go_fadd {d : Nat} {u : Operand} {o : Nat} : goO B (⟨.fadd d u o, none, p, f⟩ :: gs) st σ H = goV B (faddV (valO σ u) o) d gs st σ H := propext Iff.rfl
@[simp] theorem go_iadd {d t e : Nat} {i : Operand} : goO B (⟨.iadd d t e i, none, p, f⟩ :: gs) st σ H = goV B (iaddV e (σ.getD t .undef) (valO σ i)) d gs st σ H := propext Iff.rfl
@[simp] theorem go_loadE {d t u : Nat} {n : Option Nat} {fl : Bool} : goO B (⟨.loadE d t u n fl, none, p, f⟩ :: gs) st σ H = goF B (elemV (σ.getD t .undef) (σ.getD u .undef) n) fl d gs st σ H := propext Iff.rfl
@[simp] theorem go_storeE {x u : Nat} {n : Option Nat} {y : Operand} : goO B (⟨.storeE x u n y, none, p, f⟩ :: gs) st σ H = goV B (storeEV (σ.getD x .undef) (σ.getD u .undef) (valO σ y) n) x gs st σ H := propext Iff.rfl
@[simp] theorem go_mks {d e b : Nat} {z : PV} {l c : Operand} : goO B (⟨.mks d e b z l c, none, p, f⟩ :: gs) st σ H = goV B (mksV e b z (valO σ l) (valO σ c)) d gs st σ H := propext Iff.rfl
@[simp] theorem go_lit {d e n : Nat} {xs : List Operand} {ss : List Src} : goO B (⟨.lit d e n xs ss, none, p, f⟩ :: gs) st σ H = (litOk n (xs.map (valO σ)) = true ∧ goO B gs st (σ.set d (.sl e (xs.map (valO σ)))) (eatsH σ H ss)) := propext Iff.rfl
@[simp] theorem go_call {d : Option Nat} {g : Nat} {sg : Sig} {xs : List Operand} {ss : List Src} : goO B (⟨.call d g sg xs ss, none, p, f⟩ :: gs) st σ H = goCall B (B.Tb g) sg (xs.map (valO σ)) (eatsH σ H ss) d gs st σ := propext Iff.rfl
@[simp] theorem go_callv {d : Option Nat} {fo : Operand} {g nc : Nat} {sg : Sig} {xs : List Operand} {ss : List Src} : goO B (⟨.callv d fo g nc sg xs ss, none, p, f⟩ :: gs) st σ H = goFn B (valO σ fo) g nc sg (xs.map (valO σ)) (eatsH σ H ss) d gs st σ := propext Iff.rfl
@[simp] theorem go_mkfn {d g : Nat} {xs : List Operand} : goO B (⟨.mkfn d g xs, none, p, f⟩ :: gs) st σ H = (isRefs (xs.map (valO σ)) = true ∧ goO B gs st (σ.set d (.fn g (xs.map (valO σ)))) H) := propext Iff.rfl
@[simp] theorem go_app {d e b : Nat} {fl : Bool} {x y : Operand} {ss : List Src} : goO B (⟨.app d e b fl x y ss, none, p, f⟩ :: gs) st σ H = goV B (appV e b fl (valO σ x) (valO σ y)) d gs st σ (eatsH σ H ss) := propext Iff.rfl
@[simp] theorem go_ext {d t j : Nat} : goO B (⟨.ext d t j, none, p, f⟩ :: gs) st σ H = goV B (extV (σ.getD t .undef) j) d gs st σ H := propext Iff.rfl
@[simp] theorem go_sidx {d : Nat} {x y : Operand} : goO B (⟨.sidx d x y, none, p, f⟩ :: gs) st σ H = goV B (sidxV (valO σ x) (valO σ y)) d gs st σ H := propext Iff.rfl
@[simp] theorem go_ssl {d : Nat} {x : Operand} {a b : Option Operand} : goO B (⟨.ssl d x a b, none, p, f⟩ :: gs) st σ H = goV B (sslV (valO σ x) (a.map (valO σ)) (b.map (valO σ))) d gs st σ H := propext Iff.rfl
@[simp] theorem go_sli {d e : Nat} {x : Operand} {a b c : Option Operand} : goO B (⟨.sli d e x a b c, none, p, f⟩ :: gs) st σ H = goV B (sliV e (valO σ x) (a.map (valO σ)) (b.map (valO σ)) (c.map (valO σ))) d gs st σ H := propext Iff.rfl
@[simp] theorem go_build {d : Nat} {zs : List PV} {ps : List (Nat × Nat × Operand)} {ss : List Src} : goO B (⟨.build d zs ps ss, none, p, f⟩ :: gs) st σ H = goV B (buildP zs (ps.map fun p => (p.1, p.2.1, valO σ p.2.2))) d gs st σ (eatsH σ H ss) := propext Iff.rfl
@[simp] theorem go_fail : goO B (⟨.fail, none, p, f⟩ :: gs) st σ H = False := propext Iff.rfl

/-- A loop, by a relation that bears a number. -/
theorem goL_intro {ms : List Bool} {a : Cmd} (I : Nat → KV) (n0 : Nat) (h0 : I n0 (maskL ms σ) H) (hs : ∀ n σ H, I n σ H → goC B a (.lp (fun σ' H' => ∃ m, m < n ∧ I m (maskL ms σ') H') :: st) σ H) : goL B ms a st σ H :=
  ⟨I, n0, h0, hs⟩
theorem goM_intro {R : Rel} {sg : Sig} {vs : List PV} {src : Src} {H1 : Boxes} {d : Nat} {k w : PV} {H2 : Boxes} (h1 : R H1.length vs H1 [k, w] H2) (h2 : argsV H1.length H1 sg.ps vs) (h3 : w.isUndef = false)
    (h4 : goBk B (backV σ H1 src w) k d gs st) : goM B R sg vs src H1 d gs st σ := ⟨h2, k, w, H2, h1, h3, h4⟩
/-- A call, by its contract. -/
theorem goCall_intro {R : Rel} {sg : Sig} {vs : List PV} {H1 : Boxes} {d : Option Nat} {rs : List PV} {H2 : Boxes} (h1 : R (limV sg.pure B.lim H1) vs H1 rs H2) (h2 : argsV (limV sg.pure B.lim H1) H1 sg.ps vs)
    (h3 : goO B gs st (setD σ d (packP rs)) (if sg.pure then H1 else mergeH B.lim H1 H2)) : goCall B R sg vs H1 d gs st σ := ⟨h2, rs, H2, h1, h3⟩
theorem goCall_pure {R : Rel} {sg : Sig} {vs : List PV} {H1 : Boxes} {d : Option Nat} {rs : List PV} (hp : sg.pure = true) (h1 : R H1.length vs H1 rs H1) (h2 : argsV H1.length H1 sg.ps vs)
    (h3 : goO B gs st (setD σ d (packP rs)) H1) : goCall B R sg vs H1 d gs st σ := by
  refine ⟨by simp only [limV, if_pos hp]; exact h2, rs, H1, by simp only [limV, if_pos hp]; exact h1, by rw [if_pos hp]; exact h3⟩
end
attribute [simp] backV setD valO skipV eatsH eatH ofValue putCells litOk maskL packP argsV limV viewV keepB undefs sigOf relOf cellV
section
variable {b c : Bool} {k k' : IntKind} {i n m : Int} {xs : List PV} {e j r : Nat} {q : Option Nat} {s : ByteArray} {H : Boxes} {v : PV}
@[simp] theorem optK_some {v : PV} {K : PV → Prop} : optK (some v) K = K v := rfl
@[simp] theorem extV_tup {vs : List PV} {j : Nat} : extV (.tup vs) j = vs[j]? := rfl
@[simp] theorem lenV_nil : lenV false .nil = some (.int .i64 0) := rfl
@[simp] theorem lenV_sl : lenV false (.sl e xs) = some (.int .i64 xs.length) := rfl
@[simp] theorem lenV_str : lenV true (.str s) = some (.int .i64 s.size) := rfl
@[simp] theorem isnilV_nil : isnilV b .nil = some (.bool (!b)) := rfl
@[simp] theorem isnilV_sl : isnilV b (.sl e xs) = some (.bool b) := rfl
@[simp] theorem unV_neg : unV .neg (.int k n) = some (.int k (k.wrap (0 - n))) := rfl
@[simp] theorem unV_not : unV .not (.bool b) = some (.bool !b) := rfl
@[simp] theorem convV_int : convV k (.int k' n) = some (.int k (k.wrap n)) := rfl
@[simp] theorem mmV_max : mmV true (.int k n) (.int k' m) = some (.int k (max n m)) := by
  simp only [mmV]; congr 2; simp only [if_true]; split <;> omega
@[simp] theorem mmV_min : mmV false (.int k n) (.int k' m) = some (.int k (min n m)) := by
  simp only [mmV]; congr 2; simp only [Bool.false_eq_true, if_false]; split <;> omega
@[simp] theorem beqV_eq : beqV false (.bool b) (.bool c) = some (.bool (b == c)) := rfl
@[simp] theorem beqV_ne : beqV true (.bool b) (.bool c) = some (.bool (b != c)) := rfl
@[simp] theorem loadV_ref : loadV H (.ref r j) q = match H[r]? with | some b => cellV b.2 j q | none => none := by
  simp only [loadV]
  cases H[r]? with
  | none => rfl
  | some b => cases q <;> rfl
@[simp] theorem storeV_ref : storeV H (.ref r j) v q = match H[r]? with | some b => if nOk q v = true ∧ v.cells.all PV.def1 = true ∧ j + v.cells.length ≤ b.2.length then some (H.set r (b.1, putCells b.2 j v.cells)) else none | none => none := rfl
@[simp] theorem faddV_ref {off : Nat} : faddV (.ref r j) off = some (.ref r (j + off)) := rfl
@[simp] theorem faddV_eix {off t : Nat} : faddV (.eix t j) off = some (.eix t (j + off)) := rfl
@[simp] theorem iaddV_sl : iaddV e (.sl e xs) (.int k n) = if 0 ≤ n ∧ n.toNat < xs.length then some (.eix n.toNat 0) else none := by simp [iaddV]
@[simp] theorem elemV_sl : elemV (.sl e xs) (.eix r j) q = match xs[r]? with | some x => cellV x.cells j q | none => none := rfl
@[simp] theorem storeEV_sl : storeEV (.sl e xs) (.eix r j) v q = match xs[r]? with | some x => if nOk q v = true ∧ reOk x v = true ∧ v.cells.all PV.def1 = true ∧ v.isFlat = true ∧ j + v.cells.length ≤ x.cells.length then some (.sl e (xs.set r (reCell x j v))) else none | none => none := rfl
@[simp] theorem mksV_int {b : Nat} {z : PV} : mksV e b z (.int k n) (.int k' m) = if n = m ∧ 0 ≤ n ∧ (b : Int) * n ≤ 281474976710656 ∧ n ≤ 9223372036854775807 then some (.sl e (List.replicate n.toNat z)) else none := rfl
@[simp] theorem get_app {α : Type} {l l' : List α} {k : Nat} : (l ++ l')[l.length + k]? = l'[k]? := by rw [List.getElem?_append_right (by omega)]; congr 1; omega
@[simp] theorem get_app0 {α : Type} {l l' : List α} : (l ++ l')[l.length]? = l'[0]? := by rw [List.getElem?_append_right (by omega)]; congr 1; omega
@[simp] theorem set_app {α : Type} {l l' : List α} {k : Nat} {x : α} : (l ++ l').set (l.length + k) x = l ++ l'.set k x := by
  induction l with
  | nil => simp
  | cons a l ih => simp only [List.cons_append, List.length_cons]; rw [show l.length + 1 + k = (l.length + k) + 1 by omega, List.set_cons_succ, ih]
@[simp] theorem set_app0 {α : Type} {l l' : List α} {x : α} : (l ++ l').set l.length x = l ++ l'.set 0 x := set_app (k := 0)
/-! what each value is -/
@[simp] theorem isUndef_undef : PV.isUndef .undef = true := rfl
@[simp] theorem cells_undef : PV.cells .undef = [.undef] := rfl
@[simp] theorem def1_undef : PV.def1 .undef = false := rfl
@[simp] theorem isFlat_undef : PV.isFlat .undef = false := rfl
@[simp] theorem nOk_undef : nOk none .undef = true := rfl
@[simp] theorem isUndef_no : PV.isUndef .no = false := rfl
@[simp] theorem cells_no : PV.cells .no = [.no] := rfl
@[simp] theorem def1_no : PV.def1 .no = false := rfl
@[simp] theorem isFlat_no : PV.isFlat .no = true := rfl
@[simp] theorem nOk_no : nOk none .no = true := rfl
@[simp] theorem isUndef_int {k : IntKind} {n : Int} : PV.isUndef (.int k n) = false := rfl
@[simp] theorem cells_int {k : IntKind} {n : Int} : PV.cells (.int k n) = [(.int k n)] := rfl
@[simp] theorem def1_int {k : IntKind} {n : Int} : PV.def1 (.int k n) = true := rfl
@[simp] theorem isFlat_int {k : IntKind} {n : Int} : PV.isFlat (.int k n) = true := rfl
@[simp] theorem nOk_int {k : IntKind} {n : Int} : nOk none (.int k n) = true := rfl
@[simp] theorem isUndef_bool {b : Bool} : PV.isUndef (.bool b) = false := rfl
@[simp] theorem cells_bool {b : Bool} : PV.cells (.bool b) = [(.bool b)] := rfl
@[simp] theorem def1_bool {b : Bool} : PV.def1 (.bool b) = true := rfl
@[simp] theorem isFlat_bool {b : Bool} : PV.isFlat (.bool b) = true := rfl
@[simp] theorem nOk_bool {b : Bool} : nOk none (.bool b) = true := rfl
@[simp] theorem isUndef_str {b : ByteArray} : PV.isUndef (.str b) = false := rfl
@[simp] theorem cells_str {b : ByteArray} : PV.cells (.str b) = [(.str b)] := rfl
@[simp] theorem def1_str {b : ByteArray} : PV.def1 (.str b) = true := rfl
@[simp] theorem isFlat_str {b : ByteArray} : PV.isFlat (.str b) = true := rfl
@[simp] theorem nOk_str {b : ByteArray} : nOk none (.str b) = true := rfl
@[simp] theorem isUndef_nil : PV.isUndef .nil = false := rfl
@[simp] theorem cells_nil : PV.cells .nil = [.nil] := rfl
@[simp] theorem def1_nil : PV.def1 .nil = true := rfl
@[simp] theorem isFlat_nil : PV.isFlat .nil = true := rfl
@[simp] theorem nOk_nil : nOk none .nil = true := rfl
@[simp] theorem isUndef_nilp : PV.isUndef .nilp = false := rfl
@[simp] theorem cells_nilp : PV.cells .nilp = [.nilp] := rfl
@[simp] theorem def1_nilp : PV.def1 .nilp = true := rfl
@[simp] theorem isFlat_nilp : PV.isFlat .nilp = true := rfl
@[simp] theorem nOk_nilp : nOk none .nilp = true := rfl
@[simp] theorem isUndef_nilf : PV.isUndef .nilf = false := rfl
@[simp] theorem cells_nilf : PV.cells .nilf = [.nilf] := rfl
@[simp] theorem def1_nilf : PV.def1 .nilf = true := rfl
@[simp] theorem isFlat_nilf : PV.isFlat .nilf = true := rfl
@[simp] theorem nOk_nilf : nOk none .nilf = true := rfl
@[simp] theorem isUndef_sl {e : Nat} {xs : List PV} : PV.isUndef (.sl e xs) = false := rfl
@[simp] theorem cells_sl {e : Nat} {xs : List PV} : PV.cells (.sl e xs) = [(.sl e xs)] := rfl
@[simp] theorem def1_sl {e : Nat} {xs : List PV} : PV.def1 (.sl e xs) = true := rfl
@[simp] theorem isFlat_sl {e : Nat} {xs : List PV} : PV.isFlat (.sl e xs) = false := rfl
@[simp] theorem nOk_sl {e : Nat} {xs : List PV} : nOk none (.sl e xs) = true := rfl
@[simp] theorem isUndef_agg {xs : List PV} : PV.isUndef (.agg xs) = false := rfl
@[simp] theorem def1_agg {xs : List PV} : PV.def1 (.agg xs) = false := rfl
@[simp] theorem isUndef_tup {xs : List PV} : PV.isUndef (.tup xs) = false := rfl
@[simp] theorem cells_tup {xs : List PV} : PV.cells (.tup xs) = [(.tup xs)] := rfl
@[simp] theorem def1_tup {xs : List PV} : PV.def1 (.tup xs) = false := rfl
@[simp] theorem isFlat_tup {xs : List PV} : PV.isFlat (.tup xs) = false := rfl
@[simp] theorem nOk_tup {xs : List PV} : nOk none (.tup xs) = true := rfl
@[simp] theorem isUndef_ref {r j : Nat} : PV.isUndef (.ref r j) = false := rfl
@[simp] theorem cells_ref {r j : Nat} : PV.cells (.ref r j) = [(.ref r j)] := rfl
@[simp] theorem def1_ref {r j : Nat} : PV.def1 (.ref r j) = true := rfl
@[simp] theorem isFlat_ref {r j : Nat} : PV.isFlat (.ref r j) = false := rfl
@[simp] theorem nOk_ref {r j : Nat} : nOk none (.ref r j) = true := rfl
@[simp] theorem isUndef_fn {g : Nat} {xs : List PV} : PV.isUndef (.fn g xs) = false := rfl
@[simp] theorem cells_fn {g : Nat} {xs : List PV} : PV.cells (.fn g xs) = [(.fn g xs)] := rfl
@[simp] theorem def1_fn {g : Nat} {xs : List PV} : PV.def1 (.fn g xs) = true := rfl
@[simp] theorem isFlat_fn {g : Nat} {xs : List PV} : PV.isFlat (.fn g xs) = false := rfl
@[simp] theorem nOk_fn {g : Nat} {xs : List PV} : nOk none (.fn g xs) = true := rfl
@[simp] theorem isUndef_eix {r j : Nat} : PV.isUndef (.eix r j) = false := rfl
@[simp] theorem cells_eix {r j : Nat} : PV.cells (.eix r j) = [(.eix r j)] := rfl
@[simp] theorem def1_eix {r j : Nat} : PV.def1 (.eix r j) = true := rfl
@[simp] theorem isFlat_eix {r j : Nat} : PV.isFlat (.eix r j) = false := rfl
@[simp] theorem nOk_eix {r j : Nat} : nOk none (.eix r j) = true := rfl
@[simp] theorem cells_agg {xs : List PV} : PV.cells (.agg xs) = xs := rfl
def flat1 : PV → Bool
  | .int .. | .bool _ | .str _ | .nil | .nilp | .nilf => true
  | _ => false
@[simp] theorem flat1_int {k : IntKind} {n : Int} : flat1 (.int k n) = true := rfl
@[simp] theorem flat1_bool {b : Bool} : flat1 (.bool b) = true := rfl
@[simp] theorem flat1_str {b : ByteArray} : flat1 (.str b) = true := rfl
@[simp] theorem isFlat_agg {xs : List PV} : PV.isFlat (.agg xs) = xs.all flat1 := by
  simp only [PV.isFlat]
  congr 1
@[simp] theorem nOk_agg {m : Nat} {xs : List PV} : nOk (some m) (.agg xs) = decide (xs.length = m) := rfl
@[simp] theorem reOk_agg {xs : List PV} {v : PV} : reOk (.agg xs) v = true := rfl
@[simp] theorem reOk_int {k : IntKind} {n : Int} {k' : IntKind} {n' : Int} : reOk (.int k n) (.int k' n') = true := rfl
@[simp] theorem reOk_bool {b c : Bool} : reOk (.bool b) (.bool c) = true := rfl
@[simp] theorem reCell_agg {xs : List PV} {j : Nat} {v : PV} : reCell (.agg xs) j v = .agg (putCells xs j v.cells) := rfl
@[simp] theorem reCell_int {k : IntKind} {n : Int} {j : Nat} {v : PV} : reCell (.int k n) j v = v := rfl
@[simp] theorem reCell_bool {b : Bool} {j : Nat} {v : PV} : reCell (.bool b) j v = v := rfl
@[simp] theorem isRefs_nil : isRefs [] = true := rfl
@[simp] theorem isRefs_ref {r j : Nat} {vs : List PV} : isRefs (.ref r j :: vs) = isRefs vs := by simp [isRefs]
@[simp] theorem argV_ptr {lim : Nat} {H : Boxes} {ck : CK} {r j : Nat} : argV lim H (.ptr ck) (.ref r j) = match H[r]? with | some b => viewV lim r b.1 = ck | none => False := rfl
@[simp] theorem argV_own {lim : Nat} {H : Boxes} {v : PV} : argV lim H .own v = (v.isUndef = false) := by cases v <;> simp [argV]
@[simp] theorem argV_fz {lim : Nat} {H : Boxes} {v : PV} : argV lim H .fz v = (v.isUndef = false) := by cases v <;> simp [argV]
@[simp] theorem argV_fn {lim : Nat} {H : Boxes} {v : PV} : argV lim H .fn v = (v.isUndef = false) := by cases v <;> simp [argV]
@[simp] theorem argV_fl {lim : Nat} {H : Boxes} {v : PV} : argV lim H .fl v = True := by cases v <;> simp [argV]
@[simp] theorem argV_rd {lim : Nat} {H : Boxes} {v : PV} : argV lim H .rd v = True := by cases v <;> simp [argV]
@[simp] theorem unbox_app {H : Boxes} {l : List (CK × List PV)} {k j n : Nat} : unbox (H ++ l) (.ref (H.length + k) j) n = match l[k]? with | some b => H ++ l.set k (b.1, undefs b.2 j (max n 1)) | none => H ++ l := by
  simp only [unbox, get_app]
  cases l[k]? with
  | none => rfl
  | some b => simp only [set_app]
@[simp] theorem unbox_app0 {H : Boxes} {l : List (CK × List PV)} {j n : Nat} : unbox (H ++ l) (.ref H.length j) n = match l[0]? with | some b => H ++ l.set 0 (b.1, undefs b.2 j (max n 1)) | none => H ++ l := unbox_app (k := 0)
theorem get_box {H : Boxes} {l : List (CK × List PV)} {k : Nat} : (H ++ l)[H.length + k]? = l[k]? := get_app
end
section
variable {k : IntKind} {a b : Int}
@[simp] theorem bin_add : binV .add (.int k a) (.int k b) = some (.int k (k.wrap (a + b))) := by simp [binV]
@[simp] theorem bin_sub : binV .sub (.int k a) (.int k b) = some (.int k (k.wrap (a - b))) := by simp [binV]
@[simp] theorem bin_mul : binV .mul (.int k a) (.int k b) = some (.int k (k.wrap (a * b))) := by simp [binV]
@[simp] theorem bin_quo : binV .quo (.int k a) (.int k b) = if b = 0 then none else some (.int k (k.wrap (a.tdiv b))) := by by_cases h : b = 0 <;> simp [binV, h]
@[simp] theorem bin_rem : binV .rem (.int k a) (.int k b) = if b = 0 then none else some (.int k (a.tmod b)) := by by_cases h : b = 0 <;> simp [binV, h]
@[simp] theorem bin_eql : binV .eql (.int k a) (.int k b) = some (.bool (a == b)) := by simp [binV]
@[simp] theorem bin_neq : binV .neq (.int k a) (.int k b) = some (.bool (a != b)) := by simp [binV]
@[simp] theorem bin_lss : binV .lss (.int k a) (.int k b) = some (.bool (decide (a < b))) := by simp [binV]
@[simp] theorem bin_leq : binV .leq (.int k a) (.int k b) = some (.bool (decide (a ≤ b))) := by simp [binV]
@[simp] theorem bin_gtr : binV .gtr (.int k a) (.int k b) = some (.bool (decide (b < a))) := by simp [binV]
@[simp] theorem bin_geq : binV .geq (.int k a) (.int k b) = some (.bool (decide (b ≤ a))) := by simp [binV]
end
theorem wrap_id {x : Int} (h1 : -9223372036854775808 ≤ x) (h2 : x ≤ 9223372036854775807) : IntKind.i64.wrap x = x := by
  rw [IntKind.wrap_i64]; omega

/-- A function's contract, out of what is to be reckoned. -/
theorem fnZ {P : Program} {g : Nat} {fn : Func} {sg : Sig} {names : List Nat} {hints : List (Nat × CK)} {l : Deps} {vs : List (Nat × Nat × Nat)} {R : Rel} {hs : HS} {cmd : Cmd} (nt : Nat) (hm : P.follows .mixedOrders = true) (hf : P.funcs[g]? = some fn) (hname : (fn.name == "runtime.NumGoroutine") = false)
    (hc : compileFn (mkE P names hints l vs) fn sg hs = some cmd) (hnt : fn.ntmps - sg.ps.length = nt) (ha : AllSpec P l)
    (hvc : ∀ (lim : Nat) (vs : List PV) (H : Boxes) (rs : List PV) (H' : Boxes), R lim vs H rs H' → vs.length = sg.ps.length → lim ≤ H.length → (sg.pure = true → lim = H.length) →
      goC ⟨relOf l, lim, fun rs' H'' => rs' = rs ∧ (sg.pure = true ∨ H'' = H')⟩ cmd [] (vs ++ List.replicate nt .undef) H) : SpecR P g sg R :=
  fnX nt hm hf hname hc hnt ha hvc
end Go.Den
set_option autoImplicit false
namespace Go.Den
theorem optK_mono {v : Option PV} {K K' : PV → Prop} (hk : ∀ v, K v → K' v) (h : optK v K) : optK v K' := by
  cases v with
  | none => exact h.elim
  | some v => exact hk _ h
theorem ex_mono {Tb : Nat → Rel} {lim : Nat} {cop : COp} {σ : List PV} {H : Boxes} {K K' : PV → Boxes → Prop} (hk : ∀ v H, K v H → K' v H) (h : ex Tb lim cop σ H K) : ex Tb lim cop σ H K' := by
  cases cop
  case callm =>
    simp only [ex] at h ⊢
    obtain ⟨h1, k, w, H2, h2, h3, h4⟩ := h
    refine ⟨h1, k, w, H2, h2, h3, ?_⟩
    unfold backK at h4 ⊢
    split at h4
    · exact hk _ _ h4
    · exact h4.elim
  case call => exact ⟨h.1, h.2.choose, h.2.choose_spec.choose, h.2.choose_spec.choose_spec.1, hk _ _ h.2.choose_spec.choose_spec.2⟩
  case callv =>
    simp only [ex, fnK] at h ⊢
    split at h
    · obtain ⟨h1, h2, h3, rs, H2, h4, h5⟩ := h
      exact ⟨h1, h2, h3, rs, H2, h4, hk _ _ h5⟩
    · exact h.elim
  case pick =>
    simp only [ex, pickK] at h ⊢
    split at h
    · exact ⟨fun t => ⟨(h.1 t).1, hk _ _ (h.1 t).2⟩, fun t => ⟨(h.2 t).1, hk _ _ (h.2 t).2⟩⟩
    · exact h.elim
  case boxm =>
    simp only [ex, aggK] at h ⊢
    split at h
    · exact hk _ _ h
    · exact h.elim
  case storeB =>
    simp only [ex, hK] at h ⊢
    refine ⟨h.1, ?_⟩
    have h2 := h.2
    split at h2
    · exact hk _ _ h2
    · exact h2.elim
  all_goals first
    | exact hk _ _ h
    | exact ⟨h.1, hk _ _ h.2⟩
    | exact optK_mono (fun v h => hk _ _ h) h
    | exact optK_mono (fun v h => ⟨h.1, hk _ _ h.2⟩) h
    | exact h.elim
theorem wpX_mono {Tb : Nat → Rel} {lim : Nat} {K K' : KV} (hk : ∀ σ H, K σ H → K' σ H) : ∀ {gs : List GOp} {σ : List PV} {H : Boxes}, wpX Tb lim gs K σ H → wpX Tb lim gs K' σ H
  | [], σ, H, h => hk _ _ h
  | ⟨cop, none, d, fl⟩ :: gs, σ, H, h => ex_mono (cop := cop) (fun v H' h => wpX_mono hk h) h
  | ⟨cop, some (j, b), d, fl⟩ :: gs, σ, H, h => by
    simp only [wpX, guardK] at h ⊢
    split at h
    · exact ⟨fun t => ex_mono (fun v H' h => wpX_mono hk h) (h.1 t), fun t => wpX_mono hk (h.2 t)⟩
    · exact wpX_mono hk h
    · exact h.elim
theorem condK_mono {v : PV} {p p' q q' : Prop} (hp : p → p') (hq : q → q') (h : condK v p q) : condK v p' q' := by
  unfold condK at h ⊢
  split at h
  · exact ⟨fun t => hp (h.1 t), fun t => hq (h.2 t)⟩
  · exact h.elim
theorem wpV_mono {Tb : Nat → Rel} {lim : Nat} {r : KV} : ∀ {c : Cmd} {n n' : KV} {x x' : Nat → KV} {σ : List PV} {H : Boxes}, (∀ σ H, n σ H → n' σ H) → (∀ i σ H, x i σ H → x' i σ H) → wpV Tb lim c n r x σ H → wpV Tb lim c n' r x' σ H
  | .skip, n, n', x, x', σ, H, hn, hx, h => hn _ _ h
  | .ops l, n, n', x, x', σ, H, hn, hx, h => wpX_mono hn h
  | .seq a b, n, n', x, x', σ, H, hn, hx, h => wpV_mono (c := a) (fun σ H h => wpV_mono (c := b) hn hx h) hx h
  | .cond c a b, n, n', x, x', σ, H, hn, hx, h => condK_mono (wpV_mono (c := a) hn hx) (wpV_mono (c := b) hn hx) h
  | .block id a, n, n', x, x', σ, H, hn, hx, h => wpV_mono (c := a) hn (fun i σ H h => by
      by_cases hi : i = id
      · simp only [if_pos hi] at h ⊢; exact hn _ _ h
      · simp only [if_neg hi] at h ⊢; exact hx i _ _ h) h
  | .loop ms a, n, n', x, x', σ, H, hn, hx, ⟨I, n0, h0, hs⟩ => ⟨I, n0, h0, fun m σ H hi => wpV_mono (c := a) (fun _ _ h => h) hx (hs m σ H hi)⟩
  | .exit id, n, n', x, x', σ, H, hn, hx, h => hx id _ _ h
  | .ret ts ss, n, n', x, x', σ, H, hn, hx, h => h
  | .dead, n, n', x, x', σ, H, hn, hx, h => h
  | .retm u m c, n, n', x, x', σ, H, hn, hx, ⟨h1, h2⟩ => ⟨h1, wpV_mono (c := c) hn hx h2⟩

section
variable {B : Bs} {st : List Frm} {σ : List PV} {H : Boxes}
/-- A stop on the way: what is known there is all that is carried on. -/
theorem goC_cut {a b : Cmd} (Q : KV) (h1 : goC B a (.lp Q :: st) σ H) (h2 : ∀ σ H, Q σ H → goC B b st σ H) : goC B (.seq a b) st σ H :=
  wpV_mono (c := a) h2 (fun _ _ _ h => h) h1
theorem goC_rot {a b c : Cmd} : goC B (.seq a (.seq b c)) st σ H = goC B (.seq (.seq a b) c) st σ H := rfl
end
section
variable {B : Bs} {st : List Frm} {σ : List PV} {H : Boxes} {gs : List GOp} {p : Option Nat} {f : Bool}
@[simp high] theorem goG_tt {cop : COp} {d : Option Nat} {fl : Bool} : goG B (.bool true) true cop d fl gs st σ H = goO B (⟨cop, none, d, fl⟩ :: gs) st σ H := propext ⟨fun h => h.1 rfl, fun h => ⟨fun _ => h, fun h => absurd rfl h⟩⟩
@[simp high] theorem goG_ff {cop : COp} {d : Option Nat} {fl : Bool} : goG B (.bool false) false cop d fl gs st σ H = goO B (⟨cop, none, d, fl⟩ :: gs) st σ H := propext ⟨fun h => h.1 rfl, fun h => ⟨fun _ => h, fun h => absurd rfl h⟩⟩
@[simp high] theorem goG_tf {cop : COp} {d : Option Nat} {fl : Bool} : goG B (.bool true) false cop d fl gs st σ H = goO B gs st (setD σ d (skipV fl)) H := propext ⟨fun h => h.2 (by simp), fun h => ⟨fun h => (Bool.noConfusion h), fun _ => h⟩⟩
@[simp high] theorem goG_ft {cop : COp} {d : Option Nat} {fl : Bool} : goG B (.bool false) true cop d fl gs st σ H = goO B gs st (setD σ d (skipV fl)) H := propext ⟨fun h => h.2 (by simp), fun h => ⟨fun h => (Bool.noConfusion h), fun _ => h⟩⟩
@[simp high] theorem goP_t {x y : PV} {d : Nat} : goP B (.bool true) x y d gs st σ H = (x ≠ .undef ∧ goO B gs st (σ.set d x) H) := propext ⟨fun h => h.1 rfl, fun h => ⟨fun _ => h, fun h => Bool.noConfusion h⟩⟩
@[simp high] theorem goP_f {x y : PV} {d : Nat} : goP B (.bool false) x y d gs st σ H = (y ≠ .undef ∧ goO B gs st (σ.set d y) H) := propext ⟨fun h => h.2 rfl, fun h => ⟨fun h => Bool.noConfusion h, fun _ => h⟩⟩
@[simp high] theorem goIf_t {a b : Cmd} : goIf B (.bool true) a b st σ H = goC B a st σ H := propext ⟨fun h => h.1 rfl, fun h => ⟨fun _ => h, fun h => Bool.noConfusion h⟩⟩
@[simp high] theorem goIf_f {a b : Cmd} : goIf B (.bool false) a b st σ H = goC B b st σ H := propext ⟨fun h => h.2 rfl, fun h => ⟨fun h => Bool.noConfusion h, fun _ => h⟩⟩
end
theorem goCall_imp {B : Bs} {st : List Frm} {σ : List PV} {gs : List GOp} {R : Rel} {sg : Sig} {vs : List PV} {H1 : Boxes} {d : Option Nat} {rs : List PV} {H2 : Boxes} (hp : sg.pure = false) (h1 : R B.lim vs H1 rs H2) (h2 : argsV B.lim H1 sg.ps vs)
    (h3 : goO B gs st (setD σ d (packP rs)) (mergeH B.lim H1 H2)) : goCall B R sg vs H1 d gs st σ := by
  refine goCall_intro (rs := rs) (H2 := H2) ?_ ?_ ?_
  · rw [hp]; exact h1
  · rw [hp]; exact h2
  · rw [hp]; exact h3
theorem mergeH_get {lim : Nat} {H H' : Boxes} {r : Nat} : (mergeH lim H H')[r]? = H[r]?.map fun b => if keepB lim r b.1 then b else (b.1, (H'.getD r b).2) := by
  simp [mergeH, List.getElem?_mapIdx]
theorem mergeH_self {lim : Nat} {H : Boxes} : mergeH lim H H = H := by
  apply List.ext_getElem?
  intro r
  rw [mergeH_get]
  cases h : H[r]? with
  | none => rfl
  | some b => simp [List.getD, h]
theorem mergeH_set {lim : Nat} {H : Boxes} {q : Nat} {ck : CK} {old new : List PV} (h : H[q]? = some (ck, old)) (hk : keepB lim q ck = false) : mergeH lim H (H.set q (ck, new)) = H.set q (ck, new) := by
  apply List.ext_getElem?
  intro r
  rw [mergeH_get]
  by_cases hr : q = r
  · subst hr
    have hl : q < H.length := by
      rcases Nat.lt_or_ge q H.length with hl | hl
      · exact hl
      · rw [List.getElem?_eq_none hl] at h; cases h
    rw [h, List.getElem?_set_self hl]
    simp only [Option.map_some, hk]
    simp [List.getD, hl]
  · rw [List.getElem?_set_ne hr]
    cases h : H[r]? with
    | none => rfl
    | some b => simp [List.getD, List.getElem?_set_ne hr, h]
theorem mergeH_tail {lim : Nat} {H H' T : Boxes} (h : H'.length = H.length) : mergeH lim H (H' ++ T) = mergeH lim H H' := by
  apply List.ext_getElem?
  intro r
  rw [mergeH_get, mergeH_get]
  cases hr : H[r]? with
  | none => rfl
  | some b =>
    have hl : r < H'.length := by
      rcases Nat.lt_or_ge r H.length with hl | hl
      · omega
      · rw [List.getElem?_eq_none hl] at hr; cases hr
    have e : (H' ++ T).getD r b = H'.getD r b := by simp [List.getD, List.getElem?_append_left hl]
    simp only [Option.map_some, e]
theorem keepB_own {lim q : Nat} (h : lim ≤ q) : keepB lim q .own = false := by
  simp [keepB, viewV, show ¬ q < lim by omega]
theorem viewV_own {lim q : Nat} (h : lim ≤ q) : viewV lim q .own = .own := by
  simp [viewV, show ¬ q < lim by omega]
theorem viewV_fn {lim q : Nat} : viewV lim q .fn = .fn := by
  simp [viewV]
/-- A frame of which some slots are known. -/
def gar (n : Nat) (l : List (Nat × PV)) (us : Nat → PV) : List PV := l.foldl (fun s p => s.set p.1 p.2) ((List.range n).map us)
theorem gar_aux {σ : List PV} : ∀ {l : List (Nat × PV)} {s : List PV}, s = σ → (∀ p ∈ l, σ[p.1]? = some p.2) → l.foldl (fun s p => s.set p.1 p.2) s = σ
  | [], s, h, _ => h
  | p :: l, s, h, hl => by
    simp only [List.foldl_cons]
    refine gar_aux ?_ fun q hq => hl q (by simp [hq])
    subst h
    apply List.ext_getElem?
    intro i
    by_cases hi : p.1 = i
    · subst hi
      have := hl p (by simp)
      rw [this, List.getElem?_set_self]
      by_cases hlt : p.1 < s.length
      · exact hlt
      · rw [List.getElem?_eq_none (by omega)] at this; cases this
    · rw [List.getElem?_set_ne hi]
theorem gar_intro {n : Nat} {l : List (Nat × PV)} {σ : List PV} (h1 : σ.length = n) (h2 : ∀ p ∈ l, σ[p.1]? = some p.2) : ∃ us, σ = gar n l us := by
  refine ⟨fun i => σ.getD i .undef, (gar_aux (σ := σ) ?_ h2).symm⟩
  apply List.ext_getElem?
  intro i
  by_cases hi : i < n
  · simp [List.getD, hi, h1]
  · rw [List.getElem?_eq_none (by simp; omega), List.getElem?_eq_none (by omega)]
def Gar (n : Nat) (l : List (Nat × PV)) (σ : List PV) : Prop := ∃ us, σ = gar n l us
theorem Gar.intro {n : Nat} {l : List (Nat × PV)} {σ : List PV} (h1 : σ.length = n) (h2 : ∀ p ∈ l, σ[p.1]? = some p.2) : Gar n l σ := gar_intro h1 h2
end Go.Den
set_option autoImplicit false
namespace Go.Den

/-! ### Plain data as values -/
abbrev I (n : Int) : PV := .int .i64 n
/-- A slice (perhaps nil) reads a list. -/
def Sl {α : Type} (e : Nat) (f : α → PV) (v : PV) (xs : List α) : Prop := (v = .sl e (xs.map f) ∨ v = .nil ∧ xs = []) ∧ xs.length ≤ 9223372036854775807
section
variable {α : Type} {e : Nat} {f : α → PV} {v : PV} {xs : List α}
theorem Sl.len (h : Sl e f v xs) : lenV false v = some (.int .i64 xs.length) := by
  rcases h.1 with rfl | ⟨rfl, rfl⟩ <;> simp
theorem Sl.iadd (h : Sl e f v xs) {i : Nat} (hi : i < xs.length) : iaddV e v (.int .i64 i) = some (.eix i 0) := by
  rcases h.1 with rfl | ⟨rfl, rfl⟩
  · simp; omega
  · simp at hi
theorem Sl.elem (h : Sl e f v xs) {i j : Nat} {n : Option Nat} (hi : i < xs.length) : elemV v (.eix i j) n = cellV (f (xs[i])).cells j n := by
  rcases h.1 with rfl | ⟨rfl, rfl⟩
  · simp [hi]
  · simp at hi
theorem Sl.undef (h : Sl e f v xs) : v.isUndef = false := by
  rcases h.1 with rfl | ⟨rfl, rfl⟩ <;> rfl
theorem Sl.cells (h : Sl e f v xs) : v.cells = [v] := by
  rcases h.1 with rfl | ⟨rfl, rfl⟩ <;> rfl
theorem Sl.def1 (h : Sl e f v xs) : v.def1 = true := by
  rcases h.1 with rfl | ⟨rfl, rfl⟩ <;> rfl
theorem Sl.nOk (h : Sl e f v xs) : nOk none v = true := by
  rcases h.1 with rfl | ⟨rfl, rfl⟩ <;> rfl
theorem Sl.mk (h : xs.length ≤ 9223372036854775807) : Sl e f (.sl e (xs.map f)) xs := ⟨.inl rfl, h⟩
end

theorem argV_sh {H : Boxes} {r j : Nat} {ck : CK} {l : List PV} (h : H[r]? = some (ck, l)) (hc : ck ≠ .fn) : argV H.length H (.ptr .sh) (.ref r j) := by
  have h2 := H_lt h
  rw [argV_ptr, h]
  exact if_pos ⟨h2, hc⟩

def inR (lo hi n : Int) : Bool := decide (lo ≤ n ∧ n ≤ hi)
structure B3 where
  a : Int
  b : Int
  c : Int
  deriving DecidableEq
def pB (x : B3) : PV := .agg [I x.a, I x.b, I x.c]
@[simp] theorem pB_cells (x : B3) : (pB x).cells = [I x.a, I x.b, I x.c] := rfl
@[simp] theorem pB_undef (x : B3) : (pB x).isUndef = false := rfl
@[simp] theorem pB_flat (x : B3) : (pB x).isFlat = true := by simp [pB]
@[simp] theorem pB_nOk (x : B3) : nOk (some 3) (pB x) = true := rfl
theorem pB_eq (x : B3) : .agg [I x.a, I x.b, I x.c] = pB x := rfl
def idx {α : Type} (p : α → Bool) (xs : List α) : Int := match xs.findIdx? p with | some i => i | none => -1
theorem idx_ge {α : Type} (p : α → Bool) (xs : List α) : decide (0 ≤ idx p xs) = xs.any p := by
  unfold idx
  cases h : xs.findIdx? p with
  | none =>
    rw [List.findIdx?_eq_none_iff] at h
    have : xs.any p = false := by rw [List.any_eq_false]; intro x hx; simp [h x hx]
    rw [this]; simp
  | some i =>
    have := List.findIdx?_eq_some_iff_getElem.1 h
    obtain ⟨hi, hp, _⟩ := this
    have : xs.any p = true := List.any_eq_true.2 ⟨_, List.getElem_mem hi, hp⟩
    rw [this]; simp
/-- All before i fail p. -/
def Before {α : Type} (p : α → Bool) (xs : List α) (i : Nat) : Prop := ∀ j (hj : j < xs.length), j < i → p xs[j] = false
theorem Before.zero {α : Type} {p : α → Bool} {xs : List α} : Before p xs 0 := fun _ _ h => absurd h (by omega)
theorem Before.succ {α : Type} {p : α → Bool} {xs : List α} {i : Nat} (h : Before p xs i) (hi : i < xs.length) (hp : p xs[i] = false) : Before p xs (i + 1) := fun j hj hlt => by
  by_cases he : j = i
  · subst he; exact hp
  · exact h j hj (by omega)
theorem Before.idx {α : Type} {p : α → Bool} {xs : List α} {i : Nat} (h : Before p xs i) (hi : i < xs.length) (hp : p xs[i] = true) : idx p xs = i := by
  unfold Den.idx
  rw [List.findIdx?_eq_some_iff_getElem.2 ⟨hi, hp, fun j hj => by simp [h j (by omega) hj]⟩]
theorem Before.none {α : Type} {p : α → Bool} {xs : List α} {i : Nat} (h : Before p xs i) (hi : xs.length ≤ i) : Den.idx p xs = -1 := by
  unfold Den.idx
  rw [List.findIdx?_eq_none_iff.2 fun x hx => by
    obtain ⟨j, hj, rfl⟩ := List.getElem_of_mem hx
    simp [h j hj (by omega)]]
theorem Before.all {α : Type} {p : α → Bool} {xs : List α} {i : Nat} (h : Before p xs i) (hi : xs.length ≤ i) : (xs.all fun x => !p x) = true := by
  rw [List.all_eq_true]
  intro x hx
  obtain ⟨j, hj, rfl⟩ := List.getElem_of_mem hx
  simp [h j hj (by omega)]
/-- A copy half made. -/
def fillL {α : Type} (f : α → PV) (z : PV) (xs : List α) (i : Nat) : List PV := (xs.take i).map f ++ List.replicate (xs.length - i) z
section
variable {α : Type} {f : α → PV} {z : PV} {xs : List α} {i : Nat}
theorem fill_zero : fillL f z xs 0 = List.replicate xs.length z := by simp [fillL]
theorem fill_all (h : xs.length ≤ i) : fillL f z xs i = xs.map f := by
  unfold fillL
  rw [List.take_of_length_le h, show xs.length - i = 0 by omega]; simp
theorem fill_len (h : i ≤ xs.length) : (fillL f z xs i).length = xs.length := by simp [fillL]; omega
theorem fill_get (h : i < xs.length) : (fillL f z xs i)[i]? = some z := by
  unfold fillL
  have e1 : min i xs.length = i := by omega
  rw [List.getElem?_append_right (by simp; omega)]
  simp only [List.length_map, List.length_take, List.getElem?_replicate, e1]
  rw [if_pos (by omega)]
theorem fill_getE (h : i < xs.length) (h' : i < (fillL f z xs i).length) : (fillL f z xs i)[i] = z := by
  have := fill_get (f := f) (z := z) h
  rw [List.getElem?_eq_getElem h'] at this
  exact Option.some.inj this
theorem fill_set (h : i < xs.length) : (fillL f z xs i).set i (f xs[i]) = fillL f z xs (i + 1) := by
  apply List.ext_getElem?
  intro j
  unfold fillL
  by_cases hj : j = i
  · subst hj
    rw [List.getElem?_set_self (by simp; omega), List.getElem?_append_left (by simp; omega)]
    simp [h]
  · rw [List.getElem?_set_ne (Ne.symm hj)]
    by_cases hlt : j < i
    · rw [List.getElem?_append_left (by simp; omega), List.getElem?_append_left (by simp; omega)]
      simp [List.getElem?_take, hlt, show j < i + 1 by omega]
    · rw [List.getElem?_append_right (by simp; omega), List.getElem?_append_right (by simp; omega)]
      simp only [List.length_map, List.length_take, List.getElem?_replicate]
      have e1 : min i xs.length = i := by omega
      have e2 : min (i + 1) xs.length = i + 1 := by omega
      rw [e1, e2]
      by_cases hl : j < xs.length
      · rw [if_pos (by omega), if_pos (by omega)]
      · rw [if_neg (by omega), if_neg (by omega)]
end
end Go.Den
set_option autoImplicit false
namespace Go.Den

/-! ### What came in, read as plain values -/
/-- Cells read, one by one. -/
def RC (P : Program) (w : World) (vs : List PV) (cs : List Value) : Prop := vs.length = cs.length ∧ ∀ i, i < vs.length → R P w .rep (fun k => k < w.heap.size) (vs.getD i .undef) (cs.getD i undef)

theorem RC.append {P : Program} {w : World} {v1 v2 : List PV} {c1 c2 : List Value} (h1 : RC P w v1 c1) (h2 : RC P w v2 c2) : RC P w (v1 ++ v2) (c1 ++ c2) := by
  refine ⟨by simp [h1.1, h2.1], fun i hi => ?_⟩
  simp only [List.getD_eq_getElem?_getD]
  by_cases h : i < v1.length
  · rw [List.getElem?_append_left h, List.getElem?_append_left (by rw [← h1.1]; exact h)]
    have := h1.2 i h
    simpa only [List.getD_eq_getElem?_getD] using this
  · rw [List.getElem?_append_right (by omega), List.getElem?_append_right (by rw [← h1.1]; omega), ← h1.1]
    have := h2.2 (i - v1.length) (by simp at hi; omega)
    simpa only [List.getD_eq_getElem?_getD] using this
theorem RC.one {P : Program} {w : World} {v : PV} {c : Value} (h : R P w .rep (fun k => k < w.heap.size) v c) : RC P w [v] [c] :=
  ⟨rfl, fun i hi => by obtain rfl : i = 0 := by simpa using hi
                       exact h⟩

/-- Rows that these cells name lie in memory. -/
def Lies (w : World) (cs : List Value) : Prop := ∀ (i : Nat) (a : Addr) (len cap : Nat), cs[i]? = some (.slice (some a) len cap) → a.block < w.heap.size
/-- Whatever of type t came in reads as n cells of which Q holds. -/
def Opens (need : Bool) (P : Program) (t : TypeId) (n : Nat) (Q : List PV → Prop) : Prop :=
  P.cellsOf t = n ∧ ∀ {H : Type} {enc : TypeId × Value → H} {w : World} {base : Nat} {spare : Nat → Bool} {held : Bool} {fuel : Nat} {cs : List Value} {x : DataW H × List MemPlace},
    DataW.trod enc P w base spare held fuel t cs = some x → (need = true → Lies w cs) → ∃ vs, Q vs ∧ vs.length = n ∧ RC P w vs cs

theorem Opens.mono {need : Bool} {P : Program} {t : TypeId} {n : Nat} {Q Q' : List PV → Prop} (h : Opens need P t n Q) (hq : ∀ vs, Q vs → Q' vs) : Opens need P t n Q' :=
  ⟨h.1, fun hx hl => by obtain ⟨vs, h1, h2⟩ := h.2 hx hl; exact ⟨vs, hq vs h1, h2⟩⟩

theorem Opens.int {need : Bool} {P : Program} {t : TypeId} {k : IntKind} (ht : P.underlying t = some (.int k)) (hc : P.cellsOf t = 1) : Opens need P t 1 (fun vs => ∃ n, vs = [.int k n] ∧ (Lit.int k n).wf = true) := by
  refine ⟨hc, fun {H enc w base spare held fuel cs x} hx _ => ?_⟩
  obtain ⟨n, rfl, _, hwf⟩ := DataW.trod_int ht hx
  exact ⟨_, ⟨_, rfl, hwf⟩, rfl, RC.one (.flat rfl)⟩
theorem Opens.bool {need : Bool} {P : Program} {t : TypeId} (ht : P.underlying t = some .bool) (hc : P.cellsOf t = 1) : Opens need P t 1 (fun vs => ∃ b, vs = [.bool b]) := by
  refine ⟨hc, fun {H enc w base spare held fuel cs x} hx _ => ?_⟩
  obtain ⟨n, rfl, _⟩ := DataW.trod_bool ht hx
  exact ⟨_, ⟨_, rfl⟩, rfl, RC.one (.flat rfl)⟩
theorem Opens.str {need : Bool} {P : Program} {t : TypeId} (ht : P.underlying t = some .string) (hc : P.cellsOf t = 1) : Opens need P t 1 (fun vs => ∃ s : ByteArray, vs = [.str s] ∧ s.size ≤ maxLen) := by
  refine ⟨hc, fun {H enc w base spare held fuel cs x} hx _ => ?_⟩
  obtain ⟨n, rfl, _, hwf⟩ := DataW.trod_string ht hx
  exact ⟨_, ⟨_, rfl, hwf⟩, rfl, RC.one (.flat rfl)⟩

/-- An element, out of its cells. -/
def mkEl (agg : Bool) (vs : List PV) : PV := if agg then .agg vs else vs.getD 0 .undef
theorem Opens.sl {P : Program} {t e : TypeId} {n : Nat} {Q : List PV → Prop} (agg : Bool) (he : Opens false P e n Q) (ht : P.underlying t = some (.slice e)) (hc : P.cellsOf t = 1) (hn : 0 < n) (hcell : agg = false → n = 1 ∧ ∀ vs, Q vs → (vs.getD 0 .undef).cells = vs) :
    Opens true P t 1 (fun vs => ∃ v xs, vs = [v] ∧ (v = .nil ∧ xs = [] ∨ v = .sl e (xs.map (mkEl agg))) ∧ xs.length ≤ 9223372036854775807 ∧ ∀ x ∈ xs, Q x) := by
  refine ⟨hc, fun {H enc w base spare held fuel cs x} hx hli => ?_⟩
  rcases DataW.trod_slice ht hx with ⟨rfl, _⟩ | ⟨a, len, cap, elems, rest, m, _, rfl, _, _, hl, hm, hlen, hel, _⟩
  · exact ⟨[.nil], ⟨_, [], rfl, .inl ⟨rfl, rfl⟩, by simp, by simp⟩, rfl, RC.one (.flat rfl)⟩
  · -- each element
    have each : ∀ i, ∃ vs : List PV, i < len → Q vs ∧ vs.length = n ∧ ∃ ccs, w.cells? base (a.add (i * n)) n = some ccs ∧ RC P w vs ccs := fun i => by
      by_cases hi : i < len
      · have h1 := hel i hi
        rw [he.1] at h1
        have h2 : ∃ y, elems[i]? = some y := ⟨elems[i], List.getElem?_eq_getElem (by omega)⟩
        obtain ⟨y, hy⟩ := h2
        rw [hy] at h1
        obtain ⟨ccs, h3, h4⟩ := Option.bind_eq_some_iff.1 h1
        obtain ⟨vs, q1, q2, q3⟩ := he.2 h4 (fun h => by cases h)
        exact ⟨vs, fun _ => ⟨q1, q2, ccs, h3, q3⟩⟩
      · exact ⟨[], fun h => absurd h hi⟩
    obtain ⟨F, hF⟩ := Classical.skolem.1 each
    let xs := (List.range len).map F
    have hxl : xs.length = len := by simp [xs]
    have hcells : ∀ i, i < len → (mkEl agg (F i)).cells = F i := fun i hi => by
      obtain ⟨q1, q2, _⟩ := hF i hi
      unfold mkEl
      cases agg with
      | true => rfl
      | false => exact (hcell rfl).2 _ q1
    have hsz : ∀ x ∈ xs.map (mkEl agg), x.cells.length = P.cellsOf e := by
      intro x hx
      simp only [xs, List.map_map, List.mem_map, List.mem_range] at hx
      obtain ⟨i, hi, rfl⟩ := hx
      simp only [Function.comp]
      rw [hcells i hi, he.1, (hF i hi).2.1]
    -- the cells of the row
    have hcell2 : ∀ i j, i < len → j < n → ∃ u, w.cell? (a.add (i * n + j)) = some u ∧ R P w .rep (fun k => k < w.heap.size) ((F i).getD j .undef) u := fun i j hi hj => by
      obtain ⟨q1, q2, ccs, q3, q4⟩ := hF i hi
      obtain ⟨_, c2, c3⟩ := World.cells?_some q3
      have hj' : j < (F i).length := by omega
      have hjc : j < ccs.length := by rw [← q4.1]; exact hj'
      refine ⟨ccs.getD j undef, ?_, q4.2 j hj'⟩
      have := c3 j hj
      rw [add_add] at this
      rw [this, List.getD_eq_getElem?_getD, List.getElem?_eq_getElem hjc]; rfl
    have hflat : ∀ q, ∃ u, q < len * n → w.cell? (a.add q) = some u ∧ R P w .rep (fun k => k < w.heap.size) ((flatten (xs.map (mkEl agg))).getD q .undef) u := fun q => by
      by_cases hq : q < len * n
      · have hi : q / n < len := (Nat.div_lt_iff_lt_mul hn).2 hq
        have hj : q % n < n := Nat.mod_lt _ hn
        obtain ⟨u, h1, h2⟩ := hcell2 (q / n) (q % n) hi hj
        have hqe : q / n * n + q % n = q := by rw [Nat.mul_comm]; exact Nat.div_add_mod _ _
        rw [hqe] at h1
        refine ⟨u, fun _ => ⟨h1, ?_⟩⟩
        have := flatten_get (n := n) (fun x hx => by rw [hsz x hx, he.1]) (i := q / n) (j := q % n) (x := mkEl agg (F (q / n))) (xs := xs.map (mkEl agg)) (by simp [xs, hi]) hj
        rw [hqe] at this
        rw [this, hcells _ hi]; exact h2
      · exact ⟨undef, fun h => absurd h hq⟩
    obtain ⟨U, hU⟩ := Classical.skolem.1 hflat
    have hflen : (flatten (xs.map (mkEl agg))).length = len * n := by
      rw [flatten_len (n := n) (fun x hx => by rw [hsz x hx, he.1])]; simp [hxl]
    refine ⟨[.sl e (xs.map (mkEl agg))], ⟨_, xs, rfl, .inr rfl, by rw [hxl]; simp only [maxLen] at hm; omega, fun x hx => ?_⟩, rfl, RC.one ?_⟩
    · simp only [xs, List.mem_map, List.mem_range] at hx
      obtain ⟨i, hi, rfl⟩ := hx
      exact (hF i hi).1
    · have hlen2 : (xs.map (mkEl agg)).length = len := by simp [hxl]
      refine .row (fun _ => 0) ((List.range (len * n)).map U) hsz (by rw [he.1]; exact hn) ⟨a, cap, by rw [hlen2], by rw [hlen2]; exact hl, hm, by rw [hlen2, he.1]; simp, fun j u hj => ?_⟩ (fun k hk => ?_) fun i hi => ?_
      · have hjl : j < len * n := by simpa using (List.getElem?_eq_some_iff.1 hj).1
        have : u = U j := by simpa [hjl] using hj.symm
        rw [this]; exact (hU j hjl).1
      · simp only [Value.ownBlock, Option.some.injEq] at hk
        subst hk
        exact hli rfl 0 a len cap rfl
      · rw [hflen] at hi
        have := (hU i hi).2
        have e1 : ((List.range (len * n)).map U).getD i undef = U i := by simp [hi]
        rw [e1]; exact this

theorem Lies.sub {w : World} {cs : List Value} (h : Lies w cs) (m n : Nat) : Lies w ((cs.drop m).take n) := fun i a len cap hi => by
  rw [List.getElem?_take] at hi
  split at hi
  · rw [List.getElem?_drop] at hi; exact h _ a len cap hi
  · cases hi

theorem Opens.st2 {need : Bool} {P : Program} {t : TypeId} {f0 f1 : Field} {n0 n1 : Nat} {Q0 Q1 : List PV → Prop} (ht : P.underlying t = some (.struct #[f0, f1])) (hc : P.cellsOf t = n0 + n1) (h0 : Opens need P f0.type n0 Q0) (h1 : Opens need P f1.type n1 Q1)
    (o0 : f0.offset = 0) (o1 : f1.offset = n0) : Opens need P t (n0 + n1) (fun vs => ∃ a b, vs = a ++ b ∧ Q0 a ∧ Q1 b) := by
  refine ⟨hc, fun {H enc w base spare held fuel cs x} hx hli => ?_⟩
  obtain ⟨xs, n, _, _, hl, hlen, hf⟩ := DataW.trod_struct ht hx
  have get : ∀ i (f : Field), #[f0, f1][i]? = some f → ∃ y, DataW.trod enc P w base spare held n f.type ((cs.drop f.offset).take (P.cellsOf f.type)) = some y := fun i f hi => by
    have hil : i < xs.length := by rw [hlen]; exact (Array.getElem?_eq_some_iff.1 hi).1
    exact ⟨xs[i], (hf i f hi).trans (List.getElem?_eq_getElem hil)⟩
  obtain ⟨y0, g0⟩ := get 0 f0 rfl
  obtain ⟨y1, g1⟩ := get 1 f1 rfl
  obtain ⟨v0, q0, l0, r0⟩ := h0.2 g0 fun h => (hli h).sub _ _
  obtain ⟨v1, q1, l1, r1⟩ := h1.2 g1 fun h => (hli h).sub _ _
  rw [h0.1, o0] at r0
  rw [h1.1, o1] at r1
  refine ⟨v0 ++ v1, ⟨v0, v1, rfl, q0, q1⟩, by simp [l0, l1], ?_⟩
  have := r0.append r1
  have e : (cs.drop 0).take n0 ++ (cs.drop n0).take n1 = cs := by
    rw [List.drop_zero, List.take_of_length_le (l := cs.drop n0) (by simp; omega), List.take_append_drop]
  rwa [e] at this
theorem Opens.st3 {need : Bool} {P : Program} {t : TypeId} {f0 f1 f2 : Field} {n0 n1 n2 : Nat} {Q0 Q1 Q2 : List PV → Prop} (ht : P.underlying t = some (.struct #[f0, f1, f2])) (hc : P.cellsOf t = n0 + n1 + n2) (h0 : Opens need P f0.type n0 Q0) (h1 : Opens need P f1.type n1 Q1) (h2 : Opens need P f2.type n2 Q2)
    (o0 : f0.offset = 0) (o1 : f1.offset = n0) (o2 : f2.offset = n0 + n1) : Opens need P t (n0 + n1 + n2) (fun vs => ∃ a b c, vs = a ++ b ++ c ∧ Q0 a ∧ Q1 b ∧ Q2 c) := by
  refine ⟨hc, fun {H enc w base spare held fuel cs x} hx hli => ?_⟩
  obtain ⟨xs, n, _, _, hl, hlen, hf⟩ := DataW.trod_struct ht hx
  have get : ∀ i (f : Field), #[f0, f1, f2][i]? = some f → ∃ y, DataW.trod enc P w base spare held n f.type ((cs.drop f.offset).take (P.cellsOf f.type)) = some y := fun i f hi => by
    have hil : i < xs.length := by rw [hlen]; exact (Array.getElem?_eq_some_iff.1 hi).1
    exact ⟨xs[i], (hf i f hi).trans (List.getElem?_eq_getElem hil)⟩
  obtain ⟨y0, g0⟩ := get 0 f0 rfl
  obtain ⟨y1, g1⟩ := get 1 f1 rfl
  obtain ⟨y2, g2⟩ := get 2 f2 rfl
  obtain ⟨v0, q0, l0, r0⟩ := h0.2 g0 fun h => (hli h).sub _ _
  obtain ⟨v1, q1, l1, r1⟩ := h1.2 g1 fun h => (hli h).sub _ _
  obtain ⟨v2, q2, l2, r2⟩ := h2.2 g2 fun h => (hli h).sub _ _
  rw [h0.1, o0] at r0
  rw [h1.1, o1] at r1
  rw [h2.1, o2] at r2
  refine ⟨v0 ++ v1 ++ v2, ⟨v0, v1, v2, rfl, q0, q1, q2⟩, by simp [l0, l1, l2]; omega, ?_⟩
  have := (r0.append r1).append r2
  have e : (cs.drop 0).take n0 ++ (cs.drop n0).take n1 ++ (cs.drop (n0 + n1)).take n2 = cs := by
    rw [List.drop_zero, List.take_of_length_le (l := cs.drop (n0 + n1)) (by simp; omega), ← List.drop_drop, List.append_assoc, List.take_append_drop, List.take_append_drop]
  rwa [e] at this

/-- A law's call, whatever came in. -/
theorem lift_core {P : Program} {g : Nat} {sg : Sig} {Rl : Rel} (hs : SpecR P g sg Rl) (hrs : sg.rs = [.fl]) {W : World} {args : List Value} {pvs : List PV} (hl1 : args.length = pvs.length) (hl2 : sg.ps.length = pvs.length)
    (hR : ∀ i (p : PK), sg.ps[i]? = some p → (p = .rd ∧ R P W .rep (fun k => k < W.heap.size) (pvs.getD i .undef) (args.getD i undef)) ∨ (p = .fl ∧ R P W .rep (fun _ => False) (pvs.getD i .undef) (args.getD i undef)))
    (hrel : Rl 0 pvs [] [.bool true] []) (hmu : sg.mu = false := by rfl) : Calls P g args.toArray W fun e W' => e = .returned (.bool true) ∧ Go.RowKit.Below W.heap.size W W' := by
  let X : Cx := ⟨P, [], 0, fun _ => undef⟩
  let s : S := { σ := pvs, H := [], L := fun k => if k < W.heap.size then .sh else .no, bm := fun _ => 0, a := ⟨args.toArray, []⟩, w := W }
  have hent : entG sg = sg.ps.map PK.toG := by simp [entG, hmu]
  have hrs' : sg.rs' = sg.rs := by simp [Sig.rs', hmu]
  have hsim : Sim X (entG sg) s := by
    rw [hent]
    refine ⟨by simp [s, hl2], by simp [s, hl1], rfl, fun i gg hg => ?_, fun r b hb => by simp [s] at hb, fun k hk => if_neg (by show ¬ k < W.heap.size; exact Nat.not_lt.2 hk), ⟨Nat.le_refl _, fun r p hp => by simp [X] at hp⟩⟩
    simp only [List.getElem?_map, Option.map_eq_some_iff] at hg
    obtain ⟨p, hp, rfl⟩ := hg
    right
    have e2 : s.c i = args.getD i undef := by simp [s, S.c, List.getD_eq_getElem?_getD]
    have e1 : s.v i = pvs.getD i .undef := rfl
    rw [e1, e2]
    rcases hR i p hp with ⟨rfl, h⟩ | ⟨rfl, h⟩
    · exact R.mono h fun k hk => if_pos hk
    · exact h
  refine (hs.2 X s (fun rs' _ => rs' = [PV.bool true]) rfl hsim rfl (fun _ => rfl) (fun hx => by rw [hmu] at hx; cases hx) ⟨[.bool true], [], hrel, rfl⟩).mono ?_
  rintro e W' ⟨s', rfl, rfl, hs', _, hf, H', _, hk⟩
  rw [hrs'] at hs'
  rw [show (if sg.mu = true then s'.a.tmps.pop else s'.a.tmps) = s'.a.tmps by simp [hmu]]
  have hk' : s'.σ = [.bool true] := hk
  refine ⟨?_, hf.os, hf.tape, hf.output, hf.size, fun k hk => (hf.keep k hk (by show keeps X (if k < W.heap.size then .sh else .no); rw [if_pos hk]; trivial)).1⟩
  have hsl := hs'.slot 0 .fl (by rw [hrs]; rfl)
  have hv : s'.v 0 = .bool true := by simp [S.v, hk']
  rcases hsl with h | h
  · rw [hv] at h; cases h
  · rw [hv] at h
    have hc := R.bool_inv h
    have hsz : s'.a.tmps.size = 1 := by rw [hs'.lenA, hk']; rfl
    unfold packV
    rw [dif_pos hsz]
    simp only [S.c, Array.getD_eq_getD_getElem?] at hc
    rw [Array.getElem?_eq_getElem (by omega)] at hc
    simp only [Option.getD_some] at hc
    rw [hc]

/-- What an argument's shape says: the rows that it names lie in memory. -/
theorem lies_of_ok {P : Program} {W : World} {r : Reach} {base : Nat} {t : TypeId} {v : Value} (h : Value.okWide P W r base t v) : Lies W v.cells.toList := by
  have cell : ∀ u (a : Addr) len cap, Cell.okWide P W r base u (.slice (some a) len cap) → a.block < W.heap.size := by
    intro u a len cap hc
    unfold Cell.okWide at hc
    have : Cell.ok P W r base u (.slice (some a) len cap) := by
      split at hc <;> first | exact hc | (rename_i h2; cases h2)
    unfold Cell.ok at this
    split at this <;> try (rename_i h2; cases h2)
    all_goals first
      | exact this.elim
      | (obtain ⟨_, _, _, _, row, cells, hsh, _⟩ := this
         unfold World.shape? at hsh
         rcases Nat.lt_or_ge a.block W.heap.size with hlt | hge
         · exact hlt
         · simp [Array.getElem?_eq_none hge] at hsh)
  have row : ∀ cs : Array Value, v = .agg cs → Row.okWide P W r base t cs → Lies W v.cells.toList := by
    rintro cs rfl ⟨ts, _, _, hcs⟩ i a len cap hi
    have hi' : cs[i]? = some (.slice (some a) len cap) := by simpa [Value.cells] using hi
    obtain ⟨u, _, hu⟩ := hcs i _ hi'
    exact cell u a len cap hu
  have one : Cell.okWide P W r base t v → (∀ cs, v ≠ .agg cs) → Lies W v.cells.toList := by
    intro hc hne i a len cap hi
    have hv : v.cells = #[v] := by cases v <;> first | rfl | exact absurd rfl (hne _)
    rw [hv] at hi
    have hi2 : v = .slice (some a) len cap := by
      cases i with
      | zero => simpa using hi
      | succ i => simp at hi
    rw [hi2] at hc
    exact cell t a len cap hc
  unfold Value.okWide at h
  split at h
  · obtain ⟨cs, h1, _, h2⟩ := h; exact row cs h1 h2
  · obtain ⟨cs, h1, _, h2⟩ := h; exact row cs h1 h2
  · refine one h fun cs hx => ?_
    rw [hx] at h
    unfold Cell.okWide at h
    split at h <;> first | (rename_i h2; cases h2; done) | skip
    all_goals (unfold Cell.ok at h; split at h <;> first | exact h.elim | (rename_i h2; cases h2))
end Go.Den
set_option autoImplicit false
namespace Go.Den
open Go.ChangeShapes Go.WideShapes Go.ChangeAt Go.RowKit
theorem Opens.st4 {need : Bool} {P : Program} {t : TypeId} {f0 f1 f2 f3 : Field} {n0 n1 n2 n3 : Nat} {Q0 Q1 Q2 Q3 : List PV → Prop} (ht : P.underlying t = some (.struct #[f0, f1, f2, f3])) (hc : P.cellsOf t = n0 + n1 + n2 + n3) (h0 : Opens need P f0.type n0 Q0) (h1 : Opens need P f1.type n1 Q1) (h2 : Opens need P f2.type n2 Q2) (h3 : Opens need P f3.type n3 Q3)
    (o0 : f0.offset = 0) (o1 : f1.offset = n0) (o2 : f2.offset = n0 + n1) (o3 : f3.offset = n0 + n1 + n2) : Opens need P t (n0 + n1 + n2 + n3) (fun vs => ∃ a b c d, vs = a ++ b ++ c ++ d ∧ Q0 a ∧ Q1 b ∧ Q2 c ∧ Q3 d) := by
  refine ⟨hc, fun {H enc w base spare held fuel cs x} hx hli => ?_⟩
  obtain ⟨xs, n, _, _, hl, hlen, hf⟩ := DataW.trod_struct ht hx
  have get : ∀ i (f : Field), #[f0, f1, f2, f3][i]? = some f → ∃ y, DataW.trod enc P w base spare held n f.type ((cs.drop f.offset).take (P.cellsOf f.type)) = some y := fun i f hi => by
    have hil : i < xs.length := by rw [hlen]; exact (Array.getElem?_eq_some_iff.1 hi).1
    exact ⟨xs[i], (hf i f hi).trans (List.getElem?_eq_getElem hil)⟩
  obtain ⟨y0, g0⟩ := get 0 f0 rfl
  obtain ⟨y1, g1⟩ := get 1 f1 rfl
  obtain ⟨y2, g2⟩ := get 2 f2 rfl
  obtain ⟨y3, g3⟩ := get 3 f3 rfl
  obtain ⟨v0, q0, l0, r0⟩ := h0.2 g0 fun h => (hli h).sub _ _
  obtain ⟨v1, q1, l1, r1⟩ := h1.2 g1 fun h => (hli h).sub _ _
  obtain ⟨v2, q2, l2, r2⟩ := h2.2 g2 fun h => (hli h).sub _ _
  obtain ⟨v3, q3, l3, r3⟩ := h3.2 g3 fun h => (hli h).sub _ _
  rw [h0.1, o0] at r0
  rw [h1.1, o1] at r1
  rw [h2.1, o2] at r2
  rw [h3.1, o3] at r3
  refine ⟨v0 ++ v1 ++ v2 ++ v3, ⟨v0, v1, v2, v3, rfl, q0, q1, q2, q3⟩, by simp [l0, l1, l2, l3]; omega, ?_⟩
  have := ((r0.append r1).append r2).append r3
  have e : (cs.drop 0).take n0 ++ (cs.drop n0).take n1 ++ (cs.drop (n0 + n1)).take n2 ++ (cs.drop (n0 + n1 + n2)).take n3 = cs := by
    have ea : cs.drop (n0 + n1 + n2) = (cs.drop (n0 + n1)).drop n2 := by rw [List.drop_drop]
    have eb : cs.drop (n0 + n1) = (cs.drop n0).drop n1 := by rw [List.drop_drop]
    rw [List.drop_zero, List.take_of_length_le (l := cs.drop (n0 + n1 + n2)) (by simp; omega), ea, List.append_assoc, List.take_append_drop, eb, List.append_assoc, List.take_append_drop, List.take_append_drop]
  rwa [e] at this
end Go.Den
