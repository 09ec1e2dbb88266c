/- All nestings, and the best one by a score: each function does what is told of it. Conditions: none. -/
import Derived.Test.YtnkjbncagnfnoaaVn5
set_option linter.unusedVariables false
set_option linter.unusedSimpArgs false
set_option linter.unnecessarySimpa false
set_option autoImplicit false
set_option linter.unusedSimpArgs false
set_option linter.unusedVariables false
namespace Go.Den
/-! ### All nestings, in order -/
def intoAt (j : Nat) : Int := (j : Int) - 1
def nestsL (xs : List B3) : Nat → List Int → List (List Int)
  | 0, p => [p]
  | m + 1, p => (List.range (xs.length + 1)).flatMap fun j => if freeN xs p p.length (intoAt j) = true then nestsL xs m (p ++ [intoAt j]) else []
def nestsP (xs : List B3) (m : Nat) (p : List Int) (s : Nat) : List (List Int) := (List.range s).flatMap fun j => if freeN xs p p.length (intoAt j) = true then nestsL xs m (p ++ [intoAt j]) else []
theorem nestsL_succ {xs : List B3} {m : Nat} {p : List Int} : nestsL xs (m + 1) p = nestsP xs m p (xs.length + 1) := rfl
theorem nestsP_zero {xs : List B3} {m : Nat} {p : List Int} : nestsP xs m p 0 = [] := rfl
theorem nestsP_succ {xs : List B3} {m : Nat} {p : List Int} {s : Nat} : nestsP xs m p (s + 1) = nestsP xs m p s ++ (if freeN xs p p.length (intoAt s) = true then nestsL xs m (p ++ [intoAt s]) else []) := by
  simp [nestsP, List.range_succ]
theorem fitB_self {x : B3} : fitB x x = false := by
  obtain ⟨p, q, r, h⟩ := sortB_three x
  rw [fitB_eq h h]; simp
theorem free_self {xs : List B3} {p : List Int} {i : Nat} : freeN xs p i (intoAt (i + 1)) = false := by
  have h : ¬ intoAt (i + 1) < 0 := by unfold intoAt; omega
  have e : (intoAt (i + 1)).toNat = i := by unfold intoAt; omega
  simp [freeN, h, e, fitB_self]
theorem free_at {xs : List B3} {p : List Int} {i k : Nat} : freeN xs p i (intoAt (k + 1)) = (fitB (xs.getD i zB) (xs.getD k zB) && !p.contains (k : Int)) := by
  have h : ¬ ((k : Int) + 1 - 1 < 0) := by omega
  have e : ((k : Int) + 1 - 1) = k := by omega
  have e' : intoAt (k + 1) = (k : Int) := by unfold intoAt; omega
  rw [e']
  have h0 : ¬ (k : Int) < 0 := by omega
  simp [freeN, h0]
theorem intoAt_succ {k : Nat} : intoAt (k + 1) = (k : Int) := by unfold intoAt; omega
theorem free_out {xs : List B3} {p : List Int} {i : Nat} : freeN xs p i (intoAt 0) = true := by simp [freeN, intoAt]
theorem nestsP_len {xs : List B3} {m : Nat} {p : List Int} (ih : ∀ k, (nestsL xs m (p ++ [k])).length ≤ 7 ^ m) : ∀ {s : Nat}, (nestsP xs m p s).length ≤ (if s ≤ p.length + 1 then s else s - 1) * 7 ^ m
  | 0 => by simp [nestsP]
  | s + 1 => by
    have h := nestsP_len ih (s := s)
    rw [nestsP_succ, List.length_append]
    have hi := ih (intoAt s)
    by_cases hs : s = p.length + 1
    · subst hs
      rw [free_self]
      have h1 : ¬ (p.length + 1 + 1 ≤ p.length + 1) := by omega
      rw [if_neg h1]
      simpa using h
    · by_cases hle : s ≤ p.length + 1
      · have h1 : s + 1 ≤ p.length + 1 := by omega
        rw [if_pos hle] at h
        rw [if_pos h1, Nat.succ_mul]
        split
        · omega
        · simp; omega
      · have h1 : ¬ s + 1 ≤ p.length + 1 := by omega
        rw [if_neg hle] at h
        rw [if_neg h1]
        have e : s + 1 - 1 = (s - 1) + 1 := by omega
        rw [e, Nat.succ_mul]
        split
        · omega
        · simp; omega
theorem nestsL_len {xs : List B3} (hx : xs.length ≤ 7) : ∀ {m : Nat} {p : List Int}, p.length + m = xs.length → (nestsL xs m p).length ≤ 7 ^ m
  | 0, p, _ => by simp [nestsL]
  | m + 1, p, h => by
    rw [nestsL_succ]
    have h1 := nestsP_len (xs := xs) (m := m) (p := p) (fun k => nestsL_len hx (by simp; omega)) (s := xs.length + 1)
    have h2 : ¬ (xs.length + 1 ≤ p.length + 1) := by omega
    rw [if_neg h2] at h1
    have h3 : (xs.length + 1 - 1) * 7 ^ m ≤ 7 * 7 ^ m := Nat.mul_le_mul_right _ (by omega)
    rw [Nat.pow_succ]
    omega
theorem nestsP_le {xs : List B3} {m : Nat} {p : List Int} {s t : Nat} (h : s ≤ t) : (nestsP xs m p s).length ≤ (nestsP xs m p t).length := by
  induction t with
  | zero => obtain rfl : s = 0 := by omega
            exact Nat.le_refl _
  | succ t ih =>
    rcases Nat.lt_or_ge t s with h1 | h1
    · obtain rfl : s = t + 1 := by omega
      exact Nat.le_refl _
    · rw [nestsP_succ, List.length_append]
      have := ih h1
      omega
theorem nestsP_room {xs : List B3} {m : Nat} {p : List Int} {j : Nat} (hx : xs.length ≤ 7) (h : p.length + (m + 1) = xs.length) (hj : j < xs.length + 1) (hf : freeN xs p p.length (intoAt j) = true) : (nestsP xs m p j).length + 7 ^ m ≤ 7 ^ (m + 1) := by
  have h1 := nestsP_len (xs := xs) (m := m) (p := p) (fun k => nestsL_len hx (by simp; omega)) (s := j)
  have hne : j ≠ p.length + 1 := by rintro rfl; rw [free_self] at hf; cases hf
  have h2 : ((if j ≤ p.length + 1 then j else j - 1) + 1) * 7 ^ m ≤ 7 * 7 ^ m := Nat.mul_le_mul_right _ (by split <;> omega)
  rw [Nat.add_mul] at h2
  rw [Nat.pow_succ]
  omega
theorem nestsL_mem {xs : List B3} : ∀ {m : Nat} {p q : List Int}, q ∈ nestsL xs m p → q.length = p.length + m
  | 0, p, q, h => by simp [nestsL] at h; subst h; rfl
  | m + 1, p, q, h => by
    simp only [nestsL, List.mem_flatMap] at h
    obtain ⟨j, _, h⟩ := h
    split at h
    · have := nestsL_mem h
      simp at this; omega
    · simp at h
theorem nestsL_ne {xs : List B3} : ∀ {m : Nat} {p : List Int}, nestsL xs m p ≠ []
  | 0, p => by simp [nestsL]
  | m + 1, p => by
    intro h
    simp only [nestsL, List.flatMap_eq_nil_iff, List.mem_range] at h
    have := h 0 (by omega)
    rw [free_out, if_pos rfl] at this
    exact nestsL_ne this
theorem nests_bound {xs : List B3} {m : Nat} (hx : xs.length ≤ 7) (hm : m ≤ xs.length) : 7 ^ m ≤ 823543 := by
  have : 7 ^ m ≤ 7 ^ 7 := Nat.pow_le_pow_right (by omega) (by omega)
  omega
theorem appR_all {e2 e : Nat} {A B : List (List Int)} (h : A.length + B.length ≤ 2097152) : appV e2 24 false (addV e2 e .nil [] A) (addV e2 e .nil [] B) = some (addV e2 e .nil [] (A ++ B)) := by
  have h0 : Sl e2 (pR e) .nil [] := ⟨.inr ⟨rfl, rfl⟩, by simp⟩
  have hA := addV_sl h0 (l := A) (by simp; omega)
  have hB := addV_sl h0 (l := B) (by simp; omega)
  unfold appV
  rw [hA.row, hB.row]
  simp only [List.nil_append]
  rw [if_pos]
  · congr 1
    cases A <;> cases B <;> simp [addV, appRes]
  · refine ⟨by simp; omega, by simp; omega, ?_, by simp⟩
    simp [pR]
/-! ### What a nesting is worth -/
def vol (b : B3) : Int := b.a * b.b * b.c
theorem vol_ok {b : B3} (h : okB b = true) : 0 ≤ vol b ∧ vol b ≤ 125000 ∧ 0 ≤ b.a * b.b ∧ b.a * b.b ≤ 2500 := by
  simp [okB, inR] at h
  obtain ⟨h1, h2, h3⟩ := h
  have m1 : b.a * b.b ≤ 50 * 50 := Int.mul_le_mul (by omega) (by omega) (by omega) (by omega)
  have m0 : 0 ≤ b.a * b.b := Int.mul_nonneg (by omega) (by omega)
  have m2 : b.a * b.b * b.c ≤ 2500 * 50 := Int.mul_le_mul (by omega) (by omega) (by omega) (by omega)
  have m3 : 0 ≤ b.a * b.b * b.c := Int.mul_nonneg m0 (by omega)
  unfold vol
  omega
def sumV (xs : List B3) : List Int → Int
  | [] => 0
  | i :: l => vol (xs.getD i.toNat zB) + sumV xs l
theorem sumV_app {xs : List B3} {l m : List Int} : sumV xs (l ++ m) = sumV xs l + sumV xs m := by
  induction l with
  | nil => simp [sumV]
  | cons i l ih => simp [sumV, ih]; omega
theorem sumV_ok {xs : List B3} (hx : ∀ b ∈ xs, okB b = true) : ∀ {l : List Int}, (∀ i ∈ l, i.toNat < xs.length) → 0 ≤ sumV xs l ∧ sumV xs l ≤ 125000 * l.length
  | [], _ => by simp [sumV]
  | i :: l, h => by
    have h1 := sumV_ok hx (l := l) (fun j hj => h j (by simp [hj]))
    have hi := h i (by simp)
    have h2 := vol_ok (hx (xs.getD i.toNat zB) (by rw [getD_nat hi]; exact List.getElem_mem hi))
    simp only [sumV, List.length_cons]
    push_cast
    omega
theorem outerL_mem {plan : List Int} {k : Nat} {i : Int} (h : i ∈ outerL plan k) : 0 ≤ i ∧ i < k := by
  simp only [outerL, List.mem_map, List.mem_filter, List.mem_range] at h
  obtain ⟨j, ⟨h1, _⟩, rfl⟩ := h
  omega
/-- The volume of the outer boxes. -/
def volO (xs : List B3) (p : List Int) : Int := sumV xs (outerL p p.length)
theorem volO_ok {xs : List B3} (hx : ∀ b ∈ xs, okB b = true) {p : List Int} (hp : p.length ≤ xs.length) (h7 : xs.length ≤ 7) : 0 ≤ volO xs p ∧ volO xs p ≤ 875000 := by
  have h1 := sumV_ok hx (l := outerL p p.length) (fun i hi => by have := outerL_mem hi; omega)
  have h2 := outerL_len (plan := p) (k := p.length)
  unfold volO
  omega
/-! ### A stop behind a loop -/
theorem goL_cut {B : Bs} {ms : List Bool} {a b : Cmd} {id : Nat} {st : List Frm} {σ : List PV} {H : Boxes} (Q : KV) (h1 : goL B ms a (.bl id :: .lp Q :: st) σ H) (h2 : ∀ σ H, Q σ H → goC B b st σ H) : goL B ms a (.bl id :: .s b :: st) σ H := by
  have := goC_cut (B := B) (st := st) (σ := σ) (H := H) (a := .block id (.loop ms a)) (b := b) Q (by simpa using h1) h2
  simpa using this
/-! ### The best nesting -/
structure Bst where
  b : PV
  l : Int
  m : Nat
def stepB (e : Nat) (sc : List Int → Int) (s : Bst) (p : List Int) : Bst := if s.m = 0 ∨ sc p < s.l then ⟨pR e p, sc p, 1⟩ else if sc p = s.l then ⟨s.b, s.l, s.m + 1⟩ else s
def foldB (e : Nat) (sc : List Int → Int) (s : Bst) (ps : List (List Int)) : Bst := ps.foldl (stepB e sc) s
theorem foldB_app {e : Nat} {sc : List Int → Int} {s : Bst} {ps qs : List (List Int)} : foldB e sc s (ps ++ qs) = foldB e sc (foldB e sc s ps) qs := by simp [foldB]
theorem foldB_m {e : Nat} {sc : List Int → Int} : ∀ {ps : List (List Int)} {s : Bst}, (foldB e sc s ps).m ≤ s.m + ps.length
  | [], s => by simp [foldB]
  | p :: ps, s => by
    have h := foldB_m (e := e) (sc := sc) (ps := ps) (s := stepB e sc s p)
    have h1 : (stepB e sc s p).m ≤ s.m + 1 := by
      unfold stepB
      split
      · simp
      · split <;> simp
    show (foldB e sc (stepB e sc s p) ps).m ≤ _
    simp; omega
theorem foldB_sl {e : Nat} {sc : List Int → Int} : ∀ {ps : List (List Int)} {s : Bst}, (∃ ns, Sl e I s.b ns ∧ ns.length ≤ 7) → (∀ p ∈ ps, p.length ≤ 7) → ∃ ns, Sl e I (foldB e sc s ps).b ns ∧ ns.length ≤ 7
  | [], s, h, _ => h
  | p :: ps, s, h, hp => by
    refine foldB_sl (ps := ps) (s := stepB e sc s p) ?_ fun q hq => hp q (by simp [hq])
    have h0 := hp p (by simp)
    unfold stepB
    split
    · exact ⟨p, pR_Sl (by omega), h0⟩
    · split <;> exact h
def st3 (H : Boxes) (rm rl rb : Nat) (s : Bst) : Boxes := ((H.set rb (.own, [s.b])).set rl (.own, [I s.l])).set rm (.own, [I s.m])
def boxB (b : B3) : CK × List PV := (.own, [I b.a, I b.b, I b.c])
theorem mergeH_eq {lim : Nat} {H H' : Boxes} (hl : H'.length = H.length) (h : ∀ r b, H[r]? = some b → H'[r]? = some b ∨ keepB lim r b.1 = false ∧ ∃ l, H'[r]? = some (b.1, l)) : mergeH lim H H' = H' := by
  apply List.ext_getElem?
  intro r
  rw [mergeH_get]
  cases hr : H[r]? with
  | none =>
    have : H'[r]? = none := by rw [List.getElem?_eq_none_iff] at hr ⊢; omega
    rw [this]; rfl
  | some b =>
    simp only [Option.map_some]
    rcases h r b hr with h1 | ⟨h1, l, h2⟩
    · rw [h1]
      split
      · rfl
      · simp [List.getD, h1]
    · rw [h1, h2]
      simp [List.getD, h2]
@[simp] theorem st3_len {H : Boxes} {rm rl rb : Nat} {s : Bst} : (st3 H rm rl rb s).length = H.length := by simp [st3]
theorem st3_ne {H : Boxes} {rm rl rb r : Nat} {s : Bst} (h1 : r ≠ rm) (h2 : r ≠ rl) (h3 : r ≠ rb) : (st3 H rm rl rb s)[r]? = H[r]? := by
  unfold st3
  rw [List.getElem?_set_ne (Ne.symm h1), List.getElem?_set_ne (Ne.symm h2), List.getElem?_set_ne (Ne.symm h3)]
theorem st3_m {H : Boxes} {rm rl rb : Nat} {s : Bst} (h : rm < H.length) : (st3 H rm rl rb s)[rm]? = some (.own, [I s.m]) := by
  unfold st3
  exact List.getElem?_set_self (by simpa using h)
theorem st3_l {H : Boxes} {rm rl rb : Nat} {s : Bst} (h : rl < H.length) (hm : rm ≠ rl) : (st3 H rm rl rb s)[rl]? = some (.own, [I s.l]) := by
  unfold st3
  rw [List.getElem?_set_ne hm]
  exact List.getElem?_set_self (by simpa using h)
theorem st3_b {H : Boxes} {rm rl rb : Nat} {s : Bst} (h : rb < H.length) (hm : rm ≠ rb) (hl : rl ≠ rb) : (st3 H rm rl rb s)[rb]? = some (.own, [s.b]) := by
  unfold st3
  rw [List.getElem?_set_ne hm, List.getElem?_set_ne hl]
  exact List.getElem?_set_self (by simpa using h)
theorem st3_app {H T : Boxes} {rm rl rb : Nat} {s : Bst} (h1 : rm < H.length) (h2 : rl < H.length) (h3 : rb < H.length) : st3 (H ++ T) rm rl rb s = st3 H rm rl rb s ++ T := by
  unfold st3
  rw [List.set_append_left _ _ h3, List.set_append_left _ _ (by simpa using h2), List.set_append_left _ _ (by simpa using h1)]
theorem st3_st3 {H : Boxes} {rm rl rb : Nat} {s t : Bst} (hl : rm ≠ rl) (hb : rm ≠ rb) (hlb : rl ≠ rb) : st3 (st3 H rm rl rb s) rm rl rb t = st3 H rm rl rb t := by
  unfold st3
  apply List.ext_getElem?
  intro i
  simp only [List.getElem?_set, List.length_set]
  by_cases h1 : rb = i <;> by_cases h2 : rl = i <;> by_cases h3 : rm = i <;> simp_all
theorem st3_same {H : Boxes} {rm rl rb : Nat} {s : Bst} (h1 : H[rm]? = some (.own, [I s.m])) (h2 : H[rl]? = some (.own, [I s.l])) (h3 : H[rb]? = some (.own, [s.b])) : st3 H rm rl rb s = H := by
  unfold st3
  rw [set_same h3, set_same h2, set_same h1]
theorem st3_more {H : Boxes} {rm rl rb : Nat} {s : Bst} {k : Nat} (h2 : H[rl]? = some (.own, [I s.l])) (h3 : H[rb]? = some (.own, [s.b])) : st3 H rm rl rb ⟨s.b, s.l, k⟩ = H.set rm (.own, [I k]) := by
  unfold st3
  rw [set_same h3, set_same h2]
theorem st3_merge {lim : Nat} {H : Boxes} {rm rl rb : Nat} {s t : Bst} (h1 : H[rm]? = some (.own, [I s.m])) (h2 : H[rl]? = some (.own, [I s.l])) (h3 : H[rb]? = some (.own, [s.b])) (l1 : lim ≤ rm) (l2 : lim ≤ rl) (l3 : lim ≤ rb) (hl : rm ≠ rl) (hb : rm ≠ rb) (hlb : rl ≠ rb) : mergeH lim H (st3 H rm rl rb t) = st3 H rm rl rb t := by
  refine mergeH_eq (by simp) fun r b hr => ?_
  by_cases e1 : r = rm
  · subst e1
    rw [h1] at hr; cases hr
    exact .inr ⟨keepB_own l1, _, st3_m (H_lt h1)⟩
  · by_cases e2 : r = rl
    · subst e2
      rw [h2] at hr; cases hr
      exact .inr ⟨keepB_own l2, _, st3_l (H_lt h2) hl⟩
    · by_cases e3 : r = rb
      · subst e3
        rw [h3] at hr; cases hr
        exact .inr ⟨keepB_own l3, _, st3_b (H_lt h3) hb hlb⟩
      · exact .inl (by rw [st3_ne e1 e2 e3]; exact hr)
theorem ne_own {H : Boxes} {lim r q : Nat} {ck : CK} {a b : List PV} (h1 : H[r]? = some (ck, a)) (h2 : H[q]? = some (.own, b)) (hl : lim ≤ q) (hv : viewV lim r ck = .sh) : r ≠ q := by
  rintro rfl
  rw [h1] at h2
  cases h2
  rw [viewV_own hl] at hv
  cases hv
theorem ne_fn {H : Boxes} {r q : Nat} {a b : List PV} (h1 : H[r]? = some (.fn, a)) (h2 : H[q]? = some (.own, b)) : r ≠ q := by
  rintro rfl
  rw [h1] at h2
  cases h2
/-! ### The least volume -/
def stepS (sc : List Int → Int) (l : Int) (p : List Int) : Int := if l < 0 ∨ sc p < l then sc p else l
theorem step_same {e : Nat} {sc : List Int → Int} : ∀ {ps : List (List Int)} {s : Bst} {l : Int}, (∀ p ∈ ps, 0 ≤ sc p) → (s.m = 0 ∧ l = -1 ∨ 0 < s.m ∧ s.l = l ∧ 0 ≤ l) → let r := foldB e sc s ps; (r.m = 0 ∧ ps.foldl (stepS sc) l = -1 ∧ ps = [] ∨ 0 < r.m ∧ r.l = ps.foldl (stepS sc) l ∧ 0 ≤ ps.foldl (stepS sc) l)
  | [], s, l, _, h => by
    simp only [foldB, List.foldl_nil]
    rcases h with h | h
    · exact .inl ⟨h.1, h.2, by simp⟩
    · exact .inr h
  | p :: ps, s, l, hp, h => by
    have h0 := hp p (by simp)
    have hn : 0 < (stepB e sc s p).m ∧ (stepB e sc s p).l = stepS sc l p ∧ 0 ≤ stepS sc l p := by
      unfold stepB stepS
      rcases h with ⟨h1, h2⟩ | ⟨h1, h2, h3⟩
      · subst h2
        simp [h1, h0]
      · have hm : ¬ s.m = 0 := by omega
        have hl : ¬ l < 0 := by omega
        by_cases hlt : sc p < l
        · simp [hm, hl, h2, hlt, h0]
        · by_cases he : sc p = l
          · simp [hm, hl, h2, hlt, he]; omega
          · simp [hm, hl, h2, hlt, he]; omega
    have := step_same (e := e) (sc := sc) (ps := ps) (s := stepB e sc s p) (l := stepS sc l p) (fun q hq => hp q (by simp [hq])) (.inr hn)
    simp only [foldB, List.foldl_cons] at this ⊢
    rcases this with ⟨a, b, c⟩ | h
    · subst c
      simp at a
      omega
    · exact .inr h
/-- The least volume of the outer boxes of a nesting. -/
def leastV (xs : List B3) : Int := (nestsL xs xs.length []).foldl (stepS (volO xs)) (-1)
theorem least_same {e : Nat} {xs : List B3} (hx : ∀ b ∈ xs, okB b = true) (h7 : xs.length ≤ 7) {b : PV} : (foldB e (volO xs) ⟨b, 0, 0⟩ (nestsL xs xs.length [])).l = leastV xs := by
  have := step_same (e := e) (sc := volO xs) (ps := nestsL xs xs.length []) (s := ⟨b, 0, 0⟩) (l := -1) (fun p hp => (volO_ok hx (by have := nestsL_mem hp; simp at this; omega) h7).1) (.inl ⟨rfl, rfl⟩)
  rcases this with ⟨_, _, h⟩ | ⟨_, h, _⟩
  · exact absurd h nestsL_ne
  · exact h
end Go.Den
set_option autoImplicit false
set_option linter.unusedVariables false
set_option linter.unusedSimpArgs false
set_option linter.unnecessarySimpa false
namespace Go.Proofs.Ytnkjbncagnfnoaa
open Go.Den
/- spec.nePlans -/
def Rr73 (n : Nat) : Rel := fun _ vs _ rs _ => ∃ m : Nat, ∃ v xs w p, vs = [v, w] ∧ Sl 26 pB v xs ∧ Sl 3 I w p ∧ xs.length ≤ 7 ∧ p.length + m = xs.length ∧ m < n ∧ rs = [addV 30 3 .nil [] (nestsL xs m p)]
def R73 : Rel := fun lim vs H rs H' => ∃ n, Rr73 n lim vs H rs H'
set_option maxHeartbeats 4000000 in
theorem vr73 (n : Nat) : SpecR Try.prog 73 sg73 (Rr73 n) := by
  induction n with
  | zero => exact specNone (fn := Try.f73) (by kernel_rfl) (by kernel_rfl) (by kernel_rfl) (by rintro lim vs H rs H' ⟨m, v, xs, w, p, _, _, _, _, _, h, _⟩; omega)
  | succ n ih =>
    refine fnZ 36 (by kernel_rfl) (fn := Try.f73) (by kernel_rfl) (by kernel_rfl) (k73 R85 R94 (Rr73 n)) (by kernel_rfl) ⟨v85, v94, ih, trivial⟩ ?_
    rintro lim vs H rs H' ⟨m, v, xs, w, p, rfl, hv, hw, h7, hpm, hmn, rfl⟩ - - -
    cases m with
    | zero =>
      have hpe : (p.length : Int) = xs.length := by omega
      simp [c73, l73, List.replicate, hv.len, hw.len, hpe]
      refine goCall_pure rfl ⟨w, p, rfl, hw, by omega, rfl⟩ (by simp) ?_
      simp [addV, nestsL, pR]
    | succ m =>
      have hne : ¬ (p.length : Int) = xs.length := by omega
      have hlen := nestsL_len (xs := xs) h7 hpm
      have hpb := nests_bound (xs := xs) (m := m + 1) h7 (by omega)
      have h0 : Sl 30 (pR 3) .nil [] := ⟨.inr ⟨rfl, rfl⟩, by simp⟩
      simp [c73, l73, List.replicate, hv.len, hw.len, hne]
      refine goL_intro (fun k σ H'' => ∃ s : Nat, s ≤ xs.length + 1 ∧ k = xs.length + 1 - s ∧ Gar 38 [(0, v), (1, w), (5, I p.length), (6, addV 30 3 .nil [] (nestsP xs m p s)), (7, I (intoAt s))] σ) (xs.length + 1) ⟨0, by omega, by omega, .intro (by simp) (by simp [intoAt, nestsP_zero, addV_nil])⟩ ?_
      rintro k σ H'' ⟨s, hs, rfl, us, rfl⟩
      have hle := nestsP_le (xs := xs) (m := m) (p := p) (s := s) (t := xs.length + 1) hs
      rw [nestsL_succ] at hlen
      have hS := addV_sl h0 (l := nestsP xs m p s) (by simp; omega)
      simp [gar, List.range, List.range.loop, hv.len]
      refine ⟨fun hlt => ?_, fun hge => ?_⟩
      · have hs1 : s < xs.length + 1 := by unfold intoAt at hlt; omega
        have hwi : IntKind.i64.wrap (intoAt s + 1) = intoAt (s + 1) := by rw [wrap_id (by unfold intoAt; omega) (by unfold intoAt; omega)]; unfold intoAt; omega
        have hle2 := nestsP_le (xs := xs) (m := m) (p := p) (s := s + 1) (t := xs.length + 1) (by omega)
        have hps := nestsP_succ (xs := xs) (m := m) (p := p) (s := s)
        refine goCall_pure rfl ⟨v, xs, w, p, p.length, intoAt s, rfl, hv, hw, by omega, hlt, rfl⟩ (by simp) ?_
        cases hf : freeN xs p p.length (intoAt s)
        · rw [hf] at hps
          simp at hps
          simp [hwi]
          exact ⟨xs.length + 1 - (s + 1), by omega, s + 1, by omega, rfl, .intro (by simp) (by simp [hps])⟩
        · rw [hf, if_pos rfl] at hps
          simp
          refine goCall_pure rfl ⟨w, p, rfl, hw, by omega, rfl⟩ (by simp) ?_
          have hap : appV 3 8 true (.sl 3 (p.map I)) (.sl 3 [I (intoAt s)]) = some (.sl 3 ((p ++ [intoAt s]).map I)) := Sl.app0 (⟨.inl rfl, by simp⟩ : Sl 3 I (.sl 3 [I (intoAt s)]) [intoAt s]) (by simp; omega)
          simp [hap]
          refine goCall_pure rfl ⟨m, v, xs, .sl 3 ((p ++ [intoAt s]).map I), p ++ [intoAt s], by simp, hv, ⟨.inl rfl, by simp; omega⟩, h7, by simp; omega, by omega, rfl⟩ (by simp) ?_
          have hsub := nestsL_len (xs := xs) (m := m) (p := p ++ [intoAt s]) h7 (by simp; omega)
          rw [hps, List.length_append] at hle2
          have happ : appV 30 24 false (addV 30 3 .nil [] (nestsP xs m p s)) (addV 30 3 .nil [] (nestsL xs m (p ++ [intoAt s]))) = some (addV 30 3 .nil [] (nestsP xs m p (s + 1))) := by
            rw [hps]; exact appR_all (by omega)
          have hS2 := addV_sl h0 (l := nestsP xs m p (s + 1)) (by rw [hps]; simp; omega)
          have hS3 := addV_sl h0 (l := nestsL xs m (p ++ [intoAt s])) (by simp; omega)
          simp [happ, hS.undef, hS2.undef, hS3.undef, hwi]
          exact ⟨xs.length + 1 - (s + 1), by omega, s + 1, by omega, rfl, .intro (by simp) (by simp)⟩
      · obtain rfl : s = xs.length + 1 := by unfold intoAt at hge; omega
        rw [nestsL_succ]
        simp [hS.undef, hS.cells]
theorem v73 : SpecR Try.prog 73 sg73 R73 := specEx vr73
/- spec.neVolume -/
def R74 : Rel := fun _ vs _ rs _ => ∃ x, vs = [pB x] ∧ okB x = true ∧ rs = [I (vol x)]
theorem v74 : SpecR Try.prog 74 sg74 R74 := by
  refine fnZ 10 (by kernel_rfl) (fn := Try.f74) (by kernel_rfl) (by kernel_rfl) k74 (by kernel_rfl) trivial ?_
  rintro lim vs H rs H' ⟨⟨a, b, c⟩, rfl, hx, rfl⟩ - - -
  obtain ⟨h1, h2, h3, h4⟩ := vol_ok hx
  simp only [vol] at h1 h2 h3 h4
  have w1 : IntKind.i64.wrap (a * b) = a * b := wrap_id (by omega) (by omega)
  have w2 : IntKind.i64.wrap (a * b * c) = a * b * c := wrap_id (by omega) (by omega)
  simp [c74, List.replicate, pB, w1, w2, vol]
/- (impl.Box).volume -/
def R78 : Rel := fun _ vs _ rs _ => ∃ x, vs = [pB x] ∧ okB x = true ∧ rs = [I (vol x)]
theorem v78 : SpecR Try.prog 78 sg78 R78 := by
  refine fnZ 10 (by kernel_rfl) (fn := Try.f78) (by kernel_rfl) (by kernel_rfl) k78 (by kernel_rfl) trivial ?_
  rintro lim vs H rs H' ⟨⟨a, b, c⟩, rfl, hx, rfl⟩ - - -
  obtain ⟨h1, h2, h3, h4⟩ := vol_ok hx
  simp only [vol] at h1 h2 h3 h4
  have w1 : IntKind.i64.wrap (a * b) = a * b := wrap_id (by omega) (by omega)
  have w2 : IntKind.i64.wrap (a * b * c) = a * b * c := wrap_id (by omega) (by omega)
  simp [c78, List.replicate, pB, w1, w2, vol]
/- spec.LeastOuterVolume -/
def R42 : Rel := fun _ vs _ rs _ => ∃ v xs, vs = [v] ∧ Sl 26 pB v xs ∧ rs = [I (if okBs xs then leastV xs else 0), .bool (okBs xs)]
set_option maxHeartbeats 4000000 in
theorem v42 : SpecR Try.prog 42 sg42 R42 := by
  refine fnZ 44 (by kernel_rfl) (fn := Try.f42) (by kernel_rfl) (by kernel_rfl) (k42 R58 R73 R72 R74) (by kernel_rfl) ⟨v58, v73, v72, v74, trivial⟩ ?_
  rintro lim vs H rs H' ⟨v, xs, rfl, hv, rfl⟩ - - -
  simp [c42, l42, List.replicate]
  refine goCall_pure rfl ⟨v, xs, rfl, hv, rfl⟩ (by simp) ?_
  cases h : okBs xs
  · simp
  · obtain ⟨h1, h2, h3⟩ := okBs_spec h
    have h0 : Sl 30 (pR 3) .nil [] := ⟨.inr ⟨rfl, rfl⟩, by simp⟩
    obtain ⟨L, hL⟩ : ∃ L, L = nestsL xs xs.length [] := ⟨_, rfl⟩
    have hLl : L.length ≤ 823543 := by
      have a := nestsL_len (xs := xs) h2 (m := xs.length) (p := []) (by simp)
      have b := nests_bound (xs := xs) (m := xs.length) h2 (by omega)
      rw [hL]; omega
    have hLm : ∀ q ∈ L, q.length = xs.length := fun q hq => by rw [hL] at hq; have := nestsL_mem hq; simpa using this
    have hS := addV_sl h0 (l := L) (by simp; omega)
    simp only [List.nil_append] at hS
    obtain ⟨W, hW⟩ : ∃ W, W = addV 30 3 .nil [] L := ⟨_, rfl⟩
    rw [← hW] at hS
    simp
    refine goCall_pure rfl ⟨_, xs.length, v, xs, .nil, [], rfl, hv, ⟨.inr ⟨rfl, rfl⟩, by simp⟩, h2, by simp, Nat.lt_succ_self _, rfl⟩ (by simp) ?_
    rw [← hL, ← hW]
    simp [hS.len, hS.undef]
    refine goL_intro (fun m σ H'' => ∃ i : Nat, i ≤ L.length ∧ m = L.length - i ∧ Gar 45 [(0, v), (4, I ((L.take i).foldl (stepS (volO xs)) (-1))), (14, W), (15, I L.length), (16, I i)] σ) L.length ⟨0, by omega, by omega, .intro (by simp) (by simp)⟩ ?_
    rintro m σ H'' ⟨i, hi', rfl, us, rfl⟩
    simp [gar, List.range, List.range.loop]
    refine ⟨fun hlt => ?_, fun hge => ?_⟩
    · have hwi : IntKind.i64.wrap ((i : Int) + 1) = (i : Int) + 1 := wrap_id (by omega) (by omega)
      obtain ⟨q, hq⟩ : ∃ q, q = L[i] := ⟨_, rfl⟩
      have hql : q.length = xs.length := hLm q (by rw [hq]; exact List.getElem_mem hlt)
      obtain ⟨l, hl⟩ : ∃ l, l = (L.take i).foldl (stepS (volO xs)) (-1) := ⟨_, rfl⟩
      have hln : (L.take (i + 1)).foldl (stepS (volO xs)) (-1) = stepS (volO xs) l q := by
        rw [List.take_succ_eq_append_getElem hlt, List.foldl_append, ← hl, ← hq]; rfl
      have hpq : Sl 3 I (pR 3 q) q := pR_Sl (by omega)
      have hpu : (pR 3 q).isUndef = false := rfl
      simp [hS.iadd hlt, hS.elem hlt, ← hq, ← hl]
      refine goCall_pure rfl ⟨_, q, rfl, hpq, by omega, rfl⟩ (by simp) ?_
      obtain ⟨o, ho⟩ : ∃ o, o = outerL q q.length := ⟨_, rfl⟩
      have hom : ∀ j ∈ o, 0 ≤ j ∧ j.toNat < xs.length := fun j hj => by rw [ho] at hj; have := outerL_mem hj; omega
      have hol : o.length ≤ 7 := by have := outerL_len (plan := q) (k := q.length); rw [ho]; omega
      have hvo : volO xs q = sumV xs o := by rw [ho]; rfl
      rw [← ho]
      have hO := rowI_sl (e := 3) (l := o) (by omega)
      simp [hO.len, hO.undef]
      refine goL_cut (fun σ H'' => Gar 45 [(0, v), (4, I l), (7, I (volO xs q)), (14, W), (15, I L.length), (16, I i)] σ) ?_ ?_
      · refine goL_intro (fun m σ H'' => ∃ k : Nat, k ≤ o.length ∧ m = o.length - k ∧ Gar 45 [(0, v), (4, I l), (7, I (sumV xs (o.take k))), (14, W), (15, I L.length), (16, I i), (21, rowI 3 o), (22, I o.length), (23, I k)] σ) o.length ⟨0, by omega, by omega, .intro (by simp) (by simp [sumV])⟩ ?_
        rintro m σ H'' ⟨k, hk', rfl, us, rfl⟩
        simp [gar, List.range, List.range.loop]
        refine ⟨fun hlk => ?_, fun hgk => ?_⟩
        · have hwk : IntKind.i64.wrap ((k : Int) + 1) = (k : Int) + 1 := wrap_id (by omega) (by omega)
          obtain ⟨j, hj⟩ : ∃ j, j = o[k] := ⟨_, rfl⟩
          have hjm := hom j (by rw [hj]; exact List.getElem_mem hlk)
          have e3 : ((j.toNat : Nat) : Int) = j := by omega
          have hia : iaddV 26 v (I j) = some (.eix j.toNat 0) := by rw [← e3]; exact hv.iadd hjm.2
          have hok := h3 _ (List.getElem_mem hjm.2)
          have hvk := vol_ok hok
          have hs1 := sumV_ok h3 (l := o.take k) (fun i hi => (hom i (List.mem_of_mem_take hi)).2)
          have hs2 : (o.take k).length ≤ 7 := by simp; omega
          have hsn : sumV xs (o.take (k + 1)) = sumV xs (o.take k) + vol xs[j.toNat] := by
            rw [List.take_succ_eq_append_getElem hlk, sumV_app, ← hj]
            simp [sumV, hjm.2]
          simp [hO.iadd hlk, hO.elem hlk, ← hj, hia, hv.elem hjm.2]
          refine goCall_pure rfl ⟨xs[j.toNat], rfl, hok, rfl⟩ (by simp) ?_
          have hws : IntKind.i64.wrap (sumV xs (o.take k) + vol xs[j.toNat]) = sumV xs (o.take (k + 1)) := by
            rw [hsn]; exact wrap_id (by omega) (by omega)
          simp [hws, hwk]
          exact ⟨o.length - (k + 1), by omega, k + 1, by omega, rfl, .intro (by simp) (by simp)⟩
        · obtain rfl : k = o.length := by omega
          rw [List.take_length, ← hvo]
          exact .intro (by simp) (by simp)
      · rintro σ H'' ⟨us, rfl⟩
        have fin : Gar 45 [(0, v), (4, I (stepS (volO xs) l q)), (14, W), (15, I L.length), (16, I ((i : Int) + 1))] = Gar 45 [(0, v), (4, I ((L.take (i + 1)).foldl (stepS (volO xs)) (-1))), (14, W), (15, I L.length), (16, I ((i + 1 : Nat) : Int))] := by rw [hln]; rfl
        by_cases hl0 : l < 0
        · have hb1 : binV .lss (I l) (I 0) = some (.bool true) := by simp [hl0]
          simp [-bin_lss, gar, List.range, List.range.loop, hb1, hwi]
          refine ⟨L.length - (i + 1), by omega, i + 1, by omega, rfl, ?_⟩
          rw [← fin]
          exact .intro (by simp) (by simp [stepS, hl0])
        · have hb1 : binV .lss (I l) (I 0) = some (.bool false) := by simp [hl0]
          by_cases hlq : volO xs q < l
          · have hb2 : binV .lss (I (volO xs q)) (I l) = some (.bool true) := by simp [hlq]
            simp [-bin_lss, gar, List.range, List.range.loop, hb1, hb2, hwi]
            refine ⟨L.length - (i + 1), by omega, i + 1, by omega, rfl, ?_⟩
            rw [← fin]
            exact .intro (by simp) (by simp [stepS, hl0, hlq])
          · have hb2 : binV .lss (I (volO xs q)) (I l) = some (.bool false) := by simp [hlq]
            simp [-bin_lss, gar, List.range, List.range.loop, hb1, hb2, hwi]
            refine ⟨L.length - (i + 1), by omega, i + 1, by omega, rfl, ?_⟩
            rw [← fin]
            exact .intro (by simp) (by simp [stepS, hl0, hlq])
    · obtain rfl : i = L.length := by omega
      rw [List.take_length]
      have : leastV xs = L.foldl (stepS (volO xs)) (-1) := by rw [hL]; rfl
      simp [this]
end Go.Proofs.Ytnkjbncagnfnoaa
set_option autoImplicit false
set_option linter.unusedVariables false
set_option linter.unusedSimpArgs false
set_option linter.unnecessarySimpa false
namespace Go.Proofs.Ytnkjbncagnfnoaa
open Go.Den
/- impl.LeastOuterVolume$1 -/
def R76 : Rel := fun lim vs H rs _ => ∃ w p r ck v xs, vs = [w, .ref r 0] ∧ Sl 3 I w p ∧ H[r]? = some (ck, [v]) ∧ Sl 26 pB v xs ∧ okBs xs = true ∧ p.length ≤ xs.length ∧ rs = [I (volO xs p)]
set_option maxHeartbeats 4000000 in
theorem v76 : SpecR Try.prog 76 sg76 R76 := by
  refine fnZ 21 (by kernel_rfl) (fn := Try.f76) (by kernel_rfl) (by kernel_rfl) (k76 R77 R78) (by kernel_rfl) ⟨v77, v78, trivial⟩ ?_
  rintro lim vs H rs H' ⟨w, p, r, ck, v, xs, rfl, hw, hr, hv, hok, hpl, rfl⟩ - - -
  obtain ⟨h1, h2, h3⟩ := okBs_spec hok
  simp [c76, l76, List.replicate]
  refine goCall_pure rfl ⟨w, p, rfl, hw, by omega, rfl⟩ (by simp) ?_
  obtain ⟨o, ho⟩ : ∃ o, o = outerL p p.length := ⟨_, rfl⟩
  have hom : ∀ j ∈ o, 0 ≤ j ∧ j.toNat < xs.length := fun j hj => by rw [ho] at hj; have := outerL_mem hj; omega
  have hol : o.length ≤ 7 := by have := outerL_len (plan := p) (k := p.length); rw [ho]; omega
  have hvo : volO xs p = sumV xs o := by rw [ho]; rfl
  rw [← ho]
  have hO : Sl 3 I (pR 3 o) o := pR_Sl (by omega)
  simp [hO.len]
  refine goL_intro (fun m σ H'' => ∃ k : Nat, k ≤ o.length ∧ m = o.length - k ∧ Gar 23 [(1, .ref r 0), (4, I (sumV xs (o.take k))), (8, pR 3 o), (9, I o.length), (10, I k)] σ ∧ H'' = H) o.length ⟨0, by omega, by omega, .intro (by simp) (by simp [sumV]), rfl⟩ ?_
  rintro m σ H'' ⟨k, hk', rfl, ⟨us, rfl⟩, rfl⟩
  simp [gar, List.range, List.range.loop]
  refine ⟨fun hlk => ?_, fun hgk => ?_⟩
  · have hwk : IntKind.i64.wrap ((k : Int) + 1) = (k : Int) + 1 := wrap_id (by omega) (by omega)
    obtain ⟨j, hj⟩ : ∃ j, j = o[k] := ⟨_, rfl⟩
    have hjm := hom j (by rw [hj]; exact List.getElem_mem hlk)
    have e3 : ((j.toNat : Nat) : Int) = j := by omega
    have hia : iaddV 26 v (I j) = some (.eix j.toNat 0) := by rw [← e3]; exact hv.iadd hjm.2
    have hokj := h3 _ (List.getElem_mem hjm.2)
    have hvk := vol_ok hokj
    have hs1 := sumV_ok h3 (l := o.take k) (fun i hi => (hom i (List.mem_of_mem_take hi)).2)
    have hs2 : (o.take k).length ≤ 7 := by simp; omega
    have hsn : sumV xs (o.take (k + 1)) = sumV xs (o.take k) + vol xs[j.toNat] := by
      rw [List.take_succ_eq_append_getElem hlk, sumV_app, ← hj]
      simp [sumV, hjm.2]
    simp [hO.iadd hlk, hO.elem hlk, ← hj, hr, hv.undef, hv.cells, hia, hv.elem hjm.2]
    refine goCall_pure rfl ⟨xs[j.toNat], rfl, hokj, rfl⟩ (by simp) ?_
    have hws : IntKind.i64.wrap (sumV xs (o.take k) + vol xs[j.toNat]) = sumV xs (o.take (k + 1)) := by
      rw [hsn]; exact wrap_id (by omega) (by omega)
    simp [hws, hwk]
    exact ⟨o.length - (k + 1), by omega, k + 1, by omega, rfl, .intro (by simp) (by simp)⟩
  · obtain rfl : k = o.length := by omega
    simp [hvo]
/- impl.bestNesting$1%volume -/
def Rr99a (n : Nat) : Rel := fun lim vs H rs H' => ∃ m : Nat, ∃ vp p v xs rx ckx u ry cky rs_ rm rl rb rf s, vs = [vp, .ref rx 0, .ref rs_ 0, .ref rm 0, .ref rl 0, .ref rb 0, .ref rf 0] ∧ Sl 3 I vp p ∧ H[rx]? = some (ckx, [v]) ∧ viewV lim rx ckx = .sh ∧ Sl 26 pB v xs ∧
  H[ry]? = some (cky, [u]) ∧ cky ≠ .fn ∧ viewV lim ry cky = .sh ∧ Sl 26 pB u xs ∧ H[rs_]? = some (.fn, [.fn 76 [.ref ry 0]]) ∧ H[rf]? = some (.fn, [.fn 99 [.ref rx 0, .ref rs_ 0, .ref rm 0, .ref rl 0, .ref rb 0, .ref rf 0]]) ∧
  H[rm]? = some (.own, [I s.m]) ∧ H[rl]? = some (.own, [I s.l]) ∧ H[rb]? = some (.own, [s.b]) ∧ lim ≤ rm ∧ lim ≤ rl ∧ lim ≤ rb ∧ rm ≠ rl ∧ rm ≠ rb ∧ rl ≠ rb ∧ okBs xs = true ∧ p.length + m = xs.length ∧ m < n ∧ s.m + 7 ^ m ≤ 1048576 ∧
  rs = [] ∧ H' = st3 H rm rl rb (foldB 3 (volO xs) s (nestsL xs m p)) ++ (if m = 0 then [] else xs.map boxB)
def R99a : Rel := fun lim vs H rs H' => ∃ n, Rr99a n lim vs H rs H'
set_option maxHeartbeats 8000000 in
theorem vr99a (n : Nat) : SpecR Try.prog 99 sg99 (Rr99a n) := by
  induction n with
  | zero => exact specNone (fn := Try.f99) (by kernel_rfl) (by kernel_rfl) (by kernel_rfl) (by rintro lim vs H rs H' ⟨m, vp, p, v, xs, rx, ckx, u, ry, cky, rs_, rm, rl, rb, rf, s, _, _, _, _, _, _, _, _, _, _, _, _, _, _, _, _, _, _, _, _, _, _, h, _⟩; omega)
  | succ n ih =>
    refine fnZ 63 (by kernel_rfl) (fn := Try.f99) (by kernel_rfl) (by kernel_rfl) (k99a R65 R57 R86 R76 (Rr99a n)) (by kernel_rfl) ⟨v65, v57, v86, v76, ih, trivial⟩ ?_
    rintro lim vs H rs H' ⟨m, vp, p, v, xs, rx, ckx, u, ry, cky, rs_, rm, rl, rb, rf, s, rfl, hvp, hrx, hvx, hv, hry, hcy, hvy, hu, hrs, hrf, hrm, hrl, hrb, lm, ll, lb, nml, nmb, nlb, hok, hpm, hmn, hsm, rfl, rfl⟩ - - -
    obtain ⟨h1, h2, h3⟩ := okBs_spec hok
    have app : ∀ {r : Nat} {b : CK × List PV} (x : CK × List PV), H[r]? = some b → (H ++ [x])[r]? = some b := fun x h => by rw [List.getElem?_append_left (H_lt h)]; exact h
    cases m with
    | zero =>
      have hpe : (p.length : Int) = xs.length := by omega
      have hpn : p ≠ [] := by rintro rfl; simp at hpm; omega
      obtain rfl := hvp.full hpn
      have hvo := volO_ok h3 (p := p) (by omega) h2
      simp [c99a, l99a, List.replicate, hrx, hv.undef, hv.cells, hv.len, hpe, hrs]
      refine goCall_pure rfl ⟨_, p, ry, cky, u, xs, rfl, hvp, hry, hu, hok, by omega, rfl⟩ ⟨by simp, argV_sh hry hcy, trivial⟩ ?_
      have hf1 : foldB 3 (volO xs) s (nestsL xs 0 p) = stepB 3 (volO xs) s p := rfl
      rw [hf1]
      have g1 : ∀ X, (H.set rb X)[rl]? = some (.own, [I s.l]) := fun X => by rw [List.getElem?_set_ne (Ne.symm nlb)]; exact hrl
      have g2 : ∀ X Y, ((H.set rb X).set rl Y)[rm]? = some (.own, [I s.m]) := fun X Y => by rw [List.getElem?_set_ne (Ne.symm nml), List.getElem?_set_ne (Ne.symm nmb)]; exact hrm
      by_cases c1 : s.m = 0
      · have hb1 : binV .eql (I s.m) (I 0) = some (.bool true) := by simp [c1]
        have hst : stepB 3 (volO xs) s p = ⟨pR 3 p, volO xs p, 1⟩ := by simp [stepB, c1]
        rw [hst]
        simp [-bin_eql, hb1, hrm]
        simp [hrb, g1, g2, st3, pR]
      · have hb1 : binV .eql (I s.m) (I 0) = some (.bool false) := by simp [c1]
        by_cases c2 : volO xs p < s.l
        · have hb2 : binV .lss (I (volO xs p)) (I s.l) = some (.bool true) := by simp [c2]
          have hst : stepB 3 (volO xs) s p = ⟨pR 3 p, volO xs p, 1⟩ := by simp [stepB, c2]
          rw [hst]
          simp [-bin_eql, -bin_lss, hb1, hb2, hrm, hrl]
          simp [hrb, g1, g2, st3, pR]
        · have hb2 : binV .lss (I (volO xs p)) (I s.l) = some (.bool false) := by simp [c2]
          by_cases c3 : volO xs p = s.l
          · have hb3 : binV .eql (I (volO xs p)) (I s.l) = some (.bool true) := by simp [c3]
            have hst : stepB 3 (volO xs) s p = ⟨s.b, s.l, s.m + 1⟩ := by simp [stepB, c1, c3]
            have hwm : IntKind.i64.wrap ((s.m : Int) + 1) = (s.m : Int) + 1 := wrap_id (by omega) (by simp at hsm; omega)
            rw [hst, st3_more hrl hrb]
            simp [-bin_eql, -bin_lss, hb1, hb2, hb3, hrm, hrl, hwm]
          · have hb3 : binV .eql (I (volO xs p)) (I s.l) = some (.bool false) := by simp [c3]
            have hst : stepB 3 (volO xs) s p = s := by simp [stepB, c1, c2, c3]
            rw [hst, st3_same hrm hrl hrb]
            simp [-bin_eql, -bin_lss, hb1, hb2, hb3, hrm, hrl]
    | succ m =>
      have hne : ¬ (p.length : Int) = xs.length := by omega
      have hlen := nestsL_len (xs := xs) h2 hpm
      rw [nestsL_succ] at hlen
      have hpw : 7 ^ (m + 1) = 7 ^ m * 7 := Nat.pow_succ ..
      -- a plan more
      have call : ∀ (j : Nat), j < xs.length + 1 → freeN xs p p.length (intoAt j) = true → nestsP xs m p (j + 1) = nestsP xs m p j ++ nestsL xs m (p ++ [intoAt j]) := fun j _ hf => by rw [nestsP_succ, hf, if_pos rfl]
      have hcount : ∀ (j : Nat), j < xs.length + 1 → freeN xs p p.length (intoAt j) = true → (foldB 3 (volO xs) s (nestsP xs m p j)).m + 7 ^ m ≤ 1048576 := fun j hj hf => by
        have a := nestsP_room h2 hpm hj hf
        have b := foldB_m (e := 3) (sc := volO xs) (ps := nestsP xs m p j) (s := s)
        omega
      have hap : ∀ k : Int, appV 3 8 true vp (.sl 3 [I k]) = some (.sl 3 ((p ++ [k]).map I)) := fun k => hvp.app1 (⟨.inl rfl, by simp⟩ : Sl 3 I (.sl 3 [I k]) [k]) (by simp) (by simp; omega)
      have hsl : ∀ k : Int, Sl 3 I (.sl 3 ((p ++ [k]).map I)) (p ++ [k]) := fun k => ⟨.inl rfl, by simp; omega⟩
      simp [c99a, l99a, List.replicate, hrx, hv.undef, hv.cells, hv.len, hvp.len, hne, hrf]
      refine goCall_pure rfl ⟨vp, p, rfl, hvp, by omega, rfl⟩ (by simp) ?_
      simp [hap, hvp.undef]
      have hp1 : nestsP xs m p 1 = nestsL xs m (p ++ [-1]) := by
        have := call 0 (by omega) free_out
        simpa [nestsP_zero, intoAt] using this
      have hc0 := hcount 0 (by omega) free_out
      simp only [nestsP_zero] at hc0
      have hc0' : s.m + 7 ^ m ≤ 1048576 := hc0
      have nxm := ne_own hrx hrm lm hvx
      have nxl := ne_own hrx hrl ll hvx
      have nxb := ne_own hrx hrb lb hvx
      have nym := ne_own hry hrm lm hvy
      have nyl := ne_own hry hrl ll hvy
      have nyb := ne_own hry hrb lb hvy
      have nsm := ne_fn hrs hrm
      have nsl := ne_fn hrs hrl
      have nsb := ne_fn hrs hrb
      have nfm := ne_fn hrf hrm
      have nfl := ne_fn hrf hrl
      have nfb := ne_fn hrf hrb
      refine goCall_imp rfl ⟨m, .sl 3 ((p ++ [-1]).map I), p ++ [-1], v, xs, rx, ckx, u, ry, cky, rs_, rm, rl, rb, rf, s, by simp, hsl (-1), hrx, hvx, hv, hry, hcy, hvy, hu, hrs, hrf, hrm, hrl, hrb, lm, ll, lb, nml, nmb, nlb, hok, by simp; omega, by omega, hc0', rfl, rfl⟩ ?_ ?_
      · refine ⟨by simp, ?_, ?_, ?_, ?_, ?_, ?_, trivial⟩
        · simp only [argV, hrx]; exact hvx
        · simp only [argV, hrs]; exact viewV_fn
        · simp only [argV, hrm]; exact viewV_own lm
        · simp only [argV, hrl]; exact viewV_own ll
        · simp only [argV, hrb]; exact viewV_own lb
        · simp only [argV, hrf]; exact viewV_fn
      rw [mergeH_tail (by simp), st3_merge hrm hrl hrb lm ll lb nml nmb nlb, ← hp1]
      have gx0 : ∀ t, (st3 H rm rl rb t)[rx]? = some (ckx, [v]) := fun t => by rw [st3_ne nxm nxl nxb]; exact hrx
      simp [gx0, hv.undef, hv.cells, hv.len]
      refine goL_intro (fun k' σ H'' => ∃ k : Nat, k ≤ xs.length ∧ k' = xs.length - k ∧ H'' = st3 H rm rl rb (foldB 3 (volO xs) s (nestsP xs m p (k + 1))) ++ (xs.map boxB).take k ∧ Gar 70 [(0, vp), (1, .ref rx 0), (6, .ref rf 0), (8, I p.length), (43, v), (44, I xs.length), (45, I k)] σ) xs.length ⟨0, by omega, by omega, by simp, .intro (by simp) (by simp)⟩ ?_
      rintro k' σ H'' ⟨k, hk, rfl, rfl, us, rfl⟩
      obtain ⟨t, ht⟩ : ∃ t, t = foldB 3 (volO xs) s (nestsP xs m p (k + 1)) := ⟨_, rfl⟩
      obtain ⟨T, hT⟩ : ∃ T, T = (xs.map boxB).take k := ⟨_, rfl⟩
      obtain ⟨K, hK⟩ : ∃ K, K = st3 H rm rl rb t ++ T := ⟨_, rfl⟩
      rw [← ht, ← hT, ← hK]
      have kg : ∀ {r : Nat} {b : CK × List PV}, (st3 H rm rl rb t)[r]? = some b → K[r]? = some b := fun h => by rw [hK, List.getElem?_append_left (H_lt h)]; exact h
      have ka : ∀ {r : Nat} {b : CK × List PV} (z : CK × List PV), K[r]? = some b → (K ++ [z])[r]? = some b := fun z h => by rw [List.getElem?_append_left (H_lt h)]; exact h
      have kx := kg (gx0 t)
      have kxa := fun z => ka z kx
      have kya := fun z => ka z (kg (by rw [st3_ne nym nyl nyb]; exact hry))
      have ksa := fun z => ka z (kg (by rw [st3_ne nsm nsl nsb]; exact hrs))
      have kfa := fun z => ka z (kg (by rw [st3_ne nfm nfl nfb]; exact hrf))
      have kma := fun z => ka z (kg (st3_m (rl := rl) (rb := rb) (s := t) (H_lt hrm)))
      have kla := fun z => ka z (kg (st3_l (rb := rb) (s := t) (H_lt hrl) nml))
      have kba := fun z => ka z (kg (st3_b (s := t) (H_lt hrb) nmb nlb))
      simp [gar, List.range, List.range.loop]
      refine ⟨fun hlk => ?_, fun hgk => ?_⟩
      · have hwk : IntKind.i64.wrap ((k : Int) + 1) = (k : Int) + 1 := wrap_id (by omega) (by omega)
        have hpl : p.length < xs.length := by omega
        have hfr := free_at (xs := xs) (p := p) (i := p.length) (k := k)
        rw [getD_nat hlk, getD_nat hpl] at hfr
        have hps := nestsP_succ (xs := xs) (m := m) (p := p) (s := k + 1)
        rw [hfr] at hps
        have htk : (xs.map boxB).take (k + 1) = T ++ [boxB xs[k]] := by rw [List.take_succ_eq_append_getElem (by simpa using hlk), hT]; simp
        have hno : (fitB xs[p.length] xs[k] && !p.contains (k : Int)) = false → K ++ [boxB xs[k]] = st3 H rm rl rb (foldB 3 (volO xs) s (nestsP xs m p (k + 1 + 1))) ++ (xs.map boxB).take (k + 1) := fun h => by
          rw [h] at hps
          simp at hps
          rw [hps, htk, ← ht, hK, List.append_assoc]
        simp [hv.iadd hlk, hv.elem hlk, kxa, hv.undef, hv.cells, hv.iadd hpl, hv.elem hpl]
        refine goCall_pure rfl ⟨xs[p.length], xs[k], rfl, rfl⟩ (by simp) ?_
        cases hf : fitB xs[p.length] xs[k]
        · simp [hwk]
          exact ⟨xs.length - (k + 1), by omega, k + 1, by omega, rfl, hno (by rw [hf]; rfl), .intro (by simp) (by simp)⟩
        · simp [hvp.undef]
          refine goCall_pure rfl ⟨vp, p, k, rfl, hvp, rfl⟩ (by simp) ?_
          cases hc : p.contains (k : Int)
          · rw [hf, hc] at hps hfr
            simp only [Bool.not_false, Bool.and_self, if_true] at hps
            simp [kfa]
            refine goCall_pure rfl ⟨vp, p, rfl, hvp, by omega, rfl⟩ (by simp) ?_
            simp [hap, hvp.undef]
            have hck := hcount (k + 1) (by omega) (by rw [hfr]; rfl)
            rw [← ht] at hck
            refine goCall_imp rfl ⟨m, .sl 3 ((p ++ [(k : Int)]).map I), p ++ [(k : Int)], v, xs, rx, ckx, u, ry, cky, rs_, rm, rl, rb, rf, t, by simp, hsl k, kxa _, hvx, hv, kya _, hcy, hvy, hu, ksa _, kfa _, kma _, kla _, kba _, lm, ll, lb, nml, nmb, nlb, hok, by simp; omega, by omega, hck, rfl, rfl⟩ ?_ ?_
            · refine ⟨by simp, ?_, ?_, ?_, ?_, ?_, ?_, trivial⟩
              · simp only [argV, kxa]; exact hvx
              · simp only [argV, ksa]; exact viewV_fn
              · simp only [argV, kma]; exact viewV_own lm
              · simp only [argV, kla]; exact viewV_own ll
              · simp only [argV, kba]; exact viewV_own lb
              · simp only [argV, kfa]; exact viewV_fn
            rw [mergeH_tail (by simp), st3_merge (kma _) (kla _) (kba _) lm ll lb nml nmb nlb]
            simp [hwk]
            refine ⟨xs.length - (k + 1), by omega, k + 1, by omega, rfl, ?_, .intro (by simp) (by simp)⟩
            rw [hps, foldB_app, ← ht, htk, hK, List.append_assoc, st3_app (by simpa using H_lt hrm) (by simpa using H_lt hrl) (by simpa using H_lt hrb), st3_st3 nml nmb nlb, intoAt_succ]
            rfl
          · rw [hf, hc] at hno
            have hno' := hno rfl
            simp [hwk]
            exact ⟨xs.length - (k + 1), by omega, k + 1, by omega, rfl, hno', .intro (by simp) (by simp)⟩
      · obtain rfl : k = xs.length := by omega
        rw [hK, ht, hT, nestsL_succ, List.take_of_length_le (by simp)]
theorem v99a : SpecR Try.prog 99 sg99 R99a := specEx vr99a
/- impl.bestNesting%volume -/
def R75a : Rel := fun lim vs H rs _ => ∃ v xs u ry cky t, vs = [v, .fn 76 [.ref ry 0]] ∧ Sl 26 pB v xs ∧ H[ry]? = some (cky, [u]) ∧ cky ≠ .fn ∧ viewV lim ry cky = .sh ∧ Sl 26 pB u xs ∧ okBs xs = true ∧ t = foldB 3 (volO xs) ⟨.nil, 0, 0⟩ (nestsL xs xs.length []) ∧ rs = [t.b, I t.l, I t.m]
set_option maxHeartbeats 4000000 in
theorem v75a : SpecR Try.prog 75 sg75 R75a := by
  refine fnZ 15 (by kernel_rfl) (fn := Try.f75) (by kernel_rfl) (by kernel_rfl) (k75a R99a) (by kernel_rfl) ⟨v99a, trivial⟩ ?_
  rintro lim vs H rs H' ⟨v, xs, u, ry, cky, t, rfl, hv, hry, hcy, hvy, hu, hok, ht, rfl⟩ - hlim -
  obtain ⟨h1, h2, h3⟩ := okBs_spec hok
  simp [c75a, l75a, List.replicate, hv.undef, hv.cells]
  obtain ⟨T, hT⟩ : ∃ T : Boxes, T = [(CK.sh, [v]), (CK.fn, [PV.fn 76 [PV.ref ry 0]]), (CK.own, [PV.nil]), (CK.own, [I 0]), (CK.own, [I 0]), (CK.fn, [PV.fn 99 [PV.ref H.length 0, PV.ref (H.length + 1) 0, PV.ref (H.length + 4) 0, PV.ref (H.length + 3) 0, PV.ref (H.length + 2) 0, PV.ref (H.length + 5) 0]])] := ⟨_, rfl⟩
  have e1 : ∀ i, (H ++ T)[H.length + i]? = T[i]? := fun i => by rw [List.getElem?_append_right (by omega)]; congr 1; omega
  have e0 : (H ++ T)[H.length]? = T[0]? := e1 0
  have gx : (H ++ T)[H.length]? = some (.sh, [v]) := by rw [e0, hT]; rfl
  have gs : (H ++ T)[H.length + 1]? = some (.fn, [.fn 76 [.ref ry 0]]) := by rw [e1, hT]; rfl
  have gb : (H ++ T)[H.length + 2]? = some (.own, [.nil]) := by rw [e1, hT]; rfl
  have gl : (H ++ T)[H.length + 3]? = some (.own, [I 0]) := by rw [e1, hT]; rfl
  have gm : (H ++ T)[H.length + 4]? = some (.own, [I 0]) := by rw [e1, hT]; rfl
  have gf : (H ++ T)[H.length + 5]? = some (.fn, [.fn 99 [PV.ref H.length 0, PV.ref (H.length + 1) 0, PV.ref (H.length + 4) 0, PV.ref (H.length + 3) 0, PV.ref (H.length + 2) 0, PV.ref (H.length + 5) 0]]) := by rw [e1, hT]; rfl
  have gy : (H ++ T)[ry]? = some (cky, [u]) := by rw [List.getElem?_append_left (H_lt hry)]; exact hry
  have lm : lim ≤ H.length + 4 := by omega
  have ll : lim ≤ H.length + 3 := by omega
  have lb : lim ≤ H.length + 2 := by omega
  have hpb := nests_bound (xs := xs) (m := xs.length) h2 (by omega)
  have hTl : T.length = 6 := by rw [hT]; rfl
  rw [← hT]
  refine goCall_imp rfl ⟨xs.length + 1, xs.length, .nil, [], v, xs, H.length, .sh, u, ry, cky, H.length + 1, H.length + 4, H.length + 3, H.length + 2, H.length + 5, ⟨.nil, 0, 0⟩, rfl, ⟨.inr ⟨rfl, rfl⟩, by simp⟩, gx, by simp [viewV], hv, gy, hcy, hvy, hu, gs, gf, gm, gl, gb, lm, ll, lb, by omega, by omega, by omega, hok, by simp, by omega, by show 0 + 7 ^ xs.length ≤ _; omega, rfl, rfl⟩ ?_ ?_
  · refine ⟨by simp, ?_, ?_, ?_, ?_, ?_, ?_, trivial⟩
    · simp only [argV, gx]; simp [viewV]
    · simp only [argV, gs]; exact viewV_fn
    · simp only [argV, gm]; exact viewV_own lm
    · simp only [argV, gl]; exact viewV_own ll
    · simp only [argV, gb]; exact viewV_own lb
    · simp only [argV, gf]; exact viewV_fn
  rw [mergeH_tail (by simp), st3_merge (s := ⟨.nil, 0, 0⟩) gm gl gb lm ll lb (by omega) (by omega) (by omega), ← ht]
  have hm' := st3_m (H := H ++ T) (rm := H.length + 4) (rl := H.length + 3) (rb := H.length + 2) (s := t) (by rw [List.length_append]; omega)
  have hl' := st3_l (H := H ++ T) (rm := H.length + 4) (rl := H.length + 3) (rb := H.length + 2) (s := t) (by rw [List.length_append]; omega) (by omega)
  have hb' := st3_b (H := H ++ T) (rm := H.length + 4) (rl := H.length + 3) (rb := H.length + 2) (s := t) (by rw [List.length_append]; omega) (by omega) (by omega)
  obtain ⟨ns, hns, _⟩ : ∃ ns, Sl 3 I t.b ns ∧ ns.length ≤ 7 := by
    rw [ht]
    exact foldB_sl ⟨[], ⟨.inr ⟨rfl, rfl⟩, by simp⟩, by simp⟩ fun p hp => by have := nestsL_mem hp; simp at this; omega
  simp [hm', hl', hb', hns.undef, hns.cells]
/- impl.LeastOuterVolume -/
def R43 : Rel := fun _ vs _ rs _ => ∃ v xs, vs = [v] ∧ Sl 26 pB v xs ∧ rs = [I (if okBs xs then leastV xs else 0), .bool (okBs xs)]
set_option maxHeartbeats 4000000 in
theorem v43 : SpecR Try.prog 43 sg43 R43 := by
  refine fnZ 17 (by kernel_rfl) (fn := Try.f43) (by kernel_rfl) (by kernel_rfl) (k43 R60 R75a) (by kernel_rfl) ⟨v60, v75a, trivial⟩ ?_
  rintro lim vs H rs H' ⟨v, xs, rfl, hv, rfl⟩ - - -
  simp [c43, l43, List.replicate, hv.undef, hv.cells]
  refine goCall_pure rfl ⟨v, xs, rfl, hv, rfl⟩ (by simp) ?_
  cases h : okBs xs
  · simp
  · obtain ⟨h1, h2, h3⟩ := okBs_spec h
    simp [hv.undef, hv.cells]
    have hry : (H ++ [(CK.sh, [v])])[H.length]? = some (CK.sh, [v]) := by simp
    refine goCall_pure rfl ⟨v, xs, v, H.length, .sh, _, rfl, hv, hry, by simp, by simp [viewV], hv, h, rfl, rfl⟩ (by simp) ?_
    obtain ⟨ns, hns, _⟩ : ∃ ns, Sl 3 I (foldB 3 (volO xs) ⟨.nil, 0, 0⟩ (nestsL xs xs.length [])).b ns ∧ ns.length ≤ 7 := foldB_sl ⟨[], ⟨.inr ⟨rfl, rfl⟩, by simp⟩, by simp⟩ fun p hp => by have := nestsL_mem hp; simp at this; omega
    simp [hns.undef, hns.cells, least_same h3 h2]
end Go.Proofs.Ytnkjbncagnfnoaa
set_option autoImplicit false
set_option linter.unusedVariables false
set_option linter.unusedSimpArgs false
set_option linter.unnecessarySimpa false
namespace Go.Proofs.Ytnkjbncagnfnoaa
open Go.Den
/- laws.FnExactLeastOuterVolume -/
def R10 : Rel := fun _ vs _ rs _ => ∃ v xs, vs = [v] ∧ Sl 23 pB v xs ∧ rs = [.bool true]
set_option maxHeartbeats 4000000 in
theorem v10 : SpecR Try.prog 10 sg10 R10 := by
  refine fnZ 39 (by kernel_rfl) (fn := Try.f10) (by kernel_rfl) (by kernel_rfl) (k10 R19 R21 R42 R43 R24) (by kernel_rfl) ⟨v19, v21, v42, v43, v24, trivial⟩ ?_
  rintro lim vs H rs H' ⟨v, xs, rfl, hv, rfl⟩ - - -
  simp [c10, l10, List.replicate]
  refine goCall_pure rfl ⟨v, xs, _, rfl, hv, by omega, by omega, rfl⟩ (by simp) ?_
  by_cases hb : 1048576 - (xs.length : Int) < 0
  · simp [hb]
  · have hl : xs.length ≤ 1048576 := by omega
    have hx : Sl 26 pB (.sl 26 (xs.map pB)) xs := ⟨.inl rfl, by omega⟩
    rw [if_neg hb]
    obtain ⟨z, hz⟩ : ∃ z : Int, z = (if okBs xs then leastV xs else 0) := ⟨_, rfl⟩
    simp [hb]
    refine goCall_pure rfl ⟨v, xs, rfl, hv, hl, rfl⟩ (by simp) ?_
    simp
    refine goCall_pure rfl ⟨_, xs, rfl, hx, by rw [← hz]⟩ (by simp) ?_
    simp
    refine goCall_pure rfl ⟨v, xs, rfl, hv, hl, rfl⟩ (by simp) ?_
    simp
    refine goCall_pure rfl ⟨_, xs, rfl, hx, by rw [← hz]⟩ (by simp) ?_
    simp
    refine goCall_pure rfl ⟨v, xs, rfl, hv, hl, rfl⟩ (by simp) ?_
    simp
    refine goCall_pure rfl ⟨_, _, xs, xs, rfl, hx, hx, rfl⟩ (by simp) ?_
    simp
end Go.Proofs.Ytnkjbncagnfnoaa
