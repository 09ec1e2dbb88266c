/- More of the rows of puzzles. Conditions: none. -/
import Derived.Test.YtfljbfgceilppaaV2
set_option linter.unusedVariables false
set_option linter.unusedSimpArgs false
set_option linter.unnecessarySimpa false
set_option autoImplicit false
set_option linter.unusedSimpArgs false
set_option linter.unusedVariables false
namespace Go.Den
theorem Sl.sli {α : Type} {e : Nat} {f : α → PV} {v : PV} {xs : List α} (h : Sl e f v xs) {l r : Nat} (hl : l ≤ r) (hr : r ≤ xs.length) : ∃ w, sliV e v (some (I l)) (some (I r)) none = some w ∧ Sl e f w ((xs.take r).drop l) := by
  rcases h.1 with rfl | ⟨rfl, rfl⟩
  · refine ⟨.sl e (((xs.take r).drop l).map f), ?_, ⟨.inl rfl, ?_⟩⟩
    · simp [sliV, boundV]
      omega
    · have := h.2
      simp; omega
  · simp at hr; subst hr
    obtain rfl : l = 0 := by omega
    exact ⟨.nil, by simp [sliV, boundV], ⟨.inr ⟨rfl, by simp⟩, by simp⟩⟩
theorem Sl.sli0 {α : Type} {e : Nat} {f : α → PV} {v : PV} {xs : List α} (h : Sl e f v xs) {r : Nat} (hr : r ≤ xs.length) : ∃ w, sliV e v none (some (I r)) none = some w ∧ Sl e f w (xs.take r) := by
  rcases h.1 with rfl | ⟨rfl, rfl⟩
  · refine ⟨.sl e ((xs.take r).map f), ?_, ⟨.inl rfl, ?_⟩⟩
    · simp [sliV, boundV]
      omega
    · have := h.2
      simp; omega
  · simp at hr; subst hr
    exact ⟨.nil, by simp [sliV, boundV], ⟨.inr ⟨rfl, by simp⟩, by simp⟩⟩
theorem drop_one {α : Type} {xs : List α} {i : Nat} (h : i < xs.length) : (xs.take (i + 1)).drop i = [xs[i]] := by
  rw [List.take_succ_eq_append_getElem h, List.drop_append_of_le_length (by simp; omega)]
  simp
/-- The best of the first ones, and how many fit it. -/
def bestF (f : Nat → Nat) : Nat → Nat × Nat
  | 0 => (0, 0)
  | i + 1 => if i = 0 ∨ f i < (bestF f i).2 then (i, f i) else bestF f i
/-- How many solutions the clue number i has alone. -/
def alone (n : Int) (cs : List Cl) (i : Nat) : Nat := (sols n ((cs.take (i + 1)).drop i)).length
/-- How many solutions the first clues have. -/
def leftL (n : Int) (cs : List Cl) (k : Nat) : List Int := (List.range k).map fun (i : Nat) => ((sols n (cs.take i)).length : Int)
theorem leftL_succ {n : Int} {cs : List Cl} {k : Nat} : leftL n cs (k + 1) = leftL n cs k ++ [((sols n (cs.take k)).length : Int)] := by simp [leftL, List.range_succ]
end Go.Den
namespace Go.Den
/-! ### Marks -/
/-- Numbers one after the other. -/
def markL (k : Int) (n : Nat) : List Int := (List.range n).map fun (i : Nat) => k + i
@[simp] theorem markL_len {k : Int} {n : Nat} : (markL k n).length = n := by simp [markL]
theorem markL_succ {k : Int} {n : Nat} : markL k (n + 1) = markL k n ++ [k + n] := by simp [markL, List.range_succ]
theorem markL_get {k : Int} {n i : Nat} (h : i < n) (h' : i < (markL k n).length) : (markL k n)[i] = k + i := by simp [markL]
/-- A list half marked. -/
def halfL {α : Type} (m : Nat → α) (xs : List α) (i : Nat) : List α := (List.range i).map m ++ xs.drop i
section
variable {α : Type} {m : Nat → α} {xs : List α} {i : Nat}
theorem half_zero : halfL m xs 0 = xs := by simp [halfL]
theorem half_len (h : i ≤ xs.length) : (halfL m xs i).length = xs.length := by simp [halfL]; omega
theorem half_all (h : xs.length ≤ i) : halfL m xs i = (List.range i).map m := by simp [halfL, List.drop_eq_nil_of_le h]
theorem half_get (h : i < xs.length) (h' : i < (halfL m xs i).length) : (halfL m xs i)[i] = xs[i] := by
  simp only [halfL]
  rw [List.getElem_append_right (by simp)]
  simp
theorem half_set (h : i < xs.length) : (halfL m xs i).set i (m i) = halfL m xs (i + 1) := by
  simp only [halfL]
  have e : (xs.drop i).set 0 (m i) = m i :: xs.drop (i + 1) := by rw [List.drop_eq_getElem_cons h]; rfl
  rw [List.set_append_right _ _ (by simp), List.range_succ, List.map_append, List.append_assoc]
  simp [e]
end
theorem Sl.sl_of {α : Type} {e : Nat} {f : α → PV} {v : PV} {xs : List α} (h : Sl e f v xs) (hx : xs ≠ []) : v = .sl e (xs.map f) := by
  rcases h.1 with h | ⟨_, h⟩
  · exact h
  · exact absurd h hx
/-- What a marked slice is: nil stays nil. -/
def markV {α : Type} (e : Nat) (f : α → PV) (m : Nat → α) (v : PV) (xs : List α) : PV := if xs = [] then v else .sl e (((List.range xs.length).map m).map f)
theorem markV_sl {α : Type} {e : Nat} {f : α → PV} {m : Nat → α} {v : PV} {xs : List α} (h : Sl e f v xs) : Sl e f (markV e f m v xs) ((List.range xs.length).map m) := by
  unfold markV
  split
  · rename_i h1; subst h1; simpa using h
  · exact ⟨.inl rfl, by simpa using h.2⟩
def markI (k : Int) (i : Nat) : Int := k + i
theorem markL_eq {k : Int} {n : Nat} : (List.range n).map (markI k) = markL k n := rfl
def markC (k : Int) (i : Nat) : Cl := ⟨k + 4 * i, k + 4 * i + 1, k + 4 * i + 2, k + 4 * i + 3⟩
theorem markV_of {α : Type} {e : Nat} {f : α → PV} {m : Nat → α} {v w : PV} {xs : List α} (hw : Sl e f w (halfL m xs xs.length)) (h0 : xs.length = 0 → w = v) : w = markV e f m v xs := by
  unfold markV
  split
  · rename_i h; exact h0 (by rw [h]; rfl)
  · rename_i h
    have hl := half_len (m := m) (Nat.le_refl xs.length)
    have hp := List.length_pos_iff.2 h
    rw [hw.sl_of (by rintro h2; rw [h2] at hl; simp at hl; omega), half_all (Nat.le_refl _)]
theorem pC_mark {k : Int} {i : Nat} : pC (markC k i) = .agg [I (k + 4 * i), I (k + 4 * i + 1), I (k + 4 * i + 1 + 1), I (k + 4 * i + 1 + 1 + 1)] := by
  simp [pC, markC]
  omega
theorem Sl.noAgg {α : Type} {e : Nat} {f : α → PV} {v : PV} {xs : List α} (h : Sl e f v xs) : v.noAgg = true := by
  rcases h.1 with rfl | ⟨rfl, rfl⟩ <;> rfl
theorem markL_ok {k : Int} {n : Nat} {ns : List Int} (h : ns.length = n) (he : ns = markL k n) : (if ns = markL k ns.length then k + (ns.length : Int) else -1) = k + n := by
  rw [if_pos (by rw [h]; exact he), h]
theorem sols_mem {n : Int} {cs : List Cl} {ys : List Int} (h : ys ∈ sols n cs) : ys.length = n.toNat := by
  have := (solsL_mem h).1
  simpa using this
theorem first_sl {e : Nat} {n : Int} {cs : List Cl} : ∃ ns, Sl e I (if okP n cs then firstV e (sols n cs) else .nil) ns ∧ ns.length ≤ 4 := by
  split
  · rename_i h
    obtain ⟨h1, h2, _⟩ := okP_spec h
    cases hl : sols n cs with
    | nil => exact ⟨[], ⟨.inr ⟨rfl, rfl⟩, by simp⟩, by simp⟩
    | cons x l =>
      have := sols_mem (n := n) (cs := cs) (ys := x) (by rw [hl]; simp)
      exact ⟨x, ⟨.inl rfl, by omega⟩, by omega⟩
  · exact ⟨[], ⟨.inr ⟨rfl, rfl⟩, by simp⟩, by simp⟩
end Go.Den
set_option autoImplicit false
set_option linter.unusedVariables false
set_option linter.unusedSimpArgs false
set_option linter.unnecessarySimpa false
namespace Go.Proofs.Ytfljbfgceilppaa
open Go.Den
/- spec.BestClue -/
def R31 : Rel := fun _ vs _ rs _ => ∃ n v cs, vs = [pP n v] ∧ Sl 27 pC v cs ∧ rs = [I (if okP n cs && !cs.isEmpty then (bestF (alone n cs) cs.length).1 else 0), .bool (okP n cs && !cs.isEmpty)]
set_option maxHeartbeats 2000000 in
theorem v31 : SpecR Try.prog 31 sg31 R31 := by
  refine fnZ 43 (by kernel_rfl) (fn := Try.f31) (by kernel_rfl) (by kernel_rfl) (k31 R65 R66) (by kernel_rfl) ⟨v65, v66, trivial⟩ ?_
  rintro lim vs H rs H' ⟨n, v, cs, rfl, hv, rfl⟩ - - -
  simp [c31, l31, List.replicate, hv.undef, hv.cells]
  refine goCall_pure rfl ⟨n, v, cs, rfl, hv, rfl⟩ (by simp) ?_
  cases h : okP n cs
  · simp
  · obtain ⟨h1, h2, h3, h4⟩ := okP_spec h
    by_cases he : cs = []
    · subst he
      simp [hv.undef, hv.cells, hv.len]
    · have hpos := List.length_pos_iff.2 he
      have hem : cs.isEmpty = false := by cases cs <;> simp_all
      have hni : ¬ (cs.length : Int) = 0 := by omega
      simp [hv.undef, hv.cells, hv.len, hem, he]
      refine goL_intro (fun m σ H'' => ∃ i : Nat, i ≤ cs.length ∧ m = cs.length - i ∧ H''[H.length]? = some (.sh, [I n, v]) ∧ σ = slots 44 [(1, .ref H.length 0), (4, I (bestF (alone n cs) i).1), (5, I (bestF (alone n cs) i).2), (19, I cs.length), (20, I i)]) cs.length ⟨0, by omega, by omega, by simp, by simp [slots, List.replicate, bestF]⟩ ?_
      rintro m σ H'' ⟨i, hi', rfl, hH, rfl⟩
      simp [slots, List.replicate]
      refine ⟨fun hlt => ?_, fun hge => ?_⟩
      · obtain ⟨w, hw1, hw2⟩ := hv.sli (l := i) (r := i + 1) (by omega) (by omega)
        have hwi : IntKind.i64.wrap ((i : Int) + 1) = (i : Int) + 1 := wrap_id (by omega) (by omega)
        push_cast at hw1
        have h0 : Sl 24 (pR 3) .nil [] := ⟨.inr ⟨rfl, rfl⟩, by simp⟩
        have hs := sols_len (cs := (cs.take (i + 1)).drop i) h2
        have hS := addV_sl h0 (l := sols n ((cs.take (i + 1)).drop i)) (by simp; omega)
        simp only [List.nil_append] at hS
        have hm : ∀ c ∈ (cs.take (i + 1)).drop i, clueOk n c = true := fun c hc => h4 c (List.mem_of_mem_take (List.mem_of_mem_drop hc))
        have hal : (sols n ((cs.take (i + 1)).drop i)).length = alone n cs i := rfl
        simp [hH, hv.undef, hv.cells, hwi, hw1, hw2.undef]
        refine goCall_pure rfl ⟨n, w, _, rfl, hw2, h1, h2, hm, rfl⟩ (by simp) ?_
        simp [hS.undef, hS.len, hal]
        by_cases hi0 : i = 0
        · subst hi0
          simp
          exact ⟨cs.length - 1, by omega, 1, by omega, rfl, hH, by simp [bestF, wrap_id (show (-9223372036854775808 : Int) ≤ 1 by omega) (by omega)]⟩
        · have hi0' : ¬ (i : Int) = 0 := by omega
          by_cases hlt2 : alone n cs i < (bestF (alone n cs) i).2
          · have hlt3 : ¬ (bestF (alone n cs) i).2 ≤ alone n cs i := by omega
            have e : bestF (alone n cs) (i + 1) = (i, alone n cs i) := by simp [bestF, hlt2]
            simp [hi0, hlt2, hlt3]
            exact ⟨cs.length - (i + 1), by omega, i + 1, by omega, rfl, hH, by rw [e, hwi]; simp⟩
          · have hlt3 : (bestF (alone n cs) i).2 ≤ alone n cs i := by omega
            have e : bestF (alone n cs) (i + 1) = bestF (alone n cs) i := by simp [bestF, hlt2, hi0]
            simp [hi0, hlt2, hlt3]
            exact ⟨cs.length - (i + 1), by omega, i + 1, by omega, rfl, hH, by rw [e, hwi]; simp⟩
      · obtain rfl : i = cs.length := by omega
        rfl
/- impl.BestClue -/
def R32 : Rel := fun _ vs _ rs _ => ∃ n v cs, vs = [pP n v] ∧ Sl 27 pC v cs ∧ rs = [I (if okP n cs && !cs.isEmpty then (bestF (alone n cs) cs.length).1 else 0), .bool (okP n cs && !cs.isEmpty)]
set_option maxHeartbeats 2000000 in
theorem v32 : SpecR Try.prog 32 sg32 R32 := by
  refine fnZ 42 (by kernel_rfl) (fn := Try.f32) (by kernel_rfl) (by kernel_rfl) (k32 R69 R70) (by kernel_rfl) ⟨v69, v70, trivial⟩ ?_
  rintro lim vs H rs H' ⟨n, v, cs, rfl, hv, rfl⟩ - - -
  simp [c32, l32, List.replicate, hv.undef, hv.cells]
  refine goCall_pure rfl ⟨n, v, cs, rfl, hv, rfl⟩ (by simp) ?_
  cases h : okP n cs
  · simp
  · obtain ⟨h1, h2, h3, h4⟩ := okP_spec h
    by_cases he : cs = []
    · subst he
      simp [hv.undef, hv.cells, hv.len]
    · have hpos := List.length_pos_iff.2 he
      have hem : cs.isEmpty = false := by cases cs <;> simp_all
      have hni : ¬ (cs.length : Int) = 0 := by omega
      simp [hv.undef, hv.cells, hv.len, hem, he]
      refine goL_intro (fun m σ H'' => ∃ i : Nat, i ≤ cs.length ∧ m = cs.length - i ∧ H''[H.length]? = some (.sh, [I n, v]) ∧ σ = slots 43 [(1, .ref H.length 0), (4, I (bestF (alone n cs) i).1), (5, I (if i = 0 then -1 else (bestF (alone n cs) i).2)), (19, v), (20, I cs.length), (21, I i)]) cs.length ⟨0, by omega, by omega, by simp, by simp [slots, List.replicate, bestF]⟩ ?_
      rintro m σ H'' ⟨i, hi', rfl, hH, rfl⟩
      have hH2 : ∀ x, (H'' ++ [x])[H.length]? = some (.sh, [I n, v]) := fun x => by rw [List.getElem?_append_left (H_lt hH)]; exact hH
      simp [slots, List.replicate]
      refine ⟨fun hlt => ?_, fun hge => ?_⟩
      · have hone := drop_one hlt
        have hw2 : Sl 27 pC (.sl 27 [pC cs[i]]) ((cs.take (i + 1)).drop i) := by rw [hone]; exact ⟨.inl rfl, by simp⟩
        have h0 : Sl 24 (pR 3) (.sl 24 []) [] := ⟨.inl rfl, by simp⟩
        have hs := sols_len (cs := (cs.take (i + 1)).drop i) h2
        have hS := addV_sl h0 (l := sols n ((cs.take (i + 1)).drop i)) (by simp; omega)
        simp only [List.nil_append] at hS
        have hm : ∀ c ∈ (cs.take (i + 1)).drop i, clueOk n c = true := fun c hc => h4 c (List.mem_of_mem_take (List.mem_of_mem_drop hc))
        have hal : (sols n ((cs.take (i + 1)).drop i)).length = alone n cs i := rfl
        simp [hv.iadd hlt, hv.elem hlt, hH2]
        refine goCall_pure rfl ⟨n, _, _, rfl, hw2, h1, h2, hm, rfl⟩ (by simp [pC]) ?_
        simp [hS.undef, hS.len, hal]
        by_cases hi0 : i = 0
        · subst hi0
          simp
          exact ⟨cs.length - 1, by omega, 1, by omega, rfl, hH2 _, by simp [bestF, wrap_id (show (-9223372036854775808 : Int) ≤ 1 by omega) (by omega)]⟩
        · have hb0 : ¬ ((bestF (alone n cs) i).2 : Int) < 0 := by omega
          by_cases hlt2 : alone n cs i < (bestF (alone n cs) i).2
          · have hlt3 : ¬ (bestF (alone n cs) i).2 ≤ alone n cs i := by omega
            have e : bestF (alone n cs) (i + 1) = (i, alone n cs i) := by simp [bestF, hlt2]
            simp [hi0, hlt2, hlt3, hb0]
            exact ⟨cs.length - (i + 1), by omega, i + 1, by omega, rfl, hH2 _, by rw [e, wrap_id (by omega) (by omega)]; simp⟩
          · have hlt3 : (bestF (alone n cs) i).2 ≤ alone n cs i := by omega
            have e : bestF (alone n cs) (i + 1) = bestF (alone n cs) i := by simp [bestF, hlt2, hi0]
            simp [hi0, hlt2, hlt3, hb0]
            exact ⟨cs.length - (i + 1), by omega, i + 1, by omega, rfl, hH2 _, by rw [e, wrap_id (by omega) (by omega)]; simp⟩
      · obtain rfl : i = cs.length := by omega
        rfl
/- laws.FnExactBestClue -/
def R7 : Rel := fun _ vs _ rs _ => ∃ n v xs, vs = [pP n v] ∧ Sl 23 pC v xs ∧ rs = [.bool true]
theorem v7 : SpecR Try.prog 7 sg7 R7 := by
  refine fnZ 39 (by kernel_rfl) (fn := Try.f7) (by kernel_rfl) (by kernel_rfl) (k7 R25 R27 R31 R32 R21) (by kernel_rfl) ⟨v25, v27, v31, v32, v21, trivial⟩ ?_
  rintro lim vs H rs H' ⟨n, v, xs, rfl, hv, rfl⟩ - - -
  simp [c7, l7, List.replicate, hv.undef, hv.cells]
  refine goCall_pure rfl ⟨n, v, xs, _, rfl, hv, by omega, by omega, rfl⟩ (by simp) ?_
  by_cases hb : 1048576 - (xs.length : Int) < 0
  · simp [hb]
  · have hl : xs.length ≤ 1048576 := by omega
    have hw : Sl 27 pC (.sl 27 (xs.map pC)) xs := ⟨.inl rfl, by omega⟩
    rw [if_neg hb]
    simp [hb, hv.undef, hv.cells]
    refine goCall_pure rfl ⟨n, v, xs, rfl, hv, hl, rfl⟩ (by simp) ?_
    simp
    refine goCall_pure rfl ⟨n, _, xs, rfl, hw, rfl⟩ (by simp) ?_
    simp [hv.undef, hv.cells]
    refine goCall_pure rfl ⟨n, v, xs, rfl, hv, hl, rfl⟩ (by simp) ?_
    simp
    refine goCall_pure rfl ⟨n, _, xs, rfl, hw, rfl⟩ (by simp) ?_
    simp [hv.undef, hv.cells]
    refine goCall_pure rfl ⟨n, v, xs, rfl, hv, hl, rfl⟩ (by simp) ?_
    simp
    refine goCall_pure rfl ⟨n, _, xs, n, _, xs, rfl, hw, hw, rfl⟩ (by simp) ?_
    simp
end Go.Proofs.Ytfljbfgceilppaa
set_option autoImplicit false
set_option linter.unusedVariables false
set_option linter.unusedSimpArgs false
set_option linter.unnecessarySimpa false
namespace Go.Proofs.Ytfljbfgceilppaa
open Go.Den
/- spec.LeftByClues -/
def R33 : Rel := fun _ vs _ rs _ => ∃ n v cs, vs = [pP n v] ∧ Sl 27 pC v cs ∧ rs = [if okP n cs then pR 3 (leftL n cs (cs.length + 1)) else .nil, .bool (okP n cs)]
set_option maxHeartbeats 2000000 in
theorem v33 : SpecR Try.prog 33 sg33 R33 := by
  refine fnZ 27 (by kernel_rfl) (fn := Try.f33) (by kernel_rfl) (by kernel_rfl) (k33 R65 R66) (by kernel_rfl) ⟨v65, v66, trivial⟩ ?_
  rintro lim vs H rs H' ⟨n, v, cs, rfl, hv, rfl⟩ - - -
  simp [c33, l33, List.replicate, hv.undef, hv.cells]
  refine goCall_pure rfl ⟨n, v, cs, rfl, hv, rfl⟩ (by simp) ?_
  cases h : okP n cs
  · simp
  · obtain ⟨h1, h2, h3, h4⟩ := okP_spec h
    simp
    refine goL_intro (fun m σ H'' => ∃ i : Nat, ∃ w, i ≤ cs.length + 1 ∧ m = cs.length + 1 - i ∧ H''[H.length]? = some (.sh, [I n, v]) ∧ Sl 3 I w (leftL n cs i) ∧ σ = slots 28 [(1, .ref H.length 0), (4, w), (5, I i)]) (cs.length + 1) ⟨0, .nil, by omega, by omega, by simp, ⟨.inr ⟨rfl, rfl⟩, by simp [leftL]⟩, by simp [slots, List.replicate]⟩ ?_
    rintro m σ H'' ⟨i, w, hi', rfl, hH, hw, rfl⟩
    simp [slots, List.replicate, hH, hv.undef, hv.cells, hv.len]
    refine ⟨fun hlt => ?_, fun hge => ?_⟩
    · obtain ⟨u, hu1, hu2⟩ := hv.sli0 (r := i) (by omega)
      have h0 : Sl 24 (pR 3) .nil [] := ⟨.inr ⟨rfl, rfl⟩, by simp⟩
      have hs := sols_len (cs := cs.take i) h2
      have hS := addV_sl h0 (l := sols n (cs.take i)) (by simp; omega)
      simp only [List.nil_append] at hS
      have hm : ∀ c ∈ cs.take i, clueOk n c = true := fun c hc => h4 c (List.mem_of_mem_take hc)
      simp [hw.undef, hu1, hu2.undef]
      refine goCall_pure rfl ⟨n, u, _, rfl, hu2, h1, h2, hm, rfl⟩ (by simp) ?_
      have hll : (leftL n cs i).length = i := by simp [leftL]
      have hap := hw.app1 (⟨.inl rfl, by simp⟩ : Sl 3 I (.sl 3 [I (sols n (cs.take i)).length]) [((sols n (cs.take i)).length : Int)]) (by simp) (by simp; omega)
      simp [hS.undef, hS.len, hap]
      refine ⟨cs.length + 1 - (i + 1), by omega, i + 1, by omega, rfl, hH, _, ?_, rfl, ?_⟩
      · rw [leftL_succ]; exact ⟨.inl (by simp), by simp; omega⟩
      · rw [wrap_id (by omega) (by omega)]; simp
    · obtain rfl : i = cs.length + 1 := by omega
      have hw' := hw.pR (by simp [leftL, List.range_succ])
      simp [hw.undef, hw']
/- impl.LeftByClues -/
def R34 : Rel := fun _ vs _ rs _ => ∃ n v cs, vs = [pP n v] ∧ Sl 27 pC v cs ∧ rs = [if okP n cs then pR 3 (leftL n cs (cs.length + 1)) else .nil, .bool (okP n cs)]
set_option maxHeartbeats 2000000 in
theorem v34 : SpecR Try.prog 34 sg34 R34 := by
  refine fnZ 29 (by kernel_rfl) (fn := Try.f34) (by kernel_rfl) (by kernel_rfl) (k34 R69 R70) (by kernel_rfl) ⟨v69, v70, trivial⟩ ?_
  rintro lim vs H rs H' ⟨n, v, cs, rfl, hv, rfl⟩ - - -
  simp [c34, l34, List.replicate, hv.undef, hv.cells]
  refine goCall_pure rfl ⟨n, v, cs, rfl, hv, rfl⟩ (by simp) ?_
  cases h : okP n cs
  · simp
  · obtain ⟨h1, h2, h3, h4⟩ := okP_spec h
    have hwl : IntKind.i64.wrap ((cs.length : Int) + 1) = ((cs.length + 1 : Nat) : Int) := by rw [wrap_id (by omega) (by omega)]; simp
    simp [hv.undef, hv.cells, hv.len, hwl]
    refine goL_intro (fun m σ H'' => ∃ i : Nat, ∃ w, i ≤ cs.length + 1 ∧ m = cs.length + 1 - i ∧ H''[H.length]? = some (.sh, [I n, v]) ∧ Sl 3 I w (leftL n cs i) ∧ σ = slots 30 [(1, .ref H.length 0), (4, w), (13, I (cs.length + 1)), (14, I i)]) (cs.length + 1) ⟨0, .sl 3 [], by omega, by omega, by simp, ⟨.inl rfl, by simp [leftL]⟩, by simp [slots, List.replicate]⟩ ?_
    rintro m σ H'' ⟨i, w, hi', rfl, hH, hw, rfl⟩
    simp [slots, List.replicate]
    refine ⟨fun hlt => ?_, fun hge => ?_⟩
    · obtain ⟨u, hu1, hu2⟩ := hv.sli0 (r := i) (by omega)
      have h0 : Sl 24 (pR 3) (.sl 24 []) [] := ⟨.inl rfl, by simp⟩
      have hs := sols_len (cs := cs.take i) h2
      have hS := addV_sl h0 (l := sols n (cs.take i)) (by simp; omega)
      simp only [List.nil_append] at hS
      have hm : ∀ c ∈ cs.take i, clueOk n c = true := fun c hc => h4 c (List.mem_of_mem_take hc)
      simp [hH, hv.undef, hv.cells, hw.undef, hu1, hu2.undef]
      refine goCall_pure rfl ⟨n, u, _, rfl, hu2, h1, h2, hm, rfl⟩ (by simp) ?_
      have hll : (leftL n cs i).length = i := by simp [leftL]
      have hap := hw.app1 (⟨.inl rfl, by simp⟩ : Sl 3 I (.sl 3 [I (sols n (cs.take i)).length]) [((sols n (cs.take i)).length : Int)]) (by simp) (by simp; omega)
      simp [hS.undef, hS.len, hap]
      refine ⟨cs.length + 1 - (i + 1), by omega, i + 1, by omega, rfl, hH, _, ?_, rfl, ?_⟩
      · rw [leftL_succ]; exact ⟨.inl (by simp), by simp; omega⟩
      · rw [wrap_id (by omega) (by omega)]; simp
    · obtain rfl : i = cs.length + 1 := by omega
      have hw' := hw.pR (by simp [leftL, List.range_succ])
      simp [hw.undef, hw']
end Go.Proofs.Ytfljbfgceilppaa
set_option autoImplicit false
set_option linter.unusedVariables false
set_option linter.unusedSimpArgs false
set_option linter.unnecessarySimpa false
namespace Go.Proofs.Ytfljbfgceilppaa
open Go.Den
/- laws.markIntS -/
def R22 : Rel := fun _ vs _ rs _ => ∃ v ns k, vs = [v, I k] ∧ Sl 3 I v ns ∧ 0 ≤ k ∧ k ≤ 1125899906842624 ∧ ns.length ≤ 1125899906842624 ∧ rs = [I (k + ns.length), markV 3 I (markI k) v ns]
theorem v22 : SpecR Try.prog 22 sg22 R22 := by
  refine fnZ 17 (by kernel_rfl) (fn := Try.f22) (by kernel_rfl) (by kernel_rfl) k22 (by kernel_rfl) trivial ?_
  rintro lim vs H rs H' ⟨v, ns, k, rfl, hv, h0, h1, h2, rfl⟩ - - -
  simp [c22, List.replicate]
  refine goL_intro (fun n σ H'' => ∃ i : Nat, ∃ w, i ≤ ns.length ∧ n = ns.length - i ∧ Sl 3 I w (halfL (markI k) ns i) ∧ (i = 0 → w = v) ∧ σ = slots 19 [(0, w), (1, I (k + i)), (5, I i)]) ns.length ⟨0, v, by omega, by omega, by rw [half_zero]; exact hv, fun _ => rfl, by simp [slots, List.replicate]⟩ ?_
  rintro n σ H'' ⟨i, w, hi', rfl, hw, hw0, rfl⟩
  have hhl := half_len (m := markI k) (xs := ns) hi'
  simp [slots, List.replicate, hw.len, hhl]
  refine ⟨fun hlt => ?_, fun hge => ?_⟩
  · have hne : halfL (markI k) ns i ≠ [] := by rintro h; rw [h] at hhl; simp at hhl; omega
    obtain rfl := hw.sl_of hne
    have hi2 : i < (halfL (markI k) ns i).length := by omega
    have hw1 : IntKind.i64.wrap (k + i + 1) = k + i + 1 := wrap_id (by omega) (by omega)
    have hw2 : IntKind.i64.wrap ((i : Int) + 1) = (i : Int) + 1 := wrap_id (by omega) (by omega)
    simp [hhl, hlt, hw1, hw2]
    refine ⟨ns.length - (i + 1), by omega, i + 1, by omega, rfl, _, ⟨.inl (by rw [← half_set hlt, List.map_set]; rfl), by rw [half_len (by omega)]; exact hv.2⟩, by simp, rfl, by simp; omega, by simp⟩
  · obtain rfl : i = ns.length := by omega
    obtain rfl := markV_of hw hw0
    simp [hw.undef, hw.cells]
/- laws.heldIntS -/
def R35 : Rel := fun _ vs _ rs _ => ∃ v ns k, vs = [v, I k] ∧ Sl 3 I v ns ∧ 0 ≤ k ∧ k ≤ 1125899906842624 ∧ ns.length ≤ 1125899906842624 ∧ rs = [I (if ns = markL k ns.length then k + ns.length else -1)]
theorem v35 : SpecR Try.prog 35 sg35 R35 := by
  refine fnZ 19 (by kernel_rfl) (fn := Try.f35) (by kernel_rfl) (by kernel_rfl) k35 (by kernel_rfl) trivial ?_
  rintro lim vs H rs H' ⟨v, ns, k, rfl, hv, h0, h1, h2, rfl⟩ - - -
  simp [c35, List.replicate]
  refine goL_intro (fun n σ H'' => ∃ i : Nat, i ≤ ns.length ∧ n = ns.length - i ∧ ns.take i = markL k i ∧ σ = slots 21 [(0, v), (1, I (k + i)), (5, I i)]) ns.length ⟨0, by omega, by omega, by simp [markL], by simp [slots, List.replicate]⟩ ?_
  rintro n σ H'' ⟨i, hi', rfl, hT, rfl⟩
  simp [slots, List.replicate, hv.len]
  refine ⟨fun hlt => ?_, fun hge => ?_⟩
  · have hw1 : IntKind.i64.wrap (k + i + 1) = k + i + 1 := wrap_id (by omega) (by omega)
    have hw2 : IntKind.i64.wrap ((i : Int) + 1) = (i : Int) + 1 := wrap_id (by omega) (by omega)
    simp [hv.iadd hlt, hv.elem hlt, hw1, hw2]
    refine ⟨fun hne => ?_, fun heq => ?_⟩
    · intro h
      exfalso
      apply hne
      have : ns[i] = (markL k ns.length)[i]'(by simpa using hlt) := by congr 1
      rw [this, markL_get hlt]
    · refine ⟨ns.length - (i + 1), by omega, i + 1, by omega, rfl, ?_, by simp; omega, by simp⟩
      rw [List.take_succ_eq_append_getElem hlt, hT, heq, markL_succ]
  · obtain rfl : i = ns.length := by omega
    rw [List.take_length] at hT
    simp [← hT]
/- laws.markClueS -/
def R62 : Rel := fun _ vs _ rs _ => ∃ v ns k, vs = [v, I k] ∧ Sl 27 pC v ns ∧ 0 ≤ k ∧ k ≤ 1125899906842624 ∧ ns.length ≤ 1125899906842624 ∧ rs = [I (k + 4 * ns.length), markV 27 pC (markC k) v ns]
set_option maxHeartbeats 4000000 in
theorem v62 : SpecR Try.prog 62 sg62 R62 := by
  refine fnZ 39 (by kernel_rfl) (fn := Try.f62) (by kernel_rfl) (by kernel_rfl) k62 (by kernel_rfl) trivial ?_
  rintro lim vs H rs H' ⟨v, ns, k, rfl, hv, h0, h1, h2, rfl⟩ - - -
  simp [c62, List.replicate]
  refine goL_intro (fun n σ H'' => ∃ i : Nat, ∃ w, i ≤ ns.length ∧ n = ns.length - i ∧ Sl 27 pC w (halfL (markC k) ns i) ∧ (i = 0 → w = v) ∧ σ = slots 41 [(0, w), (1, I (k + 4 * i)), (5, I i)]) ns.length ⟨0, v, by omega, by omega, by rw [half_zero]; exact hv, fun _ => rfl, by simp [slots, List.replicate]⟩ ?_
  rintro n σ H'' ⟨i, w, hi', rfl, hw, hw0, rfl⟩
  have hhl := half_len (m := markC k) (xs := ns) hi'
  simp [slots, List.replicate, hw.len, hhl]
  refine ⟨fun hlt => ?_, fun hge => ?_⟩
  · have hne : halfL (markC k) ns i ≠ [] := by rintro h; rw [h] at hhl; simp at hhl; omega
    obtain rfl := hw.sl_of hne
    have hi2 : i < (halfL (markC k) ns i).length := by omega
    have hw1 : IntKind.i64.wrap (k + 4 * i + 1) = k + 4 * i + 1 := wrap_id (by omega) (by omega)
    have hw2 : IntKind.i64.wrap ((i : Int) + 1) = (i : Int) + 1 := wrap_id (by omega) (by omega)
    have hw3 : IntKind.i64.wrap (k + 4 * i + 1 + 1) = k + 4 * i + 1 + 1 := wrap_id (by omega) (by omega)
    have hw4 : IntKind.i64.wrap (k + 4 * i + 1 + 1 + 1) = k + 4 * i + 1 + 1 + 1 := wrap_id (by omega) (by omega)
    have hw5 : IntKind.i64.wrap (k + 4 * i + 1 + 1 + 1 + 1) = k + 4 * i + 1 + 1 + 1 + 1 := wrap_id (by omega) (by omega)
    simp [hhl, hlt, hw1, hw2, hw3, hw4, hw5, pC, reOk, reCell]
    refine ⟨ns.length - (i + 1), by omega, i + 1, by omega, rfl, _, ⟨.inl (by rw [← half_set hlt, List.map_set, pC_mark]), by rw [half_len (by omega)]; exact hv.2⟩, by simp, rfl, by push_cast; omega, by simp⟩
  · obtain rfl : i = ns.length := by omega
    obtain rfl := markV_of hw hw0
    simp [hw.undef, hw.cells]
/- laws.markPuzzle -/
def R23 : Rel := fun _ vs _ rs _ => ∃ n v cs k, vs = [pP n v, I k] ∧ Sl 27 pC v cs ∧ 0 ≤ k ∧ k ≤ 1125899906842624 ∧ cs.length ≤ 1125899906842624 ∧ rs = [I (k + 4 * cs.length), pP n (markV 27 pC (markC k) v cs)]
theorem v23 : SpecR Try.prog 23 sg23 R23 := by
  refine fnZ 8 (by kernel_rfl) (fn := Try.f23) (by kernel_rfl) (by kernel_rfl) (k23 R62) (by kernel_rfl) ⟨v62, trivial⟩ ?_
  rintro lim vs H rs H' ⟨n, v, cs, k, rfl, hv, h0, h1, h2, rfl⟩ - - -
  have hw := markV_sl (m := markC k) hv
  simp [c23, l23, List.replicate, hv.undef, hv.cells, pP, undefs]
  refine goM_intro (H2 := []) ⟨v, cs, k, rfl, hv, h0, h1, h2, rfl⟩ (by simp [hv.undef]) hw.undef ?_
  have hna : (markV 27 pC (markC k) v cs).noAgg = true := hw.noAgg
  simp [hw.undef, hw.cells, hna]
end Go.Proofs.Ytfljbfgceilppaa
set_option autoImplicit false
set_option linter.unusedVariables false
set_option linter.unusedSimpArgs false
set_option linter.unnecessarySimpa false
namespace Go.Proofs.Ytfljbfgceilppaa
open Go.Den
/- laws.FnExactLeftByClues -/
def R8 : Rel := fun _ vs _ rs _ => ∃ n v xs, vs = [pP n v] ∧ Sl 23 pC v xs ∧ rs = [.bool true]
set_option maxHeartbeats 4000000 in
theorem v8 : SpecR Try.prog 8 sg8 R8 := by
  refine fnZ 95 (by kernel_rfl) (fn := Try.f8) (by kernel_rfl) (by kernel_rfl) (k8 R25 R27 R33 R34 R18 R21 R23 R22 R35) (by kernel_rfl) ⟨v25, v27, v33, v34, v18, v21, v23, v22, v35, trivial⟩ ?_
  rintro lim vs H rs H' ⟨n, v, xs, rfl, hv, rfl⟩ - - -
  simp [c8, l8, List.replicate, hv.undef, hv.cells]
  refine goCall_pure rfl ⟨n, v, xs, _, rfl, hv, by omega, by omega, rfl⟩ (by simp) ?_
  by_cases hb : 1048576 - (xs.length : Int) < 0
  · simp [hb]
  · have hl : xs.length ≤ 1048576 := by omega
    have hw : Sl 27 pC (.sl 27 (xs.map pC)) xs := ⟨.inl rfl, by omega⟩
    rw [if_neg hb]
    simp [hb, hv.undef, hv.cells]
    refine goCall_pure rfl ⟨n, v, xs, rfl, hv, hl, rfl⟩ (by simp) ?_
    simp
    obtain ⟨ns, g, hgd, hg, hgl⟩ : ∃ ns g, g = (if okP n xs then pR 3 (leftL n xs (xs.length + 1)) else .nil) ∧ Sl 3 I g ns ∧ ns.length ≤ 1048577 := by
      refine ⟨if okP n xs then leftL n xs (xs.length + 1) else [], _, rfl, ?_, ?_⟩
      · split
        · exact ⟨.inl rfl, by simp [leftL]; omega⟩
        · exact ⟨.inr ⟨rfl, rfl⟩, by simp⟩
      · split
        · simp [leftL]; omega
        · simp
    obtain ⟨gm, hgm⟩ : ∃ gm, gm = markV 3 I (markI 1) g ns := ⟨_, rfl⟩
    have hms := markV_sl (m := markI 1) hg
    rw [← hgm] at hms
    have hml : ((List.range ns.length).map (markI 1)).length = ns.length := by simp
    have hmh := markL_ok (k := 1) hml (markL_eq)
    have hcm := markV_sl (m := markC 1) hw
    refine goCall_pure rfl ⟨n, _, xs, rfl, hw, by rw [← hgd]⟩ (by simp) ?_
    simp [hv.undef, hv.cells, hg.undef]
    refine goCall_pure rfl ⟨n, v, xs, rfl, hv, hl, rfl⟩ (by simp) ?_
    simp
    refine goCall_pure rfl ⟨n, _, xs, rfl, hw, by rw [← hgd]⟩ (by simp) ?_
    simp [hv.undef, hv.cells, hg.undef]
    refine goCall_pure rfl ⟨g, g, ns, ns, rfl, hg, hg, rfl⟩ (by simp) ?_
    simp [hv.undef, hv.cells]
    refine goCall_pure rfl ⟨n, v, xs, rfl, hv, hl, rfl⟩ (by simp) ?_
    simp
    refine goCall_pure rfl ⟨n, _, xs, n, _, xs, rfl, hw, hw, rfl⟩ (by simp) ?_
    simp [undefs]
    refine goM_intro (H2 := []) ⟨n, _, xs, 1, rfl, hw, by omega, by omega, by omega, rfl⟩ (by simp) (by simp) ?_
    have hnn : ¬ (1 + 4 * (xs.length : Int)) < 0 := by omega
    simp [hcm.undef, hcm.cells, hnn, hg.undef]
    refine goCall_pure rfl ⟨g, g, ns, ns, rfl, hg, hg, rfl⟩ (by simp) ?_
    simp [hg.undef]
    refine goM_intro (H2 := []) ⟨g, ns, 1, rfl, hg, by omega, by omega, by omega, by rw [← hgm]⟩ (by simp [hg.undef]) hms.undef ?_
    have hq : ¬ (1 + (ns.length : Int)) < 0 := by omega
    simp [hms.undef]
    refine goCall_pure rfl ⟨gm, _, 1, rfl, hms, by omega, by omega, by rw [hml]; omega, rfl⟩ (by simp) ?_
    rw [hmh]
    simp [hq, hv.undef, hv.cells]
    refine goCall_pure rfl ⟨n, v, xs, rfl, hv, hl, rfl⟩ (by simp) ?_
    simp
    refine goCall_pure rfl ⟨n, _, xs, rfl, hw, by rw [← hgd]⟩ (by simp) ?_
    simp [hg.undef]
    refine goCall_pure rfl ⟨g, g, ns, ns, rfl, hg, hg, rfl⟩ (by simp) ?_
    simp [hms.undef]
    refine goCall_pure rfl ⟨gm, _, 1, rfl, hms, by omega, by omega, by rw [hml]; omega, rfl⟩ (by simp) ?_
    rw [hmh]
    simp [hq]
end Go.Proofs.Ytfljbfgceilppaa
set_option autoImplicit false
set_option linter.unusedVariables false
set_option linter.unusedSimpArgs false
set_option linter.unnecessarySimpa false
namespace Go.Proofs.Ytfljbfgceilppaa
open Go.Den
/- spec.FirstSolution -/
def R36 : Rel := fun _ vs _ rs _ => ∃ n v cs, vs = [pP n v] ∧ Sl 27 pC v cs ∧ rs = [if okP n cs then firstV 3 (sols n cs) else .nil, .bool (okP n cs && !(sols n cs).isEmpty)]
theorem v36 : SpecR Try.prog 36 sg36 R36 := by
  refine fnZ 18 (by kernel_rfl) (fn := Try.f36) (by kernel_rfl) (by kernel_rfl) (k36 R65 R66) (by kernel_rfl) ⟨v65, v66, trivial⟩ ?_
  rintro lim vs H rs H' ⟨n, v, cs, rfl, hv, rfl⟩ - - -
  simp [c36, l36, List.replicate, hv.undef, hv.cells]
  refine goCall_pure rfl ⟨n, v, cs, rfl, hv, rfl⟩ (by simp) ?_
  cases h : okP n cs
  · simp
  · obtain ⟨h1, h2, h3, h4⟩ := okP_spec h
    have hs := sols_len (cs := cs) h2
    simp [hv.undef, hv.cells]
    refine goCall_pure rfl ⟨n, v, cs, rfl, hv, h1, h2, h4, rfl⟩ (by simp) ?_
    obtain ⟨l, hl⟩ : ∃ l, l = sols n cs := ⟨_, rfl⟩
    rw [← hl]
    rw [← hl] at hs
    cases l with
    | nil => simp [addV, firstV]
    | cons x l =>
      have hne : ¬ ((l.length : Int) + 1 = 0) := by omega
      simp [addV, firstV, hne, pR]
/- impl.FirstSolution -/
def R37 : Rel := fun _ vs _ rs _ => ∃ n v cs, vs = [pP n v] ∧ Sl 27 pC v cs ∧ rs = [if okP n cs then firstV 3 (sols n cs) else .nil, .bool (okP n cs && !(sols n cs).isEmpty)]
theorem v37 : SpecR Try.prog 37 sg37 R37 := by
  refine fnZ 16 (by kernel_rfl) (fn := Try.f37) (by kernel_rfl) (by kernel_rfl) (k37 R39) (by kernel_rfl) ⟨v39, trivial⟩ ?_
  rintro lim vs H rs H' ⟨n, v, cs, rfl, hv, rfl⟩ - - -
  simp [c37, l37, List.replicate, hv.undef, hv.cells]
  refine goCall_pure rfl ⟨n, v, cs, rfl, hv, rfl⟩ (by simp) ?_
  cases h : okP n cs
  · simp
  · obtain ⟨h1, h2, h3, h4⟩ := okP_spec h
    have hs := sols_len (cs := cs) h2
    obtain ⟨l, hl⟩ : ∃ l, l = sols n cs := ⟨_, rfl⟩
    rw [← hl]
    rw [← hl] at hs
    cases l with
    | nil => simp [addV, firstV]
    | cons x l =>
      have hne : ¬ ((l.length : Int) + 1 = 0) := by omega
      simp [addV, firstV, hne, pR]
end Go.Proofs.Ytfljbfgceilppaa
set_option autoImplicit false
set_option linter.unusedVariables false
set_option linter.unusedSimpArgs false
set_option linter.unnecessarySimpa false
namespace Go.Proofs.Ytfljbfgceilppaa
open Go.Den
/- laws.FnExactFirstSolution -/
def R9 : Rel := fun _ vs _ rs _ => ∃ n v xs, vs = [pP n v] ∧ Sl 23 pC v xs ∧ rs = [.bool true]
set_option maxHeartbeats 4000000 in
theorem v9 : SpecR Try.prog 9 sg9 R9 := by
  refine fnZ 95 (by kernel_rfl) (fn := Try.f9) (by kernel_rfl) (by kernel_rfl) (k9 R25 R27 R36 R37 R18 R21 R23 R22 R35) (by kernel_rfl) ⟨v25, v27, v36, v37, v18, v21, v23, v22, v35, trivial⟩ ?_
  rintro lim vs H rs H' ⟨n, v, xs, rfl, hv, rfl⟩ - - -
  simp [c9, l9, List.replicate, hv.undef, hv.cells]
  refine goCall_pure rfl ⟨n, v, xs, _, rfl, hv, by omega, by omega, rfl⟩ (by simp) ?_
  by_cases hb : 1048576 - (xs.length : Int) < 0
  · simp [hb]
  · have hl : xs.length ≤ 1048576 := by omega
    have hw : Sl 27 pC (.sl 27 (xs.map pC)) xs := ⟨.inl rfl, by omega⟩
    rw [if_neg hb]
    simp [hb, hv.undef, hv.cells]
    refine goCall_pure rfl ⟨n, v, xs, rfl, hv, hl, rfl⟩ (by simp) ?_
    simp
    obtain ⟨ns, g, hgd, hg, hgl⟩ : ∃ ns g, g = (if okP n xs then firstV 3 (sols n xs) else .nil) ∧ Sl 3 I g ns ∧ ns.length ≤ 1048577 := by
      obtain ⟨ns, h1, h2⟩ := first_sl (e := 3) (n := n) (cs := xs)
      exact ⟨ns, _, rfl, h1, by omega⟩
    obtain ⟨gm, hgm⟩ : ∃ gm, gm = markV 3 I (markI 1) g ns := ⟨_, rfl⟩
    have hms := markV_sl (m := markI 1) hg
    rw [← hgm] at hms
    have hml : ((List.range ns.length).map (markI 1)).length = ns.length := by simp
    have hmh := markL_ok (k := 1) hml (markL_eq)
    have hcm := markV_sl (m := markC 1) hw
    refine goCall_pure rfl ⟨n, _, xs, rfl, hw, by rw [← hgd]⟩ (by simp) ?_
    simp [hv.undef, hv.cells, hg.undef]
    refine goCall_pure rfl ⟨n, v, xs, rfl, hv, hl, rfl⟩ (by simp) ?_
    simp
    refine goCall_pure rfl ⟨n, _, xs, rfl, hw, by rw [← hgd]⟩ (by simp) ?_
    simp [hv.undef, hv.cells, hg.undef]
    refine goCall_pure rfl ⟨g, g, ns, ns, rfl, hg, hg, rfl⟩ (by simp) ?_
    simp [hv.undef, hv.cells]
    refine goCall_pure rfl ⟨n, v, xs, rfl, hv, hl, rfl⟩ (by simp) ?_
    simp
    refine goCall_pure rfl ⟨n, _, xs, n, _, xs, rfl, hw, hw, rfl⟩ (by simp) ?_
    simp [undefs]
    refine goM_intro (H2 := []) ⟨n, _, xs, 1, rfl, hw, by omega, by omega, by omega, rfl⟩ (by simp) (by simp) ?_
    have hnn : ¬ (1 + 4 * (xs.length : Int)) < 0 := by omega
    simp [hcm.undef, hcm.cells, hnn, hg.undef]
    refine goCall_pure rfl ⟨g, g, ns, ns, rfl, hg, hg, rfl⟩ (by simp) ?_
    simp [hg.undef]
    refine goM_intro (H2 := []) ⟨g, ns, 1, rfl, hg, by omega, by omega, by omega, by rw [← hgm]⟩ (by simp [hg.undef]) hms.undef ?_
    have hq : ¬ (1 + (ns.length : Int)) < 0 := by omega
    simp [hms.undef]
    refine goCall_pure rfl ⟨gm, _, 1, rfl, hms, by omega, by omega, by rw [hml]; omega, rfl⟩ (by simp) ?_
    rw [hmh]
    simp [hq, hv.undef, hv.cells]
    refine goCall_pure rfl ⟨n, v, xs, rfl, hv, hl, rfl⟩ (by simp) ?_
    simp
    refine goCall_pure rfl ⟨n, _, xs, rfl, hw, by rw [← hgd]⟩ (by simp) ?_
    simp [hg.undef]
    refine goCall_pure rfl ⟨g, g, ns, ns, rfl, hg, hg, rfl⟩ (by simp) ?_
    simp [hms.undef]
    refine goCall_pure rfl ⟨gm, _, 1, rfl, hms, by omega, by omega, by rw [hml]; omega, rfl⟩ (by simp) ?_
    rw [hmh]
    simp [hq]
end Go.Proofs.Ytfljbfgceilppaa
