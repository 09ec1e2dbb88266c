/- Nestings: each function does what is told of it; what comes in, by its type. Conditions: none. -/
import Derived.Test.YtnkjbncagnfnoaaVn
import Derived.Test.YtnkjbncagnfnoaaFi
import Derived.Test.YtnkjbncagnfnoaaDenC
import Derived.Test.YtnkjbncagnfnoaaProg
import Derived.KernelRfl
set_option linter.unusedVariables false
set_option linter.unusedSimpArgs false
set_option linter.unnecessarySimpa false
set_option autoImplicit false
set_option linter.unusedVariables false
set_option linter.unusedSimpArgs false
set_option linter.unnecessarySimpa false
namespace Go.Proofs.Ytnkjbncagnfnoaa
open Go.Den
/- spec.neFits -/
def R55 : Rel := fun _ vs _ rs _ => ∃ x y, vs = [pB x, pB y] ∧ rs = [.bool (fitB x y)]
theorem v55 : SpecR Try.prog 55 sg55 R55 := by
  refine fnZ 34 (by kernel_rfl) (fn := Try.f55) (by kernel_rfl) (by kernel_rfl) (k55 R88) (by kernel_rfl) ⟨v88, trivial⟩ ?_
  rintro lim vs H rs H' ⟨x, y, rfl, rfl⟩ - - -
  obtain ⟨p, q, r, h1⟩ := sortB_three x
  obtain ⟨p', q', r', h2⟩ := sortB_three y
  rw [fitB_eq h1 h2]
  simp [c55, l55, List.replicate, pB]
  refine goCall_pure rfl ⟨x, rfl, rfl⟩ (by simp) ?_
  simp
  refine goCall_pure rfl ⟨y, rfl, rfl⟩ (by simp) ?_
  rw [h1, h2]
  by_cases k1 : p < p'
  · by_cases k2 : q < q'
    · simp [k1, k2]
    · simp [k1, k2]
  · simp [k1]
/- spec.FitsTurned -/
def R16 : Rel := fun _ vs _ rs _ => ∃ x y, vs = [pB x, pB y] ∧ rs = [.bool (okB x && okB y && fitB x y), .bool (okB x && okB y)]
theorem v16 : SpecR Try.prog 16 sg16 R16 := by
  refine fnZ 15 (by kernel_rfl) (fn := Try.f16) (by kernel_rfl) (by kernel_rfl) (k16 R54 R55) (by kernel_rfl) ⟨v54, v55, trivial⟩ ?_
  rintro lim vs H rs H' ⟨x, y, rfl, rfl⟩ - - -
  simp [c16, l16, List.replicate, pB]
  refine goCall_pure rfl ⟨x, rfl, rfl⟩ (by simp) ?_
  cases h1 : okB x
  · simp
  · simp
    refine goCall_pure rfl ⟨y, rfl, rfl⟩ (by simp) ?_
    cases h2 : okB y
    · simp
    · simp
      refine goCall_pure rfl ⟨x, y, rfl, rfl⟩ (by simp) ?_
      simp
/- impl.FitsTurned -/
def R18 : Rel := fun _ vs _ rs _ => ∃ x y, vs = [pB x, pB y] ∧ rs = [.bool (okB x && okB y && fitB x y), .bool (okB x && okB y)]
theorem v18 : SpecR Try.prog 18 sg18 R18 := by
  refine fnZ 15 (by kernel_rfl) (fn := Try.f18) (by kernel_rfl) (by kernel_rfl) (k18 R56 R57) (by kernel_rfl) ⟨v56, v57, trivial⟩ ?_
  rintro lim vs H rs H' ⟨x, y, rfl, rfl⟩ - - -
  simp [c18, l18, List.replicate, pB]
  refine goCall_pure rfl ⟨x, rfl, rfl⟩ (by simp) ?_
  cases h1 : okB x
  · simp
  · simp
    refine goCall_pure rfl ⟨y, rfl, rfl⟩ (by simp) ?_
    cases h2 : okB y
    · simp
    · simp
      refine goCall_pure rfl ⟨x, y, rfl, rfl⟩ (by simp) ?_
      simp
end Go.Proofs.Ytnkjbncagnfnoaa
set_option autoImplicit false
set_option linter.unusedVariables false
set_option linter.unusedSimpArgs false
set_option linter.unnecessarySimpa false
namespace Go.Proofs.Ytnkjbncagnfnoaa
open Go.Den
/- laws.szBoxS -/
def R19 : Rel := fun _ vs _ rs _ => ∃ v xs left, vs = [v, I left] ∧ Sl 23 pB v xs ∧ 0 ≤ left ∧ left ≤ 1048576 ∧ rs = [I (if left - (xs.length : Int) < 0 then -1 else left - (xs.length : Int))]
theorem v19 : SpecR Try.prog 19 sg19 R19 := by
  refine fnZ 10 (by kernel_rfl) (fn := Try.f19) (by kernel_rfl) (by kernel_rfl) k19 (by kernel_rfl) trivial ?_
  rintro lim vs H rs H' ⟨v, xs, left, rfl, hv, h0, h1, rfl⟩ - - -
  have hlen := hv.2
  simp [c19, List.replicate, hv.len, wrap_id (show -9223372036854775808 ≤ left - (xs.length : Int) by omega) (show left - (xs.length : Int) ≤ 9223372036854775807 by omega)]
  exact ⟨fun h h' => by omega, fun h h' => by omega⟩
/- laws.toBoxS -/
def R21 : Rel := fun _ vs _ rs _ => ∃ v xs, vs = [v] ∧ Sl 23 pB v xs ∧ xs.length ≤ 1048576 ∧ rs = [.sl 26 (xs.map pB)]
theorem v21 : SpecR Try.prog 21 sg21 R21 := by
  refine fnZ 22 (by kernel_rfl) (fn := Try.f21) (by kernel_rfl) (by kernel_rfl) (k21 R17) (by kernel_rfl) ⟨v17, trivial⟩ ?_
  rintro lim vs H rs H' ⟨v, xs, rfl, hv, hb, rfl⟩ - - -
  have hlen := hv.2
  simp [c21, List.replicate, hv.len]
  rw [if_pos (by omega)]
  simp
  refine goL_intro (fun n σ H'' => ∃ i : Nat, i ≤ xs.length ∧ n = xs.length - i ∧ σ = slots 23 [(0, v), (3, .sl 26 (fillL pB (.agg [I 0, I 0, I 0]) xs i)), (4, I i)]) xs.length ⟨0, by omega, by omega, by simp [slots, List.replicate, fill_zero]⟩ ?_
  rintro n σ H'' ⟨i, hi', rfl, rfl⟩
  simp [slots, List.replicate, hv.len]
  refine ⟨fun hlt => ?_, fun hge => ?_⟩
  · have hset := fill_set (f := pB) (z := (.agg [I 0, I 0, I 0])) hlt
    simp [hv.iadd hlt, hv.elem hlt, l21, fill_len hi', fill_get hlt, fill_getE hlt, hlt]
    refine goCall_pure rfl ⟨xs[i], rfl, rfl⟩ (by simp) ?_
    simp [fill_len hi', fill_get hlt, fill_getE hlt, hlt]
    refine ⟨xs.length - (i + 1), by omega, i + 1, by omega, rfl, ?_, ?_⟩
    · exact hset
    · rw [wrap_id (by omega) (by omega)]; simp
  · simp [fill_all hge]
/- laws.eqBox -/
def R62 : Rel := fun _ vs _ rs _ => ∃ x y, vs = [pB x, pB y] ∧ rs = [.bool (decide (x = y))]
theorem v62 : SpecR Try.prog 62 sg62 R62 := by
  refine fnZ 18 (by kernel_rfl) (fn := Try.f62) (by kernel_rfl) (by kernel_rfl) k62 (by kernel_rfl) trivial ?_
  rintro lim vs H rs H' ⟨⟨a1, a2, a3⟩, ⟨b1, b2, b3⟩, rfl, rfl⟩ - - -
  simp [c62, List.replicate, pB]
  grind
/- laws.eqBoxS -/
def R24 : Rel := fun _ vs _ rs _ => ∃ v w xs ys, vs = [v, w] ∧ Sl 26 pB v xs ∧ Sl 26 pB w ys ∧ rs = [.bool (decide (xs = ys))]
theorem v24 : SpecR Try.prog 24 sg24 R24 := by
  refine fnZ 25 (by kernel_rfl) (fn := Try.f24) (by kernel_rfl) (by kernel_rfl) (k24 R62) (by kernel_rfl) ⟨v62, trivial⟩ ?_
  rintro lim vs H rs H' ⟨v, w, ns, ms, rfl, hv, hw, rfl⟩ - - -
  have hlen := hv.2
  simp [c24, List.replicate, hv.len, hw.len]
  refine ⟨fun h e => h (by rw [e]), fun hle => ?_⟩
  have hle' : ns.length = ms.length := by omega
  refine goL_intro (fun n σ H'' => ∃ i : Nat, i ≤ ns.length ∧ n = ns.length - i ∧ ns.take i = ms.take i ∧ σ = slots 27 [(0, v), (1, w), (5, I i)]) ns.length ⟨0, by omega, by omega, rfl, by simp [slots, List.replicate]⟩ ?_
  rintro n σ H'' ⟨i, hi', rfl, hT, rfl⟩
  simp [slots, List.replicate, hv.len]
  refine ⟨fun hlt => ?_, fun hge => ?_⟩
  · have hlt2 : i < ms.length := by omega
    simp [hv.iadd hlt, hv.elem hlt, hw.iadd hlt2, hw.elem hlt2, l24]
    refine goCall_pure rfl ⟨ns[i], ms[i], rfl, rfl⟩ (by simp) ?_
    simp
    refine ⟨fun hne e => ?_, fun heq => ?_⟩
    · subst e; exact hne rfl
    · refine ⟨ns.length - (i + 1), by omega, i + 1, by omega, rfl, ?_, ?_⟩
      · rw [List.take_succ_eq_append_getElem hlt, List.take_succ_eq_append_getElem hlt2, hT, heq]
      · rw [wrap_id (by omega) (by omega)]; simp
  · rw [List.take_of_length_le hge, List.take_of_length_le (by omega)] at hT
    simpa using hT
/- spec.neAll -/
def R58 : Rel := fun _ vs _ rs _ => ∃ v xs, vs = [v] ∧ Sl 26 pB v xs ∧ rs = [.bool (okBs xs)]
theorem v58 : SpecR Try.prog 58 sg58 R58 := by
  refine fnZ 18 (by kernel_rfl) (fn := Try.f58) (by kernel_rfl) (by kernel_rfl) (k58 R81 R54) (by kernel_rfl) ⟨v81, v54, trivial⟩ ?_
  rintro lim vs H rs H' ⟨v, xs, rfl, hv, rfl⟩ - - -
  have hlen := hv.2
  simp [c58, l58, List.replicate, hv.len]
  refine goCall_pure rfl ⟨_, _, _, rfl, rfl⟩ (by simp) ?_
  cases h1 : inR 1 7 xs.length
  · simp [okBs, h1]
  · simp [hv.len]
    refine goL_intro (fun m σ H'' => ∃ i : Nat, i ≤ xs.length ∧ m = xs.length - i ∧ Before (fun c => !okB c) xs i ∧ σ = slots 19 [(9, v), (10, I xs.length), (11, I i)]) xs.length ⟨0, by omega, by omega, Before.zero, by simp [slots, List.replicate]⟩ ?_
    rintro m σ H'' ⟨i, hi', rfl, hall, rfl⟩
    simp [slots, List.replicate]
    refine ⟨fun hlt => ?_, fun hge => ?_⟩
    · simp [hv.iadd hlt, hv.elem hlt]
      refine goCall_pure rfl ⟨xs[i], rfl, rfl⟩ (by simp) ?_
      simp
      refine ⟨fun h => ?_, fun h => ⟨xs.length - (i + 1), by omega, i + 1, by omega, rfl, hall.succ hlt (by simp [h]), ?_⟩⟩
      · have : xs.all okB = false := List.all_eq_false.2 ⟨_, List.getElem_mem hlt, by simp [h]⟩
        simp [okBs, this]
      · rw [wrap_id (by omega) (by omega)]; simp
    · have := hall.all hge
      simp only [Bool.not_not] at this
      simp [okBs, h1, this]
/- spec.l1Has -/
def R104 : Rel := fun _ vs _ rs _ => ∃ v ns k, vs = [v, I k] ∧ Sl 3 I v ns ∧ rs = [.bool (ns.contains k)]
theorem v104 : SpecR Try.prog 104 sg104 R104 := by
  refine fnZ 15 (by kernel_rfl) (fn := Try.f104) (by kernel_rfl) (by kernel_rfl) k104 (by kernel_rfl) trivial ?_
  rintro lim vs H rs H' ⟨v, ns, k, rfl, hv, rfl⟩ - - -
  have hlen := hv.2
  simp [c104, List.replicate, hv.len]
  refine goL_intro (fun m σ H'' => ∃ i : Nat, i ≤ ns.length ∧ m = ns.length - i ∧ Before (fun n => n == k) ns i ∧ σ = slots 17 [(1, I k), (7, v), (8, I ns.length), (9, I i)]) ns.length ⟨0, by omega, by omega, Before.zero, by simp [slots, List.replicate]⟩ ?_
  rintro m σ H'' ⟨i, hi', rfl, hall, rfl⟩
  simp [slots, List.replicate]
  refine ⟨fun hlt => ?_, fun hge => ?_⟩
  · simp [hv.iadd hlt, hv.elem hlt]
    refine ⟨fun h => ?_, fun h => ⟨ns.length - (i + 1), by omega, i + 1, by omega, rfl, hall.succ hlt (by simp [h]), ?_⟩⟩
    · rw [← h]; exact List.getElem_mem hlt
    · rw [wrap_id (by omega) (by omega)]; simp
  · have := hall.all hge
    simp only [List.all_eq_true] at this
    intro hm
    have := this k hm
    simp at this
/- spec.neFree -/
def R94 : Rel := fun _ vs _ rs _ => ∃ v xs w pre, ∃ i : Nat, ∃ k, vs = [v, w, I i, I k] ∧ Sl 26 pB v xs ∧ Sl 3 I w pre ∧ i < xs.length ∧ k < xs.length ∧ rs = [.bool (freeN xs pre i k)]
theorem v94 : SpecR Try.prog 94 sg94 R94 := by
  refine fnZ 24 (by kernel_rfl) (fn := Try.f94) (by kernel_rfl) (by kernel_rfl) (k94 R55 R104) (by kernel_rfl) ⟨v55, v104, trivial⟩ ?_
  rintro lim vs H rs H' ⟨v, xs, w, pre, i, k, rfl, hv, hw, hi, hk, rfl⟩ - - -
  by_cases hn : k < 0
  · simp [c94, l94, List.replicate, hn, freeN]
  · obtain ⟨j, hj, rfl⟩ : ∃ j : Nat, j < xs.length ∧ k = j := ⟨k.toNat, by omega, by omega⟩
    have e1 : xs.getD i zB = xs[i] := getD_nat hi
    have e2 : xs.getD j zB = xs[j] := getD_nat hj
    simp [c94, l94, List.replicate, hv.undef, hv.iadd hi, hv.elem hi, hv.iadd hj, hv.elem hj]
    refine goCall_pure rfl ⟨xs[i], xs[j], rfl, rfl⟩ (by simp) ?_
    cases hf : fitB xs[i] xs[j]
    · simp [freeN, hi, hj, hf, hn]
    · simp [hw.undef]
      refine goCall_pure rfl ⟨w, pre, j, rfl, hw, rfl⟩ (by simp) ?_
      simp [freeN, hi, hj, hf, hn]
end Go.Proofs.Ytnkjbncagnfnoaa
set_option autoImplicit false
set_option linter.unusedVariables false
set_option linter.unusedSimpArgs false
set_option linter.unnecessarySimpa false
namespace Go.Proofs.Ytnkjbncagnfnoaa
open Go.Den
/- spec.neIs -/
def R59 : Rel := fun _ vs _ rs _ => ∃ v xs w plan, vs = [v, w] ∧ Sl 26 pB v xs ∧ Sl 3 I w plan ∧ xs.length ≤ 1048576 ∧ rs = [.bool (nestOk xs plan)]
set_option maxHeartbeats 4000000 in
theorem v59 : SpecR Try.prog 59 sg59 R59 := by
  refine fnZ 34 (by kernel_rfl) (fn := Try.f59) (by kernel_rfl) (by kernel_rfl) (k59 R81 R94) (by kernel_rfl) ⟨v81, v94, trivial⟩ ?_
  rintro lim vs H rs H' ⟨v, xs, w, plan, rfl, hv, hw, hb, rfl⟩ - - -
  have hlen := hw.2
  by_cases hl : plan.length = xs.length
  · have hl' : (plan.length : Int) = xs.length := by omega
    have hwl : IntKind.i64.wrap ((xs.length : Int) - 1) = (xs.length : Int) - 1 := wrap_id (by omega) (by omega)
    simp [c59, l59, List.replicate, hv.len, hw.len, hl]
    refine goL_intro (fun m σ H'' => ∃ i : Nat, i ≤ xs.length ∧ m = xs.length - i ∧ (∀ j, j < i → (inR (-1) (xs.length - 1) (plan.getD j 0) && freeN xs (plan.take j) j (plan.getD j 0)) = true) ∧ Gar 36 [(0, v), (1, w), (12, w), (13, I xs.length), (14, I i)] σ) xs.length ⟨0, by omega, by omega, by omega, .intro (by simp) (by simp)⟩ ?_
    rintro m σ H'' ⟨i, hi', rfl, hall, us, rfl⟩
    simp [gar, List.range, List.range.loop]
    refine ⟨fun hlt => ?_, fun hge => ?_⟩
    · have hlt2 : i < plan.length := by omega
      have e1 : plan.getD i 0 = plan[i] := getD_nat hlt2
      obtain ⟨su, hs1, hs2⟩ := hw.sliU (r := i) (by omega)
      have hwi : IntKind.i64.wrap ((i : Int) + 1) = (i : Int) + 1 := wrap_id (by omega) (by omega)
      simp [hw.iadd hlt2, hw.elem hlt2, hv.len, hwl]
      refine goCall_pure rfl ⟨_, _, _, rfl, rfl⟩ (by simp) ?_
      cases h1 : inR (-1) (xs.length - 1) plan[i]
      · simp
        rw [nestOk_false hlt2 (by rw [e1, h1]; rfl)]
      · have h1' : -1 ≤ plan[i] ∧ plan[i] ≤ (xs.length : Int) - 1 := by simpa [inR] using h1
        simp [hv.undef, hw.undef, hs1, hs2.undef]
        refine goCall_pure rfl ⟨v, xs, su, plan.take i, i, plan[i], rfl, hv, hs2, hlt, by omega, rfl⟩ (by simp) ?_
        cases h2 : freeN xs (plan.take i) i plan[i]
        · simp
          rw [nestOk_false hlt2 (by rw [e1, h1, h2]; rfl)]
        · simp [hwi]
          refine ⟨xs.length - (i + 1), by omega, i + 1, by omega, rfl, fun j hj => ?_, .intro (by simp) (by simp)⟩
          rcases Nat.lt_or_ge j i with h | h
          · simpa using hall j h
          · obtain rfl : j = i := by omega
            have := e1
            simp [hlt2, h1, h2]
    · obtain rfl : i = xs.length := by omega
      rw [nestOk_true hl (by rw [hl]; exact hall)]
  · have hl' : ¬ (plan.length : Int) = xs.length := by omega
    have : nestOk xs plan = false := by simp [nestOk, hl]
    simp [c59, l59, List.replicate, hv.len, hw.len, hl', hl, this]
/- spec.IsNesting -/
def R20 : Rel := fun _ vs _ rs _ => ∃ v xs w plan, vs = [v, w] ∧ Sl 26 pB v xs ∧ Sl 3 I w plan ∧ rs = [.bool (okBs xs && nestOk xs plan), .bool (okBs xs)]
theorem v20 : SpecR Try.prog 20 sg20 R20 := by
  refine fnZ 10 (by kernel_rfl) (fn := Try.f20) (by kernel_rfl) (by kernel_rfl) (k20 R58 R59) (by kernel_rfl) ⟨v58, v59, trivial⟩ ?_
  rintro lim vs H rs H' ⟨v, xs, w, plan, rfl, hv, hw, rfl⟩ - - -
  simp [c20, l20, List.replicate]
  refine goCall_pure rfl ⟨v, xs, rfl, hv, rfl⟩ (by simp) ?_
  cases h : okBs xs
  · simp
  · obtain ⟨h1, h2, _⟩ := okBs_spec h
    simp
    refine goCall_pure rfl ⟨v, xs, w, plan, rfl, hv, hw, by omega, rfl⟩ (by simp) ?_
    simp
/- impl.AreBoxes$1 -/
def R96 : Rel := fun _ vs _ rs _ => ∃ x, vs = [pB x] ∧ rs = [.bool (!okB x)]
theorem v96 : SpecR Try.prog 96 sg96 R96 := by
  refine fnZ 5 (by kernel_rfl) (fn := Try.f96) (by kernel_rfl) (by kernel_rfl) (k96 R56) (by kernel_rfl) ⟨v56, trivial⟩ ?_
  rintro lim vs H rs H' ⟨x, rfl, rfl⟩ - - -
  simp [c96, l96, List.replicate, pB]
  refine goCall_pure rfl ⟨x, rfl, rfl⟩ (by simp) ?_
  simp
/- slices.IndexFunc[[]impl.Box,impl.Box] -/
def R105 : Rel := fun _ vs _ rs _ => ∃ v xs, vs = [v, .fn 96 []] ∧ Sl 26 pB v xs ∧ rs = [I (idx (fun x => !okB x) xs)]
theorem v105 : SpecR Try.prog 105 sg105 R105 := by
  refine fnZ 17 (by kernel_rfl) (fn := Try.f105) (by kernel_rfl) (by kernel_rfl) (k105 R96) (by kernel_rfl) ⟨v96, trivial⟩ ?_
  rintro lim vs H rs H' ⟨v, xs, rfl, hv, rfl⟩ - - -
  have hlen := hv.2
  simp [c105, List.replicate, hv.len]
  refine goL_intro (fun m σ H'' => ∃ i : Nat, i ≤ xs.length ∧ m = xs.length - i ∧ Before (fun x => !okB x) xs i ∧ σ = slots 19 [(0, v), (1, .fn 96 []), (7, I xs.length), (8, I i)] ∧ H'' = H) xs.length ⟨0, by omega, by omega, Before.zero, by simp [slots, List.replicate], rfl⟩ ?_
  rintro m σ H'' ⟨i, hi', rfl, hall, rfl, rfl⟩
  simp [slots, List.replicate]
  refine ⟨fun hlt => ?_, fun hge => ?_⟩
  · simp [hv.iadd hlt, hv.elem hlt, l105]
    refine goCall_pure rfl ⟨xs[i], rfl, rfl⟩ (by simp) ?_
    simp
    refine ⟨fun h => ?_, fun h => ⟨xs.length - (i + 1), by omega, i + 1, by omega, rfl, hall.succ hlt (by simp [h]), ?_⟩⟩
    · rw [hall.idx hlt (by simp [h])]
    · rw [wrap_id (by omega) (by omega)]; simp
  · simp [hall.none hge]
/- slices.ContainsFunc[[]impl.Box,impl.Box] -/
def R95 : Rel := fun _ vs _ rs _ => ∃ v xs, vs = [v, .fn 96 []] ∧ Sl 26 pB v xs ∧ rs = [.bool (!xs.all okB)]
theorem v95 : SpecR Try.prog 95 sg95 R95 := by
  refine fnZ 7 (by kernel_rfl) (fn := Try.f95) (by kernel_rfl) (by kernel_rfl) (k95 R105) (by kernel_rfl) ⟨v105, trivial⟩ ?_
  rintro lim vs H rs H' ⟨v, xs, rfl, hv, rfl⟩ - - -
  simp [c95, l95, List.replicate]
  refine goCall_pure rfl ⟨v, xs, rfl, hv, rfl⟩ (by simp) ?_
  simp [idx_ge, List.not_all_eq_any_not]
/- impl.AreBoxes -/
def R60 : Rel := fun _ vs _ rs _ => ∃ v xs, vs = [v] ∧ Sl 26 pB v xs ∧ rs = [.bool (okBs xs)]
theorem v60 : SpecR Try.prog 60 sg60 R60 := by
  refine fnZ 10 (by kernel_rfl) (fn := Try.f60) (by kernel_rfl) (by kernel_rfl) (k60 R83 R95) (by kernel_rfl) ⟨v83, v95, trivial⟩ ?_
  rintro lim vs H rs H' ⟨v, xs, rfl, hv, rfl⟩ - - -
  simp [c60, l60, List.replicate, hv.len]
  refine goCall_pure rfl ⟨_, _, _, rfl, rfl⟩ (by simp) ?_
  cases h1 : inR 1 7 xs.length
  · simp [okBs, h1]
  · simp [hv.undef]
    refine goCall_pure rfl ⟨v, xs, rfl, hv, rfl⟩ (by simp) ?_
    simp [okBs, h1]
/- slices.Index[[]int,int] -/
def R84 : Rel := fun _ vs _ rs _ => ∃ v ns k, vs = [v, I k] ∧ Sl 3 I v ns ∧ rs = [I (idx (fun n => n == k) ns)]
theorem v84 : SpecR Try.prog 84 sg84 R84 := by
  refine fnZ 17 (by kernel_rfl) (fn := Try.f84) (by kernel_rfl) (by kernel_rfl) k84 (by kernel_rfl) trivial ?_
  rintro lim vs H rs H' ⟨v, ns, k, rfl, hv, rfl⟩ - - -
  have hlen := hv.2
  simp [c84, List.replicate, hv.len]
  refine goL_intro (fun m σ H'' => ∃ i : Nat, i ≤ ns.length ∧ m = ns.length - i ∧ Before (fun n => n == k) ns i ∧ σ = slots 19 [(0, v), (1, I k), (7, I ns.length), (8, I i)]) ns.length ⟨0, by omega, by omega, Before.zero, by simp [slots, List.replicate]⟩ ?_
  rintro m σ H'' ⟨i, hi', rfl, hall, rfl⟩
  simp [slots, List.replicate]
  refine ⟨fun hlt => ?_, fun hge => ?_⟩
  · simp [hv.iadd hlt, hv.elem hlt]
    refine ⟨fun h => ?_, fun h => ⟨ns.length - (i + 1), by omega, i + 1, by omega, rfl, hall.succ hlt (by simp; exact fun e => h e.symm), ?_⟩⟩
    · rw [hall.idx hlt (by simp [h])]
    · rw [wrap_id (by omega) (by omega)]; simp
  · simp [hall.none hge]
/- slices.Contains[[]int,int] -/
def R86 : Rel := fun _ vs _ rs _ => ∃ v ns k, vs = [v, I k] ∧ Sl 3 I v ns ∧ rs = [.bool (ns.contains k)]
theorem v86 : SpecR Try.prog 86 sg86 R86 := by
  refine fnZ 7 (by kernel_rfl) (fn := Try.f86) (by kernel_rfl) (by kernel_rfl) (k86 R84) (by kernel_rfl) ⟨v84, trivial⟩ ?_
  rintro lim vs H rs H' ⟨v, ns, k, rfl, hv, rfl⟩ - - -
  simp only [← idx_has]
  simp [c86, l86, List.replicate]
  refine goCall_pure rfl ⟨v, ns, k, rfl, hv, rfl⟩ (by simp) ?_
  simp
/- impl.isNesting -/
def R61 : Rel := fun _ vs _ rs _ => ∃ v xs w plan, vs = [v, w] ∧ Sl 26 pB v xs ∧ Sl 3 I w plan ∧ xs.length ≤ 1048576 ∧ rs = [.bool (nestOk xs plan)]
set_option maxHeartbeats 8000000 in
theorem v61 : SpecR Try.prog 61 sg61 R61 := by
  refine fnZ 47 (by kernel_rfl) (fn := Try.f61) (by kernel_rfl) (by kernel_rfl) (k61 R89 R57 R86) (by kernel_rfl) ⟨v89, v57, v86, trivial⟩ ?_
  rintro lim vs H rs H' ⟨v, xs, w, plan, rfl, hv, hw, hb, rfl⟩ - - -
  have hlen := hw.2
  by_cases hl : plan.length = xs.length
  · have hl' : (plan.length : Int) = xs.length := by omega
    have hwl : IntKind.i64.wrap ((xs.length : Int) - 1) = (xs.length : Int) - 1 := wrap_id (by omega) (by omega)
    simp [c61, l61, List.replicate, hv.len, hw.len, hl, hwl, hv.undef, hw.undef]
    refine goCall_pure rfl ⟨w, plan, _, _, rfl, hw, rfl⟩ (by simp) ?_
    cases hall0 : plan.all (inR (-1) (xs.length - 1))
    · obtain ⟨x, hx, hxf⟩ := List.all_eq_false.1 hall0
      obtain ⟨i, hi, rfl⟩ := List.getElem_of_mem hx
      have hxf' : inR (-1) (xs.length - 1) plan[i] = false := by simpa using hxf
      simp
      rw [nestOk_false hi (by rw [getD_nat hi, hxf']; rfl)]
    · have hin : ∀ i (h : i < plan.length), inR (-1) (xs.length - 1) plan[i] = true := fun i h => List.all_eq_true.1 hall0 _ (List.getElem_mem h)
      simp [hw.len, hw.undef]
      refine goL_intro (fun m σ H'' => ∃ i : Nat, i ≤ plan.length ∧ m = plan.length - i ∧ (∀ j, j < i → freeN xs (plan.take j) j (plan.getD j 0) = true) ∧ Gar 49 [(0, v), (1, w), (20, w), (21, I plan.length), (22, I i)] σ) plan.length ⟨0, by omega, by omega, by omega, .intro (by simp) (by simp [hl])⟩ ?_
      rintro m σ H'' ⟨i, hi', rfl, hall, us, rfl⟩
      simp [gar, List.range, List.range.loop]
      refine ⟨fun hlt => ?_, fun hge => ?_⟩
      · have e1 : plan.getD i 0 = plan[i] := getD_nat hlt
        have h1 := hin i hlt
        have h1' : -1 ≤ plan[i] ∧ plan[i] ≤ (xs.length : Int) - 1 := by simpa [inR] using h1
        have hlt2 : i < xs.length := by omega
        obtain ⟨su, hs1, hs2⟩ := hw.sliU (r := i) (by omega)
        have hwi : IntKind.i64.wrap ((i : Int) + 1) = (i : Int) + 1 := wrap_id (by omega) (by omega)
        have next : freeN xs (plan.take i) i plan[i] = true → ∀ j, j < i + 1 → freeN xs (plan.take j) j (plan.getD j 0) = true := fun h2 j hj => by
          rcases Nat.lt_or_ge j i with h | h
          · exact hall j h
          · obtain rfl : j = i := by omega
            rw [e1]; exact h2
        by_cases hn : 0 ≤ plan[i]
        · obtain ⟨k, hk, hke⟩ : ∃ k : Nat, k < xs.length ∧ plan[i] = k := ⟨plan[i].toNat, by omega, by omega⟩
          have hfr : freeN xs (plan.take i) i plan[i] = (fitB xs[i] xs[k] && !(plan.take i).contains plan[i]) := by
            rw [hke]; simp [freeN, hlt2, hk, show ¬ ((k : Int) < 0) by omega]
          simp [hw.iadd hlt, hw.elem hlt, hke, hv.undef, hv.iadd hlt2, hv.elem hlt2, hv.iadd hk, hv.elem hk]
          refine goCall_pure rfl ⟨xs[i], xs[k], rfl, rfl⟩ (by simp) ?_
          cases hf : fitB xs[i] xs[k]
          · simp
            rw [nestOk_false hlt (by rw [e1, hfr, hf]; simp)]
          · simp [hw.undef, hs1, hs2.undef]
            refine goCall_pure rfl ⟨su, plan.take i, k, rfl, hs2, rfl⟩ (by simp) ?_
            cases hc : (plan.take i).contains (k : Int)
            · have h2 : freeN xs (plan.take i) i plan[i] = true := by rw [hfr, hf, hke, hc]; rfl
              simp [hwi]
              exact ⟨plan.length - (i + 1), by omega, i + 1, by omega, rfl, by simpa using next h2, .intro (by simp) (by simp)⟩
            · simp
              rw [nestOk_false hlt (by rw [e1, hfr, hf, hke, hc]; simp)]
        · have h2 : freeN xs (plan.take i) i plan[i] = true := by simp [freeN, show plan[i] < 0 by omega]
          simp [hw.iadd hlt, hw.elem hlt, hn, hwi]
          exact ⟨plan.length - (i + 1), by omega, i + 1, by omega, rfl, by simpa using next h2, .intro (by simp) (by simp)⟩
      · obtain rfl : i = plan.length := by omega
        rw [nestOk_true hl (fun j hj => by rw [getD_nat hj, hin j hj, ← getD_nat (z := 0) hj, hall j hj]; rfl)]
  · have hl' : ¬ (plan.length : Int) = xs.length := by omega
    have : nestOk xs plan = false := by simp [nestOk, hl]
    simp [c61, l61, List.replicate, hv.len, hw.len, hl', hl, this]
/- impl.IsNesting -/
def R23 : Rel := fun _ vs _ rs _ => ∃ v xs w plan, vs = [v, w] ∧ Sl 26 pB v xs ∧ Sl 3 I w plan ∧ rs = [.bool (okBs xs && nestOk xs plan), .bool (okBs xs)]
theorem v23 : SpecR Try.prog 23 sg23 R23 := by
  refine fnZ 10 (by kernel_rfl) (fn := Try.f23) (by kernel_rfl) (by kernel_rfl) (k23 R60 R61) (by kernel_rfl) ⟨v60, v61, trivial⟩ ?_
  rintro lim vs H rs H' ⟨v, xs, w, plan, rfl, hv, hw, rfl⟩ - - -
  simp [c23, l23, List.replicate]
  refine goCall_pure rfl ⟨v, xs, rfl, hv, rfl⟩ (by simp) ?_
  cases h : okBs xs
  · simp
  · obtain ⟨h1, h2, _⟩ := okBs_spec h
    simp
    refine goCall_pure rfl ⟨v, xs, w, plan, rfl, hv, hw, by omega, rfl⟩ (by simp) ?_
    simp
end Go.Proofs.Ytnkjbncagnfnoaa
set_option autoImplicit false
set_option linter.unusedVariables false
set_option linter.unusedSimpArgs false
set_option linter.unnecessarySimpa false
namespace Go.Proofs.Ytnkjbncagnfnoaa
open Go.Den
/- laws.toIntS -/
def R22 : Rel := fun _ vs _ rs _ => ∃ v ns, vs = [v] ∧ Sl 3 I v ns ∧ ns.length ≤ 1048576 ∧ rs = [.sl 3 (ns.map I)]
theorem v22 : SpecR Try.prog 22 sg22 R22 := by
  refine fnZ 21 (by kernel_rfl) (fn := Try.f22) (by kernel_rfl) (by kernel_rfl) k22 (by kernel_rfl) trivial ?_
  rintro lim vs H rs H' ⟨v, ns, rfl, hv, hb, rfl⟩ - - -
  have hlen := hv.2
  simp [c22, List.replicate, hv.len]
  rw [if_pos (by omega)]
  simp
  refine goL_intro (fun n σ H'' => ∃ i : Nat, i ≤ ns.length ∧ n = ns.length - i ∧ σ = slots 22 [(0, v), (3, .sl 3 (fillL I (I 0) ns i)), (4, I i)]) ns.length ⟨0, by omega, by omega, by simp [slots, List.replicate, fill_zero]⟩ ?_
  rintro n σ H'' ⟨i, hi', rfl, rfl⟩
  simp [slots, List.replicate, hv.len]
  refine ⟨fun hlt => ?_, fun hge => ?_⟩
  · have hset := fill_set (f := I) (z := (I 0)) hlt
    simp [hv.iadd hlt, hv.elem hlt, fill_len hi', fill_get hlt, fill_getE hlt, hlt]
    refine ⟨ns.length - (i + 1), by omega, i + 1, by omega, rfl, ?_, ?_⟩
    · exact hset
    · rw [wrap_id (by omega) (by omega)]; simp
  · simp [fill_all hge]
/- laws.eqIntS -/
def R25 : Rel := fun _ vs _ rs _ => ∃ v w ns ms, vs = [v, w] ∧ Sl 3 I v ns ∧ Sl 3 I w ms ∧ rs = [.bool (decide (ns = ms))]
theorem v25 : SpecR Try.prog 25 sg25 R25 := by
  refine fnZ 24 (by kernel_rfl) (fn := Try.f25) (by kernel_rfl) (by kernel_rfl) k25 (by kernel_rfl) trivial ?_
  rintro lim vs H rs H' ⟨v, w, ns, ms, rfl, hv, hw, rfl⟩ - - -
  have hlen := hv.2
  simp [c25, List.replicate, hv.len, hw.len]
  refine ⟨fun h e => h (by rw [e]), fun hle => ?_⟩
  have hle' : ns.length = ms.length := by omega
  refine goL_intro (fun n σ H'' => ∃ i : Nat, i ≤ ns.length ∧ n = ns.length - i ∧ ns.take i = ms.take i ∧ σ = slots 26 [(0, v), (1, w), (5, I i)]) ns.length ⟨0, by omega, by omega, rfl, by simp [slots, List.replicate]⟩ ?_
  rintro n σ H'' ⟨i, hi', rfl, hT, rfl⟩
  simp [slots, List.replicate, hv.len]
  refine ⟨fun hlt => ?_, fun hge => ?_⟩
  · have hlt2 : i < ms.length := by omega
    simp [hv.iadd hlt, hv.elem hlt, hw.iadd hlt2, hw.elem hlt2]
    refine ⟨fun hne e => ?_, fun heq => ?_⟩
    · subst e; exact hne rfl
    · refine ⟨ns.length - (i + 1), by omega, i + 1, by omega, rfl, ?_, ?_⟩
      · rw [List.take_succ_eq_append_getElem hlt, List.take_succ_eq_append_getElem hlt2, hT, heq]
      · rw [wrap_id (by omega) (by omega)]; simp
  · rw [List.take_of_length_le hge, List.take_of_length_le (by omega)] at hT
    simpa using hT
/- laws.FnExactIsNesting -/
def R4 : Rel := fun _ vs _ rs _ => ∃ v xs w plan, vs = [v, w] ∧ Sl 23 pB v xs ∧ Sl 3 I w plan ∧ rs = [.bool true]
set_option maxHeartbeats 4000000 in
theorem v4 : SpecR Try.prog 4 sg4 R4 := by
  refine fnZ 54 (by kernel_rfl) (fn := Try.f4) (by kernel_rfl) (by kernel_rfl) (k4 R19 R21 R22 R20 R23 R24 R25) (by kernel_rfl) ⟨v19, v21, v22, v20, v23, v24, v25, trivial⟩ ?_
  rintro lim vs H rs H' ⟨v, xs, w, plan, rfl, hv, hw, rfl⟩ - - -
  by_cases hp : (1048576 : Int) < plan.length
  · simp [c4, l4, List.replicate, hw.len, hp]
  · have hpl : plan.length ≤ 1048576 := by omega
    simp [c4, l4, List.replicate, hw.len, hp]
    refine goCall_pure rfl ⟨v, xs, _, rfl, hv, by omega, by omega, rfl⟩ (by simp) ?_
    by_cases hb : 1048576 - (xs.length : Int) < 0
    · simp [hb]
    · have hl : xs.length ≤ 1048576 := by omega
      have hx : Sl 26 pB (.sl 26 (xs.map pB)) xs := ⟨.inl rfl, by omega⟩
      have hy : Sl 3 I (.sl 3 (plan.map I)) plan := ⟨.inl rfl, by omega⟩
      rw [if_neg hb]
      simp [hb]
      refine goCall_pure rfl ⟨v, xs, rfl, hv, hl, rfl⟩ (by simp) ?_
      simp
      refine goCall_pure rfl ⟨w, plan, rfl, hw, hpl, rfl⟩ (by simp) ?_
      simp
      refine goCall_pure rfl ⟨_, xs, _, plan, rfl, hx, hy, rfl⟩ (by simp) ?_
      simp
      refine goCall_pure rfl ⟨v, xs, rfl, hv, hl, rfl⟩ (by simp) ?_
      simp
      refine goCall_pure rfl ⟨w, plan, rfl, hw, hpl, rfl⟩ (by simp) ?_
      simp
      refine goCall_pure rfl ⟨_, xs, _, plan, rfl, hx, hy, rfl⟩ (by simp) ?_
      simp
      refine goCall_pure rfl ⟨v, xs, rfl, hv, hl, rfl⟩ (by simp) ?_
      simp
      refine goCall_pure rfl ⟨_, _, xs, xs, rfl, hx, hx, rfl⟩ (by simp) ?_
      simp
      refine goCall_pure rfl ⟨w, plan, rfl, hw, hpl, rfl⟩ (by simp) ?_
      simp
      refine goCall_pure rfl ⟨_, _, plan, plan, rfl, hy, hy, rfl⟩ (by simp) ?_
      simp
end Go.Proofs.Ytnkjbncagnfnoaa
/- What comes in, by its type. Conditions: none. -/
set_option autoImplicit false
set_option linter.unusedVariables false
namespace Go.Proofs.Ytnkjbncagnfnoaa
open Go.Den Go.ChangeShapes Go.WideShapes Go.ChangeAt Go.RowKit

theorem toSl {α : Type} {e : Nat} {f : α → PV} {agg : Bool} {Q : List PV → Prop} {v : PV} {xs : List (List PV)} (hq : ∀ x, Q x → ∃ a : α, mkEl agg x = f a) (h : v = .nil ∧ xs = [] ∨ v = .sl e (xs.map (mkEl agg))) (hl : xs.length ≤ 9223372036854775807) (hx : ∀ x ∈ xs, Q x) : ∃ ns, Sl e f v ns := by
  have key : ∀ xs : List (List PV), (∀ x ∈ xs, Q x) → ∃ ns : List α, xs.map (mkEl agg) = ns.map f := by
    intro xs
    induction xs with
    | nil => intro _; exact ⟨[], rfl⟩
    | cons x xs ih =>
      intro hx
      obtain ⟨ns, h1⟩ := ih fun y hy => hx y (by simp [hy])
      obtain ⟨a, h2⟩ := hq x (hx x (by simp))
      exact ⟨a :: ns, by simp [h1, h2]⟩
  rcases h with ⟨rfl, rfl⟩ | rfl
  · exact ⟨[], .inr ⟨rfl, rfl⟩, by simp⟩
  · obtain ⟨ns, h1⟩ := key xs hx
    have : ns.length = xs.length := by have := congrArg List.length h1; simpa using this.symm
    exact ⟨ns, .inl (by rw [h1]), by omega⟩

theorem cells3 : Try.prog.cellsOf 3 = 1 := by kernel_rfl
theorem oI {need : Bool} : Opens need Try.prog 3 1 (fun vs => ∃ n, vs = [I n]) := (Opens.int Try.underlying3 cells3).mono fun _ ⟨n, h, _⟩ => ⟨n, h⟩
set_option maxRecDepth 100000 in
theorem intArg {W : World} {base : Nat} {n : Int} {v : Value} (hv : Value.okWide Try.prog W .any base 3 v) (hrc : RC Try.prog W [I n] v.cells.toList) : R Try.prog W .rep (fun _ => False) (I n) v := by
  have := hrc.2 0 (by simp)
  have key : R Try.prog W .rep (fun k => k < W.heap.size) (I n) v → R Try.prog W .rep (fun _ => False) (I n) v := fun h => by
    cases h with
    | flat h => exact .flat h
  cases v
  case agg a =>
    exfalso
    unfold Value.okWide at hv
    rw [Try.underlying3] at hv
    simp [Cell.okWide] at hv
    unfold Cell.ok at hv
    rw [Try.underlying3] at hv
    simp at hv
  all_goals exact key this
theorem oIs : Opens true Try.prog 30 1 (fun vs => ∃ v ns, vs = [v] ∧ Sl 3 I v ns) :=
  (Opens.sl false oI Try.underlying30 (by kernel_rfl) (by omega) (fun _ => ⟨rfl, fun vs ⟨n, h⟩ => by rw [h]; rfl⟩)).mono fun vs ⟨v, xs, h1, h2, h3, h4⟩ => by
    obtain ⟨ns, hs⟩ := toSl (f := I) (fun x ⟨n, h⟩ => ⟨n, by rw [h]; rfl⟩) h2 h3 h4
    exact ⟨v, ns, h1, hs⟩
theorem oB : Opens false Try.prog 23 3 (fun vs => ∃ b : B3, vs = [I b.a, I b.b, I b.c]) := (Opens.st3 Try.underlying23 (by kernel_rfl) oI oI oI rfl rfl rfl).mono fun vs ⟨a, b, c, h, ⟨n0, h0⟩, ⟨n1, h1⟩, ⟨n2, h2⟩⟩ => ⟨⟨n0, n1, n2⟩, by rw [h, h0, h1, h2]; rfl⟩
theorem oBs : Opens true Try.prog 29 1 (fun vs => ∃ v ns, vs = [v] ∧ Sl 23 pB v ns) :=
  (Opens.sl true oB Try.underlying29 (by kernel_rfl) (by omega) (fun h => by cases h)).mono fun vs ⟨v, xs, h1, h2, h3, h4⟩ => by
    obtain ⟨ns, hs⟩ := toSl (f := pB) (fun x ⟨n, h⟩ => ⟨n, by rw [h]; rfl⟩) h2 h3 h4
    exact ⟨v, ns, h1, hs⟩
theorem own : ownKnob Try.prog.godebug = none := by kernel_rfl
theorem laidOut : laidOutB Try.prog = true := by kernel_rfl
end Go.Proofs.Ytnkjbncagnfnoaa
