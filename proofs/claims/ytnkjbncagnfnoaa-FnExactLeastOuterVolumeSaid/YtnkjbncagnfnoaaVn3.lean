/- Outer boxes, and boxes taken out: each function does what is told of it. Conditions: none. -/
import Derived.Test.YtnkjbncagnfnoaaVn2
import Derived.Test.YtnkjbncagnfnoaaDenD
set_option linter.unusedVariables false
set_option linter.unusedSimpArgs false
set_option linter.unnecessarySimpa false
set_option autoImplicit false
set_option linter.unusedVariables false
set_option linter.unusedSimpArgs false
set_option linter.unnecessarySimpa false
namespace Go.Proofs.Ytnkjbncagnfnoaa
open Go.Den
/- laws.markIntS -/
def R29 : Rel := fun _ vs _ rs _ => ∃ v ns k, vs = [v, I k] ∧ Sl 3 I v ns ∧ 0 ≤ k ∧ k ≤ 1125899906842624 ∧ ns.length ≤ 1125899906842624 ∧ rs = [I (k + ns.length), markV 3 I (markI k) v ns]
theorem v29 : SpecR Try.prog 29 sg29 R29 := by
  refine fnZ 17 (by kernel_rfl) (fn := Try.f29) (by kernel_rfl) (by kernel_rfl) k29 (by kernel_rfl) trivial ?_
  rintro lim vs H rs H' ⟨v, ns, k, rfl, hv, h0, h1, h2, rfl⟩ - - -
  simp [c29, List.replicate]
  refine goL_intro (fun n σ H'' => ∃ i : Nat, ∃ w, i ≤ ns.length ∧ n = ns.length - i ∧ Sl 3 I w (halfL (markI k) ns i) ∧ (i = 0 → w = v) ∧ σ = slots 19 [(0, w), (1, I (k + i)), (5, I i)]) ns.length ⟨0, v, by omega, by omega, by rw [half_zero]; exact hv, fun _ => rfl, by simp [slots, List.replicate]⟩ ?_
  rintro n σ H'' ⟨i, w, hi', rfl, hw, hw0, rfl⟩
  have hhl := half_len (m := markI k) (xs := ns) hi'
  simp [slots, List.replicate, hw.len, hhl]
  refine ⟨fun hlt => ?_, fun hge => ?_⟩
  · have hne : halfL (markI k) ns i ≠ [] := by rintro h; rw [h] at hhl; simp at hhl; omega
    obtain rfl := hw.sl_of hne
    have hi2 : i < (halfL (markI k) ns i).length := by omega
    have hw1 : IntKind.i64.wrap (k + i + 1) = k + i + 1 := wrap_id (by omega) (by omega)
    have hw2 : IntKind.i64.wrap ((i : Int) + 1) = (i : Int) + 1 := wrap_id (by omega) (by omega)
    simp [hhl, hlt, hw1, hw2]
    refine ⟨ns.length - (i + 1), by omega, i + 1, by omega, rfl, _, ⟨.inl (by rw [← half_set hlt, List.map_set]; rfl), by rw [half_len (by omega)]; exact hv.2⟩, by simp, rfl, by simp; omega, by simp⟩
  · obtain rfl : i = ns.length := by omega
    obtain rfl := markV_of hw hw0
    simp [hw.undef, hw.cells]
/- laws.heldIntS -/
def R30 : Rel := fun _ vs _ rs _ => ∃ v ns k, vs = [v, I k] ∧ Sl 3 I v ns ∧ 0 ≤ k ∧ k ≤ 1125899906842624 ∧ ns.length ≤ 1125899906842624 ∧ rs = [I (if ns = markL k ns.length then k + ns.length else -1)]
theorem v30 : SpecR Try.prog 30 sg30 R30 := by
  refine fnZ 19 (by kernel_rfl) (fn := Try.f30) (by kernel_rfl) (by kernel_rfl) k30 (by kernel_rfl) trivial ?_
  rintro lim vs H rs H' ⟨v, ns, k, rfl, hv, h0, h1, h2, rfl⟩ - - -
  simp [c30, List.replicate]
  refine goL_intro (fun n σ H'' => ∃ i : Nat, i ≤ ns.length ∧ n = ns.length - i ∧ ns.take i = markL k i ∧ σ = slots 21 [(0, v), (1, I (k + i)), (5, I i)]) ns.length ⟨0, by omega, by omega, by simp [markL], by simp [slots, List.replicate]⟩ ?_
  rintro n σ H'' ⟨i, hi', rfl, hT, rfl⟩
  simp [slots, List.replicate, hv.len]
  refine ⟨fun hlt => ?_, fun hge => ?_⟩
  · have hw1 : IntKind.i64.wrap (k + i + 1) = k + i + 1 := wrap_id (by omega) (by omega)
    have hw2 : IntKind.i64.wrap ((i : Int) + 1) = (i : Int) + 1 := wrap_id (by omega) (by omega)
    simp [hv.iadd hlt, hv.elem hlt, hw1, hw2]
    refine ⟨fun hne => ?_, fun heq => ?_⟩
    · intro h
      exfalso
      apply hne
      have : ns[i] = (markL k ns.length)[i]'(by simpa using hlt) := by congr 1
      rw [this, markL_get hlt]
    · refine ⟨ns.length - (i + 1), by omega, i + 1, by omega, rfl, ?_, by simp; omega, by simp⟩
      rw [List.take_succ_eq_append_getElem hlt, hT, heq, markL_succ]
  · obtain rfl : i = ns.length := by omega
    rw [List.take_length] at hT
    simp [← hT]
/- laws.markBoxS -/
def R28 : Rel := fun _ vs _ rs _ => ∃ v ns k, vs = [v, I k] ∧ Sl 26 pB v ns ∧ 0 ≤ k ∧ k ≤ 1125899906842624 ∧ ns.length ≤ 1125899906842624 ∧ rs = [I (k + 3 * ns.length), markV 26 pB (markB k) v ns]
set_option maxHeartbeats 4000000 in
theorem v28 : SpecR Try.prog 28 sg28 R28 := by
  refine fnZ 32 (by kernel_rfl) (fn := Try.f28) (by kernel_rfl) (by kernel_rfl) k28 (by kernel_rfl) trivial ?_
  rintro lim vs H rs H' ⟨v, ns, k, rfl, hv, h0, h1, h2, rfl⟩ - - -
  simp [c28, List.replicate]
  refine goL_intro (fun n σ H'' => ∃ i : Nat, ∃ w, i ≤ ns.length ∧ n = ns.length - i ∧ Sl 26 pB w (halfL (markB k) ns i) ∧ (i = 0 → w = v) ∧ σ = slots 34 [(0, w), (1, I (k + 3 * i)), (5, I i)]) ns.length ⟨0, v, by omega, by omega, by rw [half_zero]; exact hv, fun _ => rfl, by simp [slots, List.replicate]⟩ ?_
  rintro n σ H'' ⟨i, w, hi', rfl, hw, hw0, rfl⟩
  have hhl := half_len (m := markB k) (xs := ns) hi'
  simp [slots, List.replicate, hw.len, hhl]
  refine ⟨fun hlt => ?_, fun hge => ?_⟩
  · have hne : halfL (markB k) ns i ≠ [] := by rintro h; rw [h] at hhl; simp at hhl; omega
    obtain rfl := hw.sl_of hne
    have hi2 : i < (halfL (markB k) ns i).length := by omega
    have hw1 : IntKind.i64.wrap (k + 3 * i + 1) = k + 3 * i + 1 := wrap_id (by omega) (by omega)
    have hw2 : IntKind.i64.wrap ((i : Int) + 1) = (i : Int) + 1 := wrap_id (by omega) (by omega)
    have hw3 : IntKind.i64.wrap (k + 3 * i + 1 + 1) = k + 3 * i + 1 + 1 := wrap_id (by omega) (by omega)
    have hw4 : IntKind.i64.wrap (k + 3 * i + 1 + 1 + 1) = k + 3 * i + 1 + 1 + 1 := wrap_id (by omega) (by omega)
    simp [hhl, hlt, hw1, hw2, hw3, hw4, pB, reOk, reCell]
    refine ⟨ns.length - (i + 1), by omega, i + 1, by omega, rfl, _, ⟨.inl (by rw [← half_set hlt, List.map_set, pB_mark]), by rw [half_len (by omega)]; exact hv.2⟩, by simp, rfl, by push_cast; omega, by simp⟩
  · obtain rfl : i = ns.length := by omega
    obtain rfl := markV_of hw hw0
    simp [hw.undef, hw.cells]
/- spec.nePlanned -/
def R79 : Rel := fun _ vs _ rs _ => ∃ v xs w plan, vs = [v, w] ∧ Sl 26 pB v xs ∧ Sl 3 I w plan ∧ rs = [.bool (okN xs plan)]
theorem v79 : SpecR Try.prog 79 sg79 R79 := by
  refine fnZ 10 (by kernel_rfl) (fn := Try.f79) (by kernel_rfl) (by kernel_rfl) (k79 R58 R59) (by kernel_rfl) ⟨v58, v59, trivial⟩ ?_
  rintro lim vs H rs H' ⟨v, xs, w, plan, rfl, hv, hw, rfl⟩ - - -
  rw [show okN xs plan = (okBs xs && nestOk xs plan) from rfl]
  simp [c79, l79, List.replicate]
  refine goCall_pure rfl ⟨v, xs, rfl, hv, rfl⟩ (by simp) ?_
  cases h : okBs xs
  · simp
  · obtain ⟨h1, h2, _⟩ := okBs_spec h
    simp [hv.undef, hw.undef]
    refine goCall_pure rfl ⟨v, xs, w, plan, rfl, hv, hw, by omega, rfl⟩ (by simp) ?_
    simp
/- impl.areNested -/
def R80 : Rel := fun _ vs _ rs _ => ∃ v xs w plan, vs = [v, w] ∧ Sl 26 pB v xs ∧ Sl 3 I w plan ∧ rs = [.bool (okN xs plan)]
theorem v80 : SpecR Try.prog 80 sg80 R80 := by
  refine fnZ 10 (by kernel_rfl) (fn := Try.f80) (by kernel_rfl) (by kernel_rfl) (k80 R60 R61) (by kernel_rfl) ⟨v60, v61, trivial⟩ ?_
  rintro lim vs H rs H' ⟨v, xs, w, plan, rfl, hv, hw, rfl⟩ - - -
  rw [show okN xs plan = (okBs xs && nestOk xs plan) from rfl]
  simp [c80, l80, List.replicate]
  refine goCall_pure rfl ⟨v, xs, rfl, hv, rfl⟩ (by simp) ?_
  cases h : okBs xs
  · simp
  · obtain ⟨h1, h2, _⟩ := okBs_spec h
    simp [hv.undef, hw.undef]
    refine goCall_pure rfl ⟨v, xs, w, plan, rfl, hv, hw, by omega, rfl⟩ (by simp) ?_
    simp
/- spec.neOuter -/
def R72 : Rel := fun _ vs _ rs _ => ∃ w plan, vs = [w] ∧ Sl 3 I w plan ∧ plan.length ≤ 1048576 ∧ rs = [rowI 3 (outerL plan plan.length)]
theorem v72 : SpecR Try.prog 72 sg72 R72 := by
  refine fnZ 20 (by kernel_rfl) (fn := Try.f72) (by kernel_rfl) (by kernel_rfl) k72 (by kernel_rfl) trivial ?_
  rintro lim vs H rs H' ⟨w, plan, rfl, hw, hb, rfl⟩ - - -
  simp [c72, List.replicate, hw.len]
  refine goL_intro (fun m σ H'' => ∃ i : Nat, i ≤ plan.length ∧ m = plan.length - i ∧ σ = slots 21 [(3, rowI 3 (outerL plan i)), (6, w), (7, I plan.length), (8, I i)]) plan.length ⟨0, by omega, by omega, by simp [slots, List.replicate, outerL_zero, rowI]⟩ ?_
  rintro m σ H'' ⟨i, hi', rfl, rfl⟩
  have hol := outerL_len (plan := plan) (k := i)
  have hS := rowI_sl (e := 3) (l := outerL plan i) (by omega)
  simp [slots, List.replicate]
  refine ⟨fun hlt => ?_, fun hge => ?_⟩
  · have e1 : plan.getD i 0 = plan[i] := getD_nat hlt
    have hwi : IntKind.i64.wrap ((i : Int) + 1) = (i : Int) + 1 := wrap_id (by omega) (by omega)
    by_cases hn : plan[i] < 0
    · have happ := rowI_app (e := 3) (l := outerL plan i) (x := i) (by omega)
      have e2 : outerL plan (i + 1) = outerL plan i ++ [(i : Int)] := by rw [outerL_succ, e1, if_pos hn]
      have hS2 := rowI_sl (e := 3) (l := outerL plan i ++ [(i : Int)]) (by simp; omega)
      simp [hw.iadd hlt, hw.elem hlt, hn, happ, hS.undef, hS2.undef, hwi]
      exact ⟨plan.length - (i + 1), by omega, i + 1, by omega, rfl, by rw [e2], by simp⟩
    · have e2 : outerL plan (i + 1) = outerL plan i := by rw [outerL_succ, e1, if_neg hn]
      simp [hw.iadd hlt, hw.elem hlt, hn, hwi]
      exact ⟨plan.length - (i + 1), by omega, i + 1, by omega, rfl, by rw [e2], by simp⟩
  · obtain rfl : i = plan.length := by omega
    simp [hS.undef, hS.cells]
/- impl.outer -/
def R77 : Rel := fun _ vs _ rs _ => ∃ w plan, vs = [w] ∧ Sl 3 I w plan ∧ plan.length ≤ 1048576 ∧ rs = [pR 3 (outerL plan plan.length)]
theorem v77 : SpecR Try.prog 77 sg77 R77 := by
  refine fnZ 21 (by kernel_rfl) (fn := Try.f77) (by kernel_rfl) (by kernel_rfl) k77 (by kernel_rfl) trivial ?_
  rintro lim vs H rs H' ⟨w, plan, rfl, hw, hb, rfl⟩ - - -
  simp [c77, List.replicate, hw.len]
  refine goL_intro (fun m σ H'' => ∃ i : Nat, i ≤ plan.length ∧ m = plan.length - i ∧ σ = slots 22 [(3, pR 3 (outerL plan i)), (7, w), (8, I plan.length), (9, I i)]) plan.length ⟨0, by omega, by omega, by simp [slots, List.replicate, outerL_zero, pR]⟩ ?_
  rintro m σ H'' ⟨i, hi', rfl, rfl⟩
  have hol := outerL_len (plan := plan) (k := i)
  have hS := pR_Sl (e := 3) (x := outerL plan i) (by omega)
  simp [slots, List.replicate]
  refine ⟨fun hlt => ?_, fun hge => ?_⟩
  · have e1 : plan.getD i 0 = plan[i] := getD_nat hlt
    have hwi : IntKind.i64.wrap ((i : Int) + 1) = (i : Int) + 1 := wrap_id (by omega) (by omega)
    by_cases hn : plan[i] < 0
    · have happ : appV 3 8 true (pR 3 (outerL plan i)) (.sl 3 [I i]) = some (pR 3 (outerL plan i ++ [(i : Int)])) := hS.app1 (⟨.inl rfl, by simp⟩ : Sl 3 I (.sl 3 [I i]) [(i : Int)]) (by simp) (by simp; omega)
      have e2 : outerL plan (i + 1) = outerL plan i ++ [(i : Int)] := by rw [outerL_succ, e1, if_pos hn]
      simp [hw.iadd hlt, hw.elem hlt, hn, happ, hwi]
      exact ⟨plan.length - (i + 1), by omega, i + 1, by omega, rfl, by rw [e2], by simp⟩
    · have e2 : outerL plan (i + 1) = outerL plan i := by rw [outerL_succ, e1, if_neg hn]
      simp [hw.iadd hlt, hw.elem hlt, hn, hwi]
      exact ⟨plan.length - (i + 1), by omega, i + 1, by omega, rfl, by rw [e2], by simp⟩
  · obtain rfl : i = plan.length := by omega
    simp
/- spec.OuterBoxes -/
def R48 : Rel := fun _ vs _ rs _ => ∃ v xs w plan, vs = [v, w] ∧ Sl 26 pB v xs ∧ Sl 3 I w plan ∧ plan.length ≤ 1048576 ∧ rs = [if okN xs plan then rowI 3 (outerL plan plan.length) else .nil, .bool (okN xs plan)]
theorem v48 : SpecR Try.prog 48 sg48 R48 := by
  refine fnZ 10 (by kernel_rfl) (fn := Try.f48) (by kernel_rfl) (by kernel_rfl) (k48 R79 R72) (by kernel_rfl) ⟨v79, v72, trivial⟩ ?_
  rintro lim vs H rs H' ⟨v, xs, w, plan, rfl, hv, hw, hb, rfl⟩ - - -
  have hol := outerL_len (plan := plan) (k := plan.length)
  have hS := rowI_sl (e := 3) (l := outerL plan plan.length) (by omega)
  simp [c48, l48, List.replicate]
  refine goCall_pure rfl ⟨v, xs, w, plan, rfl, hv, hw, rfl⟩ (by simp) ?_
  cases h : okN xs plan
  · simp
  · simp
    refine goCall_pure rfl ⟨w, plan, rfl, hw, hb, rfl⟩ (by simp) ?_
    simp [hS.undef]
/- impl.OuterBoxes -/
def R49 : Rel := fun _ vs _ rs _ => ∃ v xs w plan, vs = [v, w] ∧ Sl 26 pB v xs ∧ Sl 3 I w plan ∧ plan.length ≤ 1048576 ∧ rs = [if okN xs plan then pR 3 (outerL plan plan.length) else .nil, .bool (okN xs plan)]
theorem v49 : SpecR Try.prog 49 sg49 R49 := by
  refine fnZ 10 (by kernel_rfl) (fn := Try.f49) (by kernel_rfl) (by kernel_rfl) (k49 R80 R77) (by kernel_rfl) ⟨v80, v77, trivial⟩ ?_
  rintro lim vs H rs H' ⟨v, xs, w, plan, rfl, hv, hw, hb, rfl⟩ - - -
  simp [c49, l49, List.replicate]
  refine goCall_pure rfl ⟨v, xs, w, plan, rfl, hv, hw, rfl⟩ (by simp) ?_
  cases h : okN xs plan
  · simp
  · simp
    refine goCall_pure rfl ⟨w, plan, rfl, hw, hb, rfl⟩ (by simp) ?_
    simp
/- spec.neInside -/
def R82 : Rel := fun _ vs _ rs _ => ∃ v ns k, vs = [v, I k] ∧ Sl 3 I v ns ∧ rs = [I (idx (fun n => n == k) ns)]
theorem v82 : SpecR Try.prog 82 sg82 R82 := by
  refine fnZ 17 (by kernel_rfl) (fn := Try.f82) (by kernel_rfl) (by kernel_rfl) k82 (by kernel_rfl) trivial ?_
  rintro lim vs H rs H' ⟨v, ns, k, rfl, hv, rfl⟩ - - -
  have hlen := hv.2
  simp [c82, List.replicate, hv.len]
  refine goL_intro (fun m σ H'' => ∃ i : Nat, i ≤ ns.length ∧ m = ns.length - i ∧ Before (fun n => n == k) ns i ∧ σ = slots 19 [(1, I k), (7, v), (8, I ns.length), (9, I i)]) ns.length ⟨0, by omega, by omega, Before.zero, by simp [slots, List.replicate]⟩ ?_
  rintro m σ H'' ⟨i, hi', rfl, hall, rfl⟩
  simp [slots, List.replicate]
  refine ⟨fun hlt => ?_, fun hge => ?_⟩
  · simp [hv.iadd hlt, hv.elem hlt]
    refine ⟨fun h => ?_, fun h => ⟨ns.length - (i + 1), by omega, i + 1, by omega, rfl, hall.succ hlt (by simp [h]), ?_⟩⟩
    · rw [hall.idx hlt (by simp [h])]
    · rw [wrap_id (by omega) (by omega)]; simp
  · simp [hall.none hge]
/- spec.TakeOut -/
def R50 : Rel := fun _ vs _ rs _ => ∃ v xs w plan k, vs = [v, w, I k] ∧ Sl 26 pB v xs ∧ Sl 3 I w plan ∧ plan.length ≤ 1048576 ∧ rs = [if takeN xs plan k then pR 3 (plan.set (idx (fun n => n == k) plan).toNat (-1)) else .nil, .bool (takeN xs plan k)]
set_option maxHeartbeats 4000000 in
theorem v50 : SpecR Try.prog 50 sg50 R50 := by
  refine fnZ 32 (by kernel_rfl) (fn := Try.f50) (by kernel_rfl) (by kernel_rfl) (k50 R79 R81 R82 R85) (by kernel_rfl) ⟨v79, v81, v82, v85, trivial⟩ ?_
  rintro lim vs H rs H' ⟨v, xs, w, plan, k, rfl, hv, hw, hb, rfl⟩ - - -
  simp [c50, l50, List.replicate]
  refine goCall_pure rfl ⟨v, xs, w, plan, rfl, hv, hw, rfl⟩ (by simp) ?_
  cases h : okN xs plan
  · simp [takeN_no1 h]
  · obtain ⟨h1, h2, _, _⟩ := okN_spec h
    have hwl : IntKind.i64.wrap ((xs.length : Int) - 1) = (xs.length : Int) - 1 := wrap_id (by omega) (by omega)
    simp [hv.undef, hv.len, hwl]
    refine goCall_pure rfl ⟨_, _, _, rfl, rfl⟩ (by simp) ?_
    cases h3 : inR 0 (xs.length - 1) k
    · simp [takeN_no2 h3]
    · simp [hw.undef]
      refine goCall_pure rfl ⟨w, plan, k, rfl, hw, rfl⟩ (by simp) ?_
      have hhas := idx_has (ns := plan) (k := k)
      cases hc : plan.contains k
      · have hneg : idx (fun n => n == k) plan < 0 := by rw [hc] at hhas; simpa using hhas
        rw [takeN_no3 hc]
        simp [hneg]
      · rw [takeN_yes h h3 hc]
        obtain ⟨j, hj, hje⟩ := idx_nat hc
        have hnn : ¬ ((j : Int) < 0) := by omega
        rw [hje]
        simp [hnn]
        refine goCall_pure rfl ⟨w, plan, rfl, hw, hb, rfl⟩ (by simp) ?_
        simp
        refine goCall_pure rfl ⟨w, plan, k, rfl, hw, rfl⟩ (by simp) ?_
        rw [hje]
        simp [hj, pR, List.map_set]
/- slices.Clone[[]int,int] -/
def R65 : Rel := fun _ vs _ rs _ => ∃ v ns, vs = [v] ∧ Sl 3 I v ns ∧ ns.length ≤ 1048576 ∧ rs = [v]
theorem v65 : SpecR Try.prog 65 sg65 R65 := by
  refine fnZ 7 (by kernel_rfl) (fn := Try.f65) (by kernel_rfl) (by kernel_rfl) k65 (by kernel_rfl) trivial ?_
  rintro lim vs H rs H' ⟨v, ns, rfl, hv, hsm, rfl⟩ - - -
  rcases hv.1 with rfl | ⟨rfl, rfl⟩
  · have := hv.app0 (xs := []) (by simp; omega)
    simp at this
    simp [c65, List.replicate, this]
  · simp [c65, List.replicate]
/- impl.TakeOut -/
def R51 : Rel := fun _ vs _ rs _ => ∃ v xs w plan k, vs = [v, w, I k] ∧ Sl 26 pB v xs ∧ Sl 3 I w plan ∧ plan.length ≤ 1048576 ∧ rs = [if takeN xs plan k then pR 3 (plan.set (idx (fun n => n == k) plan).toNat (-1)) else .nil, .bool (takeN xs plan k)]
set_option maxHeartbeats 4000000 in
theorem v51 : SpecR Try.prog 51 sg51 R51 := by
  refine fnZ 32 (by kernel_rfl) (fn := Try.f51) (by kernel_rfl) (by kernel_rfl) (k51 R80 R83 R86 R65 R84) (by kernel_rfl) ⟨v80, v83, v86, v65, v84, trivial⟩ ?_
  rintro lim vs H rs H' ⟨v, xs, w, plan, k, rfl, hv, hw, hb, rfl⟩ - - -
  simp [c51, l51, List.replicate]
  refine goCall_pure rfl ⟨v, xs, w, plan, rfl, hv, hw, rfl⟩ (by simp) ?_
  cases h : okN xs plan
  · simp [takeN_no1 h]
  · obtain ⟨h1, h2, _, _⟩ := okN_spec h
    have hwl : IntKind.i64.wrap ((xs.length : Int) - 1) = (xs.length : Int) - 1 := wrap_id (by omega) (by omega)
    simp [hv.undef, hv.len, hwl]
    refine goCall_pure rfl ⟨_, _, _, rfl, rfl⟩ (by simp) ?_
    cases h3 : inR 0 (xs.length - 1) k
    · simp [takeN_no2 h3]
    · simp [hw.undef]
      refine goCall_pure rfl ⟨w, plan, k, rfl, hw, rfl⟩ (by simp) ?_
      cases hc : plan.contains k
      · rw [takeN_no3 hc]
        simp
      · rw [takeN_yes h h3 hc]
        obtain ⟨j, hj, hje⟩ := idx_nat hc
        have hnn : ¬ ((j : Int) < 0) := by omega
        have hne : plan ≠ [] := by rintro rfl; simp at hj
        rw [hje]
        simp
        refine goCall_pure rfl ⟨w, plan, rfl, hw, hb, rfl⟩ (by simp) ?_
        obtain rfl := hw.full hne
        simp
        refine goCall_pure rfl ⟨_, plan, k, rfl, hw, rfl⟩ (by simp) ?_
        rw [hje]
        simp [hj, pR, List.map_set]
end Go.Proofs.Ytnkjbncagnfnoaa
set_option autoImplicit false
set_option linter.unusedVariables false
set_option linter.unusedSimpArgs false
set_option linter.unnecessarySimpa false
namespace Go.Proofs.Ytnkjbncagnfnoaa
open Go.Den
/- laws.FnExactOuterBoxes -/
def R13 : Rel := fun _ vs _ rs _ => ∃ v xs w plan, vs = [v, w] ∧ Sl 23 pB v xs ∧ Sl 3 I w plan ∧ rs = [.bool true]
set_option maxHeartbeats 8000000 in
theorem v13 : SpecR Try.prog 13 sg13 R13 := by
  refine fnZ 115 (by kernel_rfl) (fn := Try.f13) (by kernel_rfl) (by kernel_rfl) (k13 R19 R21 R22 R48 R49 R25 R24 R28 R29 R30) (by kernel_rfl) ⟨v19, v21, v22, v48, v49, v25, v24, v28, v29, v30, trivial⟩ ?_
  rintro lim vs H rs H' ⟨v, xs, w, plan, rfl, hv, hw, rfl⟩ - - -
  by_cases hp : (1048576 : Int) < plan.length
  · simp [c13, l13, List.replicate, hw.len, hp]
  · have hpl : plan.length ≤ 1048576 := by omega
    simp [c13, l13, List.replicate, hw.len, hp]
    refine goCall_pure rfl ⟨v, xs, _, rfl, hv, by omega, by omega, rfl⟩ (by simp) ?_
    by_cases hb : 1048576 - (xs.length : Int) < 0
    · simp [hb]
    · have hl : xs.length ≤ 1048576 := by omega
      have hx : Sl 26 pB (.sl 26 (xs.map pB)) xs := ⟨.inl rfl, by omega⟩
      have hy : Sl 3 I (.sl 3 (plan.map I)) plan := ⟨.inl rfl, by omega⟩
      have hxm := markV_sl (m := markB 1) hx
      have hym := markV_sl (m := markI (1 + 3 * xs.length)) hy
      rw [if_neg hb]
      obtain ⟨ns, g, u, hgd, hud, hg, hu, hgl⟩ : ∃ (ns : List Int) (g u : PV), g = (if okN xs plan then pR 3 (outerL plan plan.length) else .nil) ∧ u = (if okN xs plan then rowI 3 (outerL plan plan.length) else .nil) ∧ Sl 3 I g ns ∧ Sl 3 I u ns ∧ ns.length ≤ 1048576 := by
        have hol := outerL_len (plan := plan) (k := plan.length)
        cases okN xs plan
        · exact ⟨[], _, _, rfl, rfl, ⟨.inr ⟨rfl, rfl⟩, by simp⟩, ⟨.inr ⟨rfl, rfl⟩, by simp⟩, by simp⟩
        · exact ⟨outerL plan plan.length, _, _, rfl, rfl, pR_Sl (by omega), rowI_sl (by omega), by omega⟩
      obtain ⟨gm, hgm⟩ : ∃ gm, gm = markV 3 I (markI 1) g ns := ⟨_, rfl⟩
      have hms := markV_sl (m := markI 1) hg
      rw [← hgm] at hms
      have hml : ((List.range ns.length).map (markI 1)).length = ns.length := by simp
      have hmh := markL_ok (k := 1) hml (markL_eq)
      simp [hb]
      refine goCall_pure rfl ⟨v, xs, rfl, hv, hl, rfl⟩ (by simp) ?_
      simp
      refine goCall_pure rfl ⟨w, plan, rfl, hw, hpl, rfl⟩ (by simp) ?_
      simp
      refine goCall_pure rfl ⟨_, xs, _, plan, rfl, hx, hy, hpl, by rw [← hud]⟩ (by simp) ?_
      simp [hu.undef]
      refine goCall_pure rfl ⟨v, xs, rfl, hv, hl, rfl⟩ (by simp) ?_
      simp
      refine goCall_pure rfl ⟨w, plan, rfl, hw, hpl, rfl⟩ (by simp) ?_
      simp
      refine goCall_pure rfl ⟨_, xs, _, plan, rfl, hx, hy, hpl, by rw [← hgd]⟩ (by simp) ?_
      simp [hg.undef, hu.undef]
      refine goCall_pure rfl ⟨g, u, ns, ns, rfl, hg, hu, rfl⟩ (by simp) ?_
      simp
      refine goCall_pure rfl ⟨v, xs, rfl, hv, hl, rfl⟩ (by simp) ?_
      simp
      refine goCall_pure rfl ⟨_, _, xs, xs, rfl, hx, hx, rfl⟩ (by simp) ?_
      simp
      refine goCall_pure rfl ⟨w, plan, rfl, hw, hpl, rfl⟩ (by simp) ?_
      simp
      refine goCall_pure rfl ⟨_, _, plan, plan, rfl, hy, hy, rfl⟩ (by simp) ?_
      simp
      refine goM_intro (H2 := []) ⟨_, xs, 1, rfl, hx, by omega, by omega, by omega, rfl⟩ (by simp) hxm.undef ?_
      simp [hxm.undef]
      refine goM_intro (H2 := []) ⟨_, plan, 1 + 3 * (xs.length : Int), rfl, hy, by omega, by omega, by omega, rfl⟩ (by simp) hym.undef ?_
      have hnn : ¬ (1 + 3 * (xs.length : Int) + plan.length) < 0 := by omega
      simp [hxm.undef, hym.undef, hnn, hg.undef, hu.undef]
      refine goCall_pure rfl ⟨g, u, ns, ns, rfl, hg, hu, rfl⟩ (by simp) ?_
      simp [hg.undef]
      refine goM_intro (H2 := []) ⟨g, ns, 1, rfl, hg, by omega, by omega, by omega, by rw [← hgm]⟩ (by simp [hg.undef]) hms.undef ?_
      have hq : ¬ (1 + (ns.length : Int)) < 0 := by omega
      simp [hms.undef]
      refine goCall_pure rfl ⟨gm, _, 1, rfl, hms, by omega, by omega, by rw [hml]; omega, rfl⟩ (by simp) ?_
      rw [hmh]
      simp [hq]
      refine goCall_pure rfl ⟨v, xs, rfl, hv, hl, rfl⟩ (by simp) ?_
      simp
      refine goCall_pure rfl ⟨w, plan, rfl, hw, hpl, rfl⟩ (by simp) ?_
      simp
      refine goCall_pure rfl ⟨_, xs, _, plan, rfl, hx, hy, hpl, by rw [← hgd]⟩ (by simp) ?_
      simp [hg.undef, hu.undef]
      refine goCall_pure rfl ⟨g, u, ns, ns, rfl, hg, hu, rfl⟩ (by simp) ?_
      simp [hms.undef]
      refine goCall_pure rfl ⟨gm, _, 1, rfl, hms, by omega, by omega, by rw [hml]; omega, rfl⟩ (by simp) ?_
      rw [hmh]
      simp [hq]
/- laws.FnExactTakeOut -/
def R14 : Rel := fun _ vs _ rs _ => ∃ v xs w plan k, vs = [v, w, I k] ∧ Sl 23 pB v xs ∧ Sl 3 I w plan ∧ rs = [.bool true]
set_option maxHeartbeats 8000000 in
theorem v14 : SpecR Try.prog 14 sg14 R14 := by
  refine fnZ 119 (by kernel_rfl) (fn := Try.f14) (by kernel_rfl) (by kernel_rfl) (k14 R19 R21 R22 R50 R51 R25 R24 R28 R29 R30) (by kernel_rfl) ⟨v19, v21, v22, v50, v51, v25, v24, v28, v29, v30, trivial⟩ ?_
  rintro lim vs H rs H' ⟨v, xs, w, plan, k, rfl, hv, hw, rfl⟩ - - -
  by_cases hp : (1048576 : Int) < plan.length
  · simp [c14, l14, List.replicate, hw.len, hp]
  · have hpl : plan.length ≤ 1048576 := by omega
    simp [c14, l14, List.replicate, hw.len, hp]
    refine goCall_pure rfl ⟨v, xs, _, rfl, hv, by omega, by omega, rfl⟩ (by simp) ?_
    by_cases hb : 1048576 - (xs.length : Int) < 0
    · simp [hb]
    · have hl : xs.length ≤ 1048576 := by omega
      have hx : Sl 26 pB (.sl 26 (xs.map pB)) xs := ⟨.inl rfl, by omega⟩
      have hy : Sl 3 I (.sl 3 (plan.map I)) plan := ⟨.inl rfl, by omega⟩
      have hxm := markV_sl (m := markB 1) hx
      have hym := markV_sl (m := markI (1 + 3 * xs.length)) hy
      rw [if_neg hb]
      obtain ⟨ns, g, u, hgd, hud, hg, hu, hgl⟩ : ∃ (ns : List Int) (g u : PV), g = (if takeN xs plan k then pR 3 (plan.set (idx (fun n => n == k) plan).toNat (-1)) else .nil) ∧ u = (if takeN xs plan k then pR 3 (plan.set (idx (fun n => n == k) plan).toNat (-1)) else .nil) ∧ Sl 3 I g ns ∧ Sl 3 I u ns ∧ ns.length ≤ 1048576 := by
        cases takeN xs plan k
        · exact ⟨[], _, _, rfl, rfl, ⟨.inr ⟨rfl, rfl⟩, by simp⟩, ⟨.inr ⟨rfl, rfl⟩, by simp⟩, by simp⟩
        · exact ⟨_, _, _, rfl, rfl, pR_Sl (by rw [List.length_set]; omega), pR_Sl (by rw [List.length_set]; omega), by rw [List.length_set]; omega⟩
      obtain ⟨gm, hgm⟩ : ∃ gm, gm = markV 3 I (markI 1) g ns := ⟨_, rfl⟩
      have hms := markV_sl (m := markI 1) hg
      rw [← hgm] at hms
      have hml : ((List.range ns.length).map (markI 1)).length = ns.length := by simp
      have hmh := markL_ok (k := 1) hml (markL_eq)
      simp [hb]
      refine goCall_pure rfl ⟨v, xs, rfl, hv, hl, rfl⟩ (by simp) ?_
      simp
      refine goCall_pure rfl ⟨w, plan, rfl, hw, hpl, rfl⟩ (by simp) ?_
      simp
      refine goCall_pure rfl ⟨_, xs, _, plan, k, rfl, hx, hy, hpl, by rw [← hud]⟩ (by simp) ?_
      simp [hu.undef]
      refine goCall_pure rfl ⟨v, xs, rfl, hv, hl, rfl⟩ (by simp) ?_
      simp
      refine goCall_pure rfl ⟨w, plan, rfl, hw, hpl, rfl⟩ (by simp) ?_
      simp
      refine goCall_pure rfl ⟨_, xs, _, plan, k, rfl, hx, hy, hpl, by rw [← hgd]⟩ (by simp) ?_
      simp [hg.undef, hu.undef]
      refine goCall_pure rfl ⟨g, u, ns, ns, rfl, hg, hu, rfl⟩ (by simp) ?_
      simp
      refine goCall_pure rfl ⟨v, xs, rfl, hv, hl, rfl⟩ (by simp) ?_
      simp
      refine goCall_pure rfl ⟨_, _, xs, xs, rfl, hx, hx, rfl⟩ (by simp) ?_
      simp
      refine goCall_pure rfl ⟨w, plan, rfl, hw, hpl, rfl⟩ (by simp) ?_
      simp
      refine goCall_pure rfl ⟨_, _, plan, plan, rfl, hy, hy, rfl⟩ (by simp) ?_
      simp
      refine goM_intro (H2 := []) ⟨_, xs, 1, rfl, hx, by omega, by omega, by omega, rfl⟩ (by simp) hxm.undef ?_
      simp [hxm.undef]
      refine goM_intro (H2 := []) ⟨_, plan, 1 + 3 * (xs.length : Int), rfl, hy, by omega, by omega, by omega, rfl⟩ (by simp) hym.undef ?_
      have hnn : ¬ (1 + 3 * (xs.length : Int) + plan.length) < 0 := by omega
      simp [hxm.undef, hym.undef, hnn, hg.undef, hu.undef]
      refine goCall_pure rfl ⟨g, u, ns, ns, rfl, hg, hu, rfl⟩ (by simp) ?_
      simp [hg.undef]
      refine goM_intro (H2 := []) ⟨g, ns, 1, rfl, hg, by omega, by omega, by omega, by rw [← hgm]⟩ (by simp [hg.undef]) hms.undef ?_
      have hq : ¬ (1 + (ns.length : Int)) < 0 := by omega
      simp [hms.undef]
      refine goCall_pure rfl ⟨gm, _, 1, rfl, hms, by omega, by omega, by rw [hml]; omega, rfl⟩ (by simp) ?_
      rw [hmh]
      simp [hq]
      refine goCall_pure rfl ⟨v, xs, rfl, hv, hl, rfl⟩ (by simp) ?_
      simp
      refine goCall_pure rfl ⟨w, plan, rfl, hw, hpl, rfl⟩ (by simp) ?_
      simp
      refine goCall_pure rfl ⟨_, xs, _, plan, k, rfl, hx, hy, hpl, by rw [← hgd]⟩ (by simp) ?_
      simp [hg.undef, hu.undef]
      refine goCall_pure rfl ⟨g, u, ns, ns, rfl, hg, hu, rfl⟩ (by simp) ?_
      simp [hms.undef]
      refine goCall_pure rfl ⟨gm, _, 1, rfl, hms, by omega, by omega, by rw [hml]; omega, rfl⟩ (by simp) ?_
      rw [hmh]
      simp [hq]
end Go.Proofs.Ytnkjbncagnfnoaa
