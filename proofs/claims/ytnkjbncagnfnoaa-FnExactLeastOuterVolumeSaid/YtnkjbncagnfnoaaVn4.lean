/- Depths and contents: each function does what is told of it. Conditions: none. -/
import Derived.Test.YtnkjbncagnfnoaaDenD
import Derived.Test.YtnkjbncagnfnoaaVn3
set_option linter.unusedVariables false
set_option linter.unusedSimpArgs false
set_option linter.unnecessarySimpa false
set_option autoImplicit false
set_option linter.unusedSimpArgs false
set_option linter.unusedVariables false
namespace Go.Den
/-! ### How deep a box is, and what is in it -/
/-- The least side of the box with a number. -/
def sideN (xs : List B3) (k : Int) : Int := (sortB (xs.getD k.toNat zB)).getD 0 0
def rankU (xs : List B3) (k : Int) : Nat := if k < 0 then 0 else (51 - sideN xs k).toNat
def rankD (xs : List B3) (k : Int) : Nat := if k < 0 then 0 else (sideN xs k).toNat
def dep (plan : List Int) : Nat → Int → Nat
  | 0, _ => 0
  | f + 1, k => if k < 0 then 0 else 1 + dep plan f (plan.getD k.toNat 0)
def depF (plan : List Int) (i : Nat) : Nat := dep plan 51 (plan.getD i 0)
def depthsL (plan : List Int) (k : Nat) : List Int := (List.range k).map fun (i : Nat) => (depF plan i : Int)
def contF (plan : List Int) : Nat → Int → List Int
  | 0, _ => []
  | f + 1, k => if k < 0 then [] else k :: contF plan f (idx (fun n => n == k) plan)
def contL (plan : List Int) (k : Int) : List Int := contF plan 51 (idx (fun n => n == k) plan)
theorem depthsL_succ {plan : List Int} {k : Nat} : depthsL plan (k + 1) = depthsL plan k ++ [(depF plan k : Int)] := by simp [depthsL, List.range_succ]
@[simp] theorem depthsL_len {plan : List Int} {k : Nat} : (depthsL plan k).length = k := by simp [depthsL]
theorem dep_le {plan : List Int} : ∀ {f : Nat} {k : Int}, dep plan f k ≤ f
  | 0, _ => by simp [dep]
  | f + 1, k => by
    unfold dep
    have := dep_le (plan := plan) (f := f) (k := plan.getD k.toNat 0)
    split <;> omega
theorem dep_neg {plan : List Int} {f : Nat} {k : Int} (h : k < 0) : dep plan f k = 0 := by cases f <;> simp [dep, h]
theorem cont_neg {plan : List Int} {f : Nat} {k : Int} (h : k < 0) : contF plan f k = [] := by cases f <;> simp [contF, h]
theorem contF_len {plan : List Int} : ∀ {f : Nat} {k : Int}, (contF plan f k).length ≤ f
  | 0, _ => by simp [contF]
  | f + 1, k => by
    unfold contF
    have := contF_len (plan := plan) (f := f) (k := idx (fun n => n == k) plan)
    split
    · simp
    · simp; omega
theorem side_fit {x y : B3} (h : fitB x y = true) : (sortB x).getD 0 0 < (sortB y).getD 0 0 := by
  obtain ⟨p, q, r, h1⟩ := sortB_three x
  obtain ⟨p', q', r', h2⟩ := sortB_three y
  rw [fitB_eq h1 h2] at h
  simp [h1, h2] at h ⊢
  omega
theorem side_ok {x : B3} (h : okB x = true) : 1 ≤ (sortB x).getD 0 0 ∧ (sortB x).getD 0 0 ≤ 50 := by
  obtain ⟨p, q, r, h1⟩ := sortB_three x
  have hm : p ∈ sortB x := by rw [h1]; simp
  have hp : p ∈ [x.a, x.b, x.c] := (List.mergeSort_perm _ _).mem_iff.1 hm
  simp only [okB, List.all_eq_true] at h
  have := h p hp
  simp [inR] at this
  rw [h1]
  simpa using this
theorem side_at {xs : List B3} {plan : List Int} (h : okN xs plan = true) {k : Int} (h0 : 0 ≤ k) (hk : k.toNat < xs.length) : 1 ≤ sideN xs k ∧ sideN xs k ≤ 50 := by
  obtain ⟨_, _, h3, _⟩ := okN_spec h
  refine side_ok (h3 _ ?_)
  rw [getD_nat hk]
  exact List.getElem_mem hk
theorem nest_at {xs : List B3} {plan : List Int} (h : okN xs plan = true) {i : Nat} (hi : i < plan.length) (h0 : 0 ≤ plan.getD i 0) : (plan.getD i 0).toNat < xs.length ∧ sideN xs i < sideN xs (plan.getD i 0) := by
  obtain ⟨_, _, _, h4⟩ := okN_spec h
  have hl := nestOk_len h4
  simp only [nestOk, Bool.and_eq_true, List.all_eq_true, List.mem_range] at h4
  have := h4.2 i hi
  obtain ⟨h5, h6⟩ := this
  simp only [inR, decide_eq_true_eq] at h5
  have hn : ¬ plan.getD i 0 < 0 := by omega
  simp only [freeN, hn, decide_false, Bool.false_or, Bool.and_eq_true] at h6
  refine ⟨by omega, ?_⟩
  have := side_fit h6.1
  simpa [sideN] using this
theorem up_at {xs : List B3} {plan : List Int} (h : okN xs plan = true) {k : Int} (h0 : 0 ≤ k) (hk : k.toNat < xs.length) : ((plan.getD k.toNat 0) < 0 ∨ (plan.getD k.toNat 0).toNat < xs.length) ∧ rankU xs (plan.getD k.toNat 0) < rankU xs k := by
  obtain ⟨_, _, _, h4⟩ := okN_spec h
  have hl := nestOk_len h4
  have hr := side_at h h0 hk
  have hkn : ¬ k < 0 := by omega
  by_cases hn : plan.getD k.toNat 0 < 0
  · refine ⟨.inl hn, ?_⟩
    unfold rankU
    rw [if_pos hn, if_neg hkn]
    omega
  · obtain ⟨ha, hb⟩ := nest_at h (i := k.toNat) (by omega) (by omega)
    have hc := side_at h (by omega) ha
    have e : ((k.toNat : Nat) : Int) = k := by omega
    rw [e] at hb
    refine ⟨.inr ha, ?_⟩
    unfold rankU
    rw [if_neg hn, if_neg hkn]
    omega
theorem first_at {xs : List B3} {plan : List Int} (h : okN xs plan = true) {i : Nat} (hi : i < plan.length) : ((plan.getD i 0) < 0 ∨ (plan.getD i 0).toNat < xs.length) ∧ rankU xs (plan.getD i 0) ≤ 51 := by
  by_cases hn : plan.getD i 0 < 0
  · refine ⟨.inl hn, ?_⟩
    simp only [rankU, if_pos hn]; omega
  · obtain ⟨ha, hb⟩ := nest_at h (i := i) hi (by omega)
    have hc := side_at h (by omega) ha
    refine ⟨.inr ha, ?_⟩
    simp only [rankU, if_neg hn]; omega
theorem dep_step {plan : List Int} {f : Nat} {k : Int} (h0 : 0 ≤ k) (hf : 0 < f) : dep plan f k = 1 + dep plan (f - 1) (plan.getD k.toNat 0) := by
  obtain ⟨g, rfl⟩ : ∃ g, f = g + 1 := ⟨f - 1, by omega⟩
  have : ¬ k < 0 := by omega
  simp [dep, this]
theorem cont_step {plan : List Int} {f : Nat} {k : Int} (h0 : 0 ≤ k) (hf : 0 < f) : contF plan f k = k :: contF plan (f - 1) (idx (fun n => n == k) plan) := by
  obtain ⟨g, rfl⟩ : ∃ g, f = g + 1 := ⟨f - 1, by omega⟩
  have : ¬ k < 0 := by omega
  simp [contF, this]
theorem idx_cases {plan : List Int} {k : Int} : idx (fun n => n == k) plan = -1 ∨ ∃ j : Nat, j < plan.length ∧ idx (fun n => n == k) plan = j ∧ plan.getD j 0 = k := by
  unfold idx
  cases hf : plan.findIdx? (fun n => n == k) with
  | none => exact .inl rfl
  | some i =>
    obtain ⟨h1, h2, _⟩ := List.findIdx?_eq_some_iff_getElem.1 hf
    refine .inr ⟨i, h1, rfl, ?_⟩
    rw [getD_nat h1]
    simpa using h2
/-- The box that is in a box at once is less. -/
theorem down_at {xs : List B3} {plan : List Int} (h : okN xs plan = true) {k : Int} (h0 : 0 ≤ k) (hk : k.toNat < xs.length) : rankD xs (idx (fun n => n == k) plan) < rankD xs k ∧ ((idx (fun n => n == k) plan) < 0 ∨ (idx (fun n => n == k) plan).toNat < xs.length) ∧ -1 ≤ idx (fun n => n == k) plan := by
  obtain ⟨_, _, _, h4⟩ := okN_spec h
  have hl := nestOk_len h4
  have hr := side_at h h0 hk
  have hkn : ¬ k < 0 := by omega
  rcases idx_cases (plan := plan) (k := k) with he | ⟨j, hj, he, hg⟩
  · rw [he]
    simp only [rankD, if_neg hkn]
    simp; omega
  · rw [he]
    obtain ⟨ha, hb⟩ := nest_at h (i := j) hj (by omega)
    rw [hg] at hb
    have hc := side_at h (k := (j : Int)) (by omega) (by omega)
    simp only [rankD, if_neg hkn]
    have : ¬ (j : Int) < 0 := by omega
    rw [if_neg this]
    omega
theorem rankD_le {xs : List B3} {plan : List Int} (h : okN xs plan = true) {k : Int} (hk : k < 0 ∨ k.toNat < xs.length) : rankD xs k ≤ 50 := by
  unfold rankD
  split
  · omega
  · have := side_at h (k := k) (by omega) (by omega)
    omega
theorem contL_len {plan : List Int} {k : Int} : (contL plan k).length ≤ 51 := contF_len
/-- Whether the contents of a box are told. -/
def contN (xs : List B3) (plan : List Int) (k : Int) : Bool := okN xs plan && inR 0 (xs.length - 1) k
theorem contN_no1 {xs : List B3} {plan : List Int} {k : Int} (h : okN xs plan = false) : contN xs plan k = false := by simp [contN, h]
theorem contN_no2 {xs : List B3} {plan : List Int} {k : Int} (h : inR 0 (xs.length - 1) k = false) : contN xs plan k = false := by simp [contN, h]
theorem contN_yes {xs : List B3} {plan : List Int} {k : Int} (h : okN xs plan = true) (h2 : inR 0 (xs.length - 1) k = true) : contN xs plan k = true := by rw [contN, h, h2]; rfl
end Go.Den
set_option autoImplicit false
set_option linter.unusedVariables false
set_option linter.unusedSimpArgs false
set_option linter.unnecessarySimpa false
namespace Go.Proofs.Ytnkjbncagnfnoaa
open Go.Den
/- spec.DepthsOf -/
def R44 : Rel := fun _ vs _ rs _ => ∃ v xs w plan, vs = [v, w] ∧ Sl 26 pB v xs ∧ Sl 3 I w plan ∧ plan.length ≤ 1048576 ∧ rs = [if okN xs plan then rowI 3 (depthsL plan plan.length) else .nil, .bool (okN xs plan)]
set_option maxHeartbeats 4000000 in
theorem v44 : SpecR Try.prog 44 sg44 R44 := by
  refine fnZ 35 (by kernel_rfl) (fn := Try.f44) (by kernel_rfl) (by kernel_rfl) (k44 R79) (by kernel_rfl) ⟨v79, trivial⟩ ?_
  rintro lim vs H rs H' ⟨v, xs, w, plan, rfl, hv, hw, hb, rfl⟩ - - -
  simp [c44, l44, List.replicate]
  refine goCall_pure rfl ⟨v, xs, w, plan, rfl, hv, hw, rfl⟩ (by simp) ?_
  cases h : okN xs plan
  · simp
  · obtain ⟨h1, h2, _, h4⟩ := okN_spec h
    have hl := nestOk_len h4
    simp [hw.len]
    refine goL_intro (fun m σ H'' => ∃ i : Nat, i ≤ plan.length ∧ m = plan.length - i ∧ Gar 37 [(1, w), (6, rowI 3 (depthsL plan i)), (15, I plan.length), (16, I i)] σ) plan.length ⟨0, by omega, by omega, .intro (by simp) (by simp [depthsL, rowI])⟩ ?_
    rintro m σ H'' ⟨i, hi', rfl, us, rfl⟩
    have hS := rowI_sl (e := 3) (l := depthsL plan i) (by simp; omega)
    simp [gar, List.range, List.range.loop]
    refine ⟨fun hlt => ?_, fun hge => ?_⟩
    · have e1 : plan.getD i 0 = plan[i] := getD_nat hlt
      have hwi : IntKind.i64.wrap ((i : Int) + 1) = (i : Int) + 1 := wrap_id (by omega) (by omega)
      obtain ⟨hf1, hf2⟩ := first_at h hlt
      simp [hw.iadd hlt, hw.elem hlt]
      rw [← e1]
      refine goL_intro (fun m σ H'' => ∃ f c : Nat, ∃ k : Int, m = f ∧ (k < 0 ∨ k.toNat < xs.length) ∧ rankU xs k ≤ f ∧ c + dep plan f k = depF plan i ∧ Gar 37 [(1, w), (6, rowI 3 (depthsL plan i)), (8, I c), (9, I k), (15, I plan.length), (16, I i)] σ) 51 ⟨51, 0, plan.getD i 0, by omega, hf1, hf2, by simp [depF], .intro (by simp) (by simp)⟩ ?_
      rintro m σ H'' ⟨f, c, k, rfl, hk, hr, hd, us, rfl⟩
      have hdl := dep_le (plan := plan) (f := 51) (k := plan.getD i 0)
      have hcb : c ≤ 51 := by unfold depF at hd; omega
      simp [gar, List.range, List.range.loop]
      refine ⟨fun hk0 => ?_, fun hk0 => ?_⟩
      · have hkl : k.toNat < xs.length := by omega
        obtain ⟨hu1, hu2⟩ := up_at h hk0 hkl
        have hkn : k.toNat < plan.length := by omega
        have e2 : plan.getD k.toNat 0 = plan[k.toNat] := getD_nat hkn
        have e3 : ((k.toNat : Nat) : Int) = k := by omega
        have hia : iaddV 3 w (I k) = some (.eix k.toNat 0) := by rw [← e3]; exact hw.iadd hkn
        have hst := dep_step (plan := plan) (f := m) hk0 (by omega)
        have hwc : IntKind.i64.wrap ((c : Int) + 1) = (c : Int) + 1 := wrap_id (by omega) (by omega)
        simp [hia, hw.elem hkn, hwc]
        rw [← e2]
        refine ⟨m - 1, by omega, c + 1, plan.getD k.toNat 0, hu1, by omega, by omega, .intro (by simp) (by simp)⟩
      · have hc : c = depF plan i := by rw [dep_neg (by omega)] at hd; omega
        subst hc
        have happ := rowI_app (e := 3) (l := depthsL plan i) (x := (depF plan i : Int)) (by simp; omega)
        have hS2 := rowI_sl (e := 3) (l := depthsL plan i ++ [(depF plan i : Int)]) (by simp; omega)
        simp [happ, hS.undef, hS2.undef, hwi]
        exact ⟨plan.length - (i + 1), by omega, i + 1, by omega, rfl, .intro (by simp) (by simp [depthsL_succ])⟩
    · obtain rfl : i = plan.length := by omega
      simp [hS.undef, hS.cells]
/- impl.DepthsOf -/
def R45 : Rel := fun _ vs _ rs _ => ∃ v xs w plan, vs = [v, w] ∧ Sl 26 pB v xs ∧ Sl 3 I w plan ∧ plan.length ≤ 1048576 ∧ rs = [if okN xs plan then pR 3 (depthsL plan plan.length) else .nil, .bool (okN xs plan)]
set_option maxHeartbeats 4000000 in
theorem v45 : SpecR Try.prog 45 sg45 R45 := by
  refine fnZ 37 (by kernel_rfl) (fn := Try.f45) (by kernel_rfl) (by kernel_rfl) (k45 R80) (by kernel_rfl) ⟨v80, trivial⟩ ?_
  rintro lim vs H rs H' ⟨v, xs, w, plan, rfl, hv, hw, hb, rfl⟩ - - -
  simp [c45, l45, List.replicate]
  refine goCall_pure rfl ⟨v, xs, w, plan, rfl, hv, hw, rfl⟩ (by simp) ?_
  cases h : okN xs plan
  · simp
  · obtain ⟨h1, h2, _, h4⟩ := okN_spec h
    have hl := nestOk_len h4
    have hmk : mksV 3 8 (I 0) (I plan.length) (I plan.length) = some (pR 3 (halfL (fun i => (depF plan i : Int)) (List.replicate plan.length 0) 0)) := by
      simp [mksV, half_zero, pR]
      omega
    simp [hw.len, hmk]
    refine goL_intro (fun m σ H'' => ∃ i : Nat, i ≤ plan.length ∧ m = plan.length - i ∧ Gar 39 [(1, w), (6, pR 3 (halfL (fun i => (depF plan i : Int)) (List.replicate plan.length 0) i)), (17, I plan.length), (18, I i)] σ) plan.length ⟨0, by omega, by omega, .intro (by simp) (by simp)⟩ ?_
    rintro m σ H'' ⟨i, hi', rfl, us, rfl⟩
    simp [gar, List.range, List.range.loop]
    refine ⟨fun hlt => ?_, fun hge => ?_⟩
    · have e1 : plan.getD i 0 = plan[i] := getD_nat hlt
      have hwi : IntKind.i64.wrap ((i : Int) + 1) = (i : Int) + 1 := wrap_id (by omega) (by omega)
      obtain ⟨hf1, hf2⟩ := first_at h hlt
      have hlr : i < (List.replicate plan.length (0 : Int)).length := by simpa using hlt
      have hhl := half_len (m := fun i => (depF plan i : Int)) (xs := List.replicate plan.length 0) (i := i) (by simp; omega)
      have hg := half_get (m := fun i => (depF plan i : Int)) hlr (by rw [hhl]; exact hlr)
      obtain ⟨L, hL⟩ : ∃ L, L = halfL (fun i => (depF plan i : Int)) (List.replicate plan.length 0) i := ⟨_, rfl⟩
      have hset := half_set (m := fun i => (depF plan i : Int)) hlr
      rw [← hL] at hset
      have hLl : L.length = plan.length := by rw [hL, hhl]; simp
      have hL0 : L.set i 0 = L := by
        apply List.ext_getElem (by simp)
        intro j h1 h2
        rw [List.getElem_set]
        split
        · subst j; subst hL; rw [hg]; simp
        · rfl
      simp [hw.iadd hlt, hw.elem hlt]
      rw [← e1, ← hL]
      refine goL_intro (fun m σ H'' => ∃ f c : Nat, ∃ k : Int, m = f ∧ (k < 0 ∨ k.toNat < xs.length) ∧ rankU xs k ≤ f ∧ c + dep plan f k = depF plan i ∧ Gar 39 [(1, w), (6, pR 3 (L.set i c)), (7, I i), (8, I k), (17, I plan.length), (18, I i)] σ) 51 ⟨51, 0, plan.getD i 0, by omega, hf1, hf2, by simp [depF], .intro (by simp) (by simp [hL0])⟩ ?_
      rintro m σ H'' ⟨f, c, k, rfl, hk, hr, hd, us, rfl⟩
      have hdl := dep_le (plan := plan) (f := 51) (k := plan.getD i 0)
      have hcb : c ≤ 51 := by unfold depF at hd; omega
      have hii : i < (L.set i (c : Int)).length := by simp; omega
      have hS : Sl 3 I (pR 3 (L.set i (c : Int))) (L.set i (c : Int)) := pR_Sl (by simp; omega)
      simp [gar, List.range, List.range.loop]
      refine ⟨fun hk0 => ?_, fun hk0 => ?_⟩
      · have hkl : k.toNat < xs.length := by omega
        obtain ⟨hu1, hu2⟩ := up_at h hk0 hkl
        have hkn : k.toNat < plan.length := by omega
        have e2 : plan.getD k.toNat 0 = plan[k.toNat] := getD_nat hkn
        have e3 : ((k.toNat : Nat) : Int) = k := by omega
        have hia : iaddV 3 w (I k) = some (.eix k.toNat 0) := by rw [← e3]; exact hw.iadd hkn
        have hst := dep_step (plan := plan) (f := m) hk0 (by omega)
        have hwc : IntKind.i64.wrap ((c : Int) + 1) = (c : Int) + 1 := wrap_id (by omega) (by omega)
        have hse : storeEV (pR 3 (L.set i (c : Int))) (.eix i 0) (I ((c : Int) + 1)) none = some (pR 3 (L.set i ((c : Int) + 1))) := by
          simp [pR, List.map_set, hLl, hlt]
        simp [hia, hw.elem hkn, hS.iadd hii, hS.elem hii, hwc, hse]
        rw [← e2]
        refine ⟨m - 1, by omega, c + 1, plan.getD k.toNat 0, hu1, by omega, by omega, .intro (by simp) (by simp)⟩
      · have hc : c = depF plan i := by rw [dep_neg (by omega)] at hd; omega
        subst hc
        simp [hwi]
        exact ⟨plan.length - (i + 1), by omega, i + 1, by omega, rfl, .intro (by simp) (by simp [hset])⟩
    · obtain rfl : i = plan.length := by omega
      have hall := half_all (m := fun i => (depF plan i : Int)) (xs := List.replicate plan.length 0) (i := plan.length) (by simp)
      rw [hall]
      simp [depthsL]
/- spec.ContentsOf -/
def R46 : Rel := fun _ vs _ rs _ => ∃ v xs w plan k, vs = [v, w, I k] ∧ Sl 26 pB v xs ∧ Sl 3 I w plan ∧ plan.length ≤ 1048576 ∧ rs = [if contN xs plan k then rowI 3 (contL plan k) else .nil, .bool (contN xs plan k)]
set_option maxHeartbeats 4000000 in
theorem v46 : SpecR Try.prog 46 sg46 R46 := by
  refine fnZ 32 (by kernel_rfl) (fn := Try.f46) (by kernel_rfl) (by kernel_rfl) (k46 R79 R81 R82) (by kernel_rfl) ⟨v79, v81, v82, trivial⟩ ?_
  rintro lim vs H rs H' ⟨v, xs, w, plan, k, rfl, hv, hw, hb, rfl⟩ - - -
  simp [c46, l46, List.replicate]
  refine goCall_pure rfl ⟨v, xs, w, plan, rfl, hv, hw, rfl⟩ (by simp) ?_
  cases h : okN xs plan
  · simp [contN_no1 h]
  · obtain ⟨h1, h2, _, h4⟩ := okN_spec h
    have hl := nestOk_len h4
    have hwl : IntKind.i64.wrap ((xs.length : Int) - 1) = (xs.length : Int) - 1 := wrap_id (by omega) (by omega)
    simp [hv.undef, hv.len, hwl]
    refine goCall_pure rfl ⟨_, _, _, rfl, rfl⟩ (by simp) ?_
    cases h3 : inR 0 (xs.length - 1) k
    · simp [contN_no2 h3]
    · rw [contN_yes h h3]
      simp [inR] at h3
      obtain ⟨hd1, hd2, hd3⟩ := down_at h h3.1 (by omega)
      have hrk := rankD_le h (k := k) (by omega)
      simp
      refine goCall_pure rfl ⟨w, plan, k, rfl, hw, rfl⟩ (by simp) ?_
      simp
      refine goL_intro (fun m σ H'' => ∃ f : Nat, ∃ at_ : Int, ∃ out : List Int, m = f ∧ (at_ < 0 ∨ at_.toNat < xs.length) ∧ rankD xs at_ ≤ f ∧ out ++ contF plan f at_ = contL plan k ∧ Gar 35 [(1, w), (8, rowI 3 out), (9, I at_)] σ) 51 ⟨51, idx (fun n => n == k) plan, [], by omega, hd2, by omega, by simp [contL], .intro (by simp) (by simp [rowI])⟩ ?_
      rintro m σ H'' ⟨f, at_, out, rfl, hk, hr, hd, us, rfl⟩
      have hcl := contL_len (plan := plan) (k := k)
      have hol : out.length ≤ 51 := by rw [← hd, List.length_append] at hcl; omega
      have hS := rowI_sl (e := 3) (l := out) (by omega)
      simp [gar, List.range, List.range.loop]
      refine ⟨fun hk0 => ?_, fun hk0 => ?_⟩
      · have hkl : at_.toNat < xs.length := by omega
        obtain ⟨hu1, hu2, hu3⟩ := down_at h hk0 hkl
        have hst := cont_step (plan := plan) (f := m) hk0 (by omega)
        have happ := rowI_app (e := 3) (l := out) (x := at_) (by omega)
        have hS2 := rowI_sl (e := 3) (l := out ++ [at_]) (by simp; omega)
        simp [happ, hS.undef, hS2.undef]
        refine goCall_pure rfl ⟨w, plan, at_, rfl, hw, rfl⟩ (by simp) ?_
        simp
        refine ⟨m - 1, by omega, idx (fun n => n == at_) plan, hu2, by omega, out ++ [at_], by rw [hst] at hd; simpa using hd, .intro (by simp) (by simp)⟩
      · obtain rfl : out = contL plan k := by rw [cont_neg (by omega)] at hd; simpa using hd
        simp [hS.undef, hS.cells]
/- impl.ContentsOf -/
def R47 : Rel := fun _ vs _ rs _ => ∃ v xs w plan k, vs = [v, w, I k] ∧ Sl 26 pB v xs ∧ Sl 3 I w plan ∧ plan.length ≤ 1048576 ∧ rs = [if contN xs plan k then pR 3 (contL plan k) else .nil, .bool (contN xs plan k)]
set_option maxHeartbeats 4000000 in
theorem v47 : SpecR Try.prog 47 sg47 R47 := by
  refine fnZ 32 (by kernel_rfl) (fn := Try.f47) (by kernel_rfl) (by kernel_rfl) (k47 R80 R83 R84) (by kernel_rfl) ⟨v80, v83, v84, trivial⟩ ?_
  rintro lim vs H rs H' ⟨v, xs, w, plan, k, rfl, hv, hw, hb, rfl⟩ - - -
  simp [c47, l47, List.replicate]
  refine goCall_pure rfl ⟨v, xs, w, plan, rfl, hv, hw, rfl⟩ (by simp) ?_
  cases h : okN xs plan
  · simp [contN_no1 h]
  · obtain ⟨h1, h2, _, h4⟩ := okN_spec h
    have hl := nestOk_len h4
    have hwl : IntKind.i64.wrap ((xs.length : Int) - 1) = (xs.length : Int) - 1 := wrap_id (by omega) (by omega)
    simp [hv.undef, hv.len, hwl]
    refine goCall_pure rfl ⟨_, _, _, rfl, rfl⟩ (by simp) ?_
    cases h3 : inR 0 (xs.length - 1) k
    · simp [contN_no2 h3]
    · rw [contN_yes h h3]
      simp [inR] at h3
      obtain ⟨hd1, hd2, hd3⟩ := down_at h h3.1 (by omega)
      have hrk := rankD_le h (k := k) (by omega)
      simp
      refine goCall_pure rfl ⟨w, plan, k, rfl, hw, rfl⟩ (by simp) ?_
      simp
      refine goL_intro (fun m σ H'' => ∃ f : Nat, ∃ at_ : Int, ∃ out : List Int, m = f ∧ (at_ < 0 ∨ at_.toNat < xs.length) ∧ rankD xs at_ ≤ f ∧ out ++ contF plan f at_ = contL plan k ∧ Gar 35 [(1, w), (2, I at_), (8, pR 3 out)] σ) 51 ⟨51, idx (fun n => n == k) plan, [], by omega, hd2, by omega, by simp [contL], .intro (by simp) (by simp [pR])⟩ ?_
      rintro m σ H'' ⟨f, at_, out, rfl, hk, hr, hd, us, rfl⟩
      have hcl := contL_len (plan := plan) (k := k)
      have hol : out.length ≤ 51 := by rw [← hd, List.length_append] at hcl; omega
      have hS : Sl 3 I (pR 3 out) out := pR_Sl (by omega)
      simp [gar, List.range, List.range.loop]
      refine ⟨fun hk0 => ?_, fun hk0 => ?_⟩
      · have hkl : at_.toNat < xs.length := by omega
        obtain ⟨hu1, hu2, hu3⟩ := down_at h hk0 hkl
        have hst := cont_step (plan := plan) (f := m) hk0 (by omega)
        have happ : appV 3 8 true (pR 3 out) (.sl 3 [I at_]) = some (pR 3 (out ++ [at_])) := hS.app1 (⟨.inl rfl, by simp⟩ : Sl 3 I (.sl 3 [I at_]) [at_]) (by simp) (by simp; omega)
        simp [happ]
        refine goCall_pure rfl ⟨w, plan, at_, rfl, hw, rfl⟩ (by simp) ?_
        simp
        refine ⟨m - 1, by omega, idx (fun n => n == at_) plan, hu2, by omega, out ++ [at_], by rw [hst] at hd; simpa using hd, .intro (by simp) (by simp)⟩
      · obtain rfl : out = contL plan k := by rw [cont_neg (by omega)] at hd; simpa using hd
        simp
end Go.Proofs.Ytnkjbncagnfnoaa
set_option autoImplicit false
set_option linter.unusedVariables false
set_option linter.unusedSimpArgs false
set_option linter.unnecessarySimpa false
namespace Go.Proofs.Ytnkjbncagnfnoaa
open Go.Den
/- laws.FnExactDepthsOf -/
def R11 : Rel := fun _ vs _ rs _ => ∃ v xs w plan, vs = [v, w] ∧ Sl 23 pB v xs ∧ Sl 3 I w plan ∧ rs = [.bool true]
set_option maxHeartbeats 8000000 in
theorem v11 : SpecR Try.prog 11 sg11 R11 := by
  refine fnZ 115 (by kernel_rfl) (fn := Try.f11) (by kernel_rfl) (by kernel_rfl) (k11 R19 R21 R22 R44 R45 R25 R24 R28 R29 R30) (by kernel_rfl) ⟨v19, v21, v22, v44, v45, v25, v24, v28, v29, v30, trivial⟩ ?_
  rintro lim vs H rs H' ⟨v, xs, w, plan, rfl, hv, hw, rfl⟩ - - -
  by_cases hp : (1048576 : Int) < plan.length
  · simp [c11, l11, List.replicate, hw.len, hp]
  · have hpl : plan.length ≤ 1048576 := by omega
    simp [c11, l11, List.replicate, hw.len, hp]
    refine goCall_pure rfl ⟨v, xs, _, rfl, hv, by omega, by omega, rfl⟩ (by simp) ?_
    by_cases hb : 1048576 - (xs.length : Int) < 0
    · simp [hb]
    · have hl : xs.length ≤ 1048576 := by omega
      have hx : Sl 26 pB (.sl 26 (xs.map pB)) xs := ⟨.inl rfl, by omega⟩
      have hy : Sl 3 I (.sl 3 (plan.map I)) plan := ⟨.inl rfl, by omega⟩
      have hxm := markV_sl (m := markB 1) hx
      have hym := markV_sl (m := markI (1 + 3 * xs.length)) hy
      rw [if_neg hb]
      obtain ⟨ns, g, u, hgd, hud, hg, hu, hgl⟩ : ∃ (ns : List Int) (g u : PV), g = (if okN xs plan then pR 3 (depthsL plan plan.length) else .nil) ∧ u = (if okN xs plan then rowI 3 (depthsL plan plan.length) else .nil) ∧ Sl 3 I g ns ∧ Sl 3 I u ns ∧ ns.length ≤ 1048576 := by
        cases okN xs plan
        · exact ⟨[], _, _, rfl, rfl, ⟨.inr ⟨rfl, rfl⟩, by simp⟩, ⟨.inr ⟨rfl, rfl⟩, by simp⟩, by simp⟩
        · exact ⟨depthsL plan plan.length, _, _, rfl, rfl, pR_Sl (by simp [depthsL]; omega), rowI_sl (by simp [depthsL]; omega), by simp [depthsL]; omega⟩
      obtain ⟨gm, hgm⟩ : ∃ gm, gm = markV 3 I (markI 1) g ns := ⟨_, rfl⟩
      have hms := markV_sl (m := markI 1) hg
      rw [← hgm] at hms
      have hml : ((List.range ns.length).map (markI 1)).length = ns.length := by simp
      have hmh := markL_ok (k := 1) hml (markL_eq)
      simp [hb]
      refine goCall_pure rfl ⟨v, xs, rfl, hv, hl, rfl⟩ (by simp) ?_
      simp
      refine goCall_pure rfl ⟨w, plan, rfl, hw, hpl, rfl⟩ (by simp) ?_
      simp
      refine goCall_pure rfl ⟨_, xs, _, plan, rfl, hx, hy, hpl, by rw [← hud]⟩ (by simp) ?_
      simp [hu.undef]
      refine goCall_pure rfl ⟨v, xs, rfl, hv, hl, rfl⟩ (by simp) ?_
      simp
      refine goCall_pure rfl ⟨w, plan, rfl, hw, hpl, rfl⟩ (by simp) ?_
      simp
      refine goCall_pure rfl ⟨_, xs, _, plan, rfl, hx, hy, hpl, by rw [← hgd]⟩ (by simp) ?_
      simp [hg.undef, hu.undef]
      refine goCall_pure rfl ⟨g, u, ns, ns, rfl, hg, hu, rfl⟩ (by simp) ?_
      simp
      refine goCall_pure rfl ⟨v, xs, rfl, hv, hl, rfl⟩ (by simp) ?_
      simp
      refine goCall_pure rfl ⟨_, _, xs, xs, rfl, hx, hx, rfl⟩ (by simp) ?_
      simp
      refine goCall_pure rfl ⟨w, plan, rfl, hw, hpl, rfl⟩ (by simp) ?_
      simp
      refine goCall_pure rfl ⟨_, _, plan, plan, rfl, hy, hy, rfl⟩ (by simp) ?_
      simp
      refine goM_intro (H2 := []) ⟨_, xs, 1, rfl, hx, by omega, by omega, by omega, rfl⟩ (by simp) hxm.undef ?_
      simp [hxm.undef]
      refine goM_intro (H2 := []) ⟨_, plan, 1 + 3 * (xs.length : Int), rfl, hy, by omega, by omega, by omega, rfl⟩ (by simp) hym.undef ?_
      have hnn : ¬ (1 + 3 * (xs.length : Int) + plan.length) < 0 := by omega
      simp [hxm.undef, hym.undef, hnn, hg.undef, hu.undef]
      refine goCall_pure rfl ⟨g, u, ns, ns, rfl, hg, hu, rfl⟩ (by simp) ?_
      simp [hg.undef]
      refine goM_intro (H2 := []) ⟨g, ns, 1, rfl, hg, by omega, by omega, by omega, by rw [← hgm]⟩ (by simp [hg.undef]) hms.undef ?_
      have hq : ¬ (1 + (ns.length : Int)) < 0 := by omega
      simp [hms.undef]
      refine goCall_pure rfl ⟨gm, _, 1, rfl, hms, by omega, by omega, by rw [hml]; omega, rfl⟩ (by simp) ?_
      rw [hmh]
      simp [hq]
      refine goCall_pure rfl ⟨v, xs, rfl, hv, hl, rfl⟩ (by simp) ?_
      simp
      refine goCall_pure rfl ⟨w, plan, rfl, hw, hpl, rfl⟩ (by simp) ?_
      simp
      refine goCall_pure rfl ⟨_, xs, _, plan, rfl, hx, hy, hpl, by rw [← hgd]⟩ (by simp) ?_
      simp [hg.undef, hu.undef]
      refine goCall_pure rfl ⟨g, u, ns, ns, rfl, hg, hu, rfl⟩ (by simp) ?_
      simp [hms.undef]
      refine goCall_pure rfl ⟨gm, _, 1, rfl, hms, by omega, by omega, by rw [hml]; omega, rfl⟩ (by simp) ?_
      rw [hmh]
      simp [hq]
/- laws.FnExactContentsOf -/
def R12 : Rel := fun _ vs _ rs _ => ∃ v xs w plan k, vs = [v, w, I k] ∧ Sl 23 pB v xs ∧ Sl 3 I w plan ∧ rs = [.bool true]
set_option maxHeartbeats 8000000 in
theorem v12 : SpecR Try.prog 12 sg12 R12 := by
  refine fnZ 119 (by kernel_rfl) (fn := Try.f12) (by kernel_rfl) (by kernel_rfl) (k12 R19 R21 R22 R46 R47 R25 R24 R28 R29 R30) (by kernel_rfl) ⟨v19, v21, v22, v46, v47, v25, v24, v28, v29, v30, trivial⟩ ?_
  rintro lim vs H rs H' ⟨v, xs, w, plan, k, rfl, hv, hw, rfl⟩ - - -
  by_cases hp : (1048576 : Int) < plan.length
  · simp [c12, l12, List.replicate, hw.len, hp]
  · have hpl : plan.length ≤ 1048576 := by omega
    simp [c12, l12, List.replicate, hw.len, hp]
    refine goCall_pure rfl ⟨v, xs, _, rfl, hv, by omega, by omega, rfl⟩ (by simp) ?_
    by_cases hb : 1048576 - (xs.length : Int) < 0
    · simp [hb]
    · have hl : xs.length ≤ 1048576 := by omega
      have hx : Sl 26 pB (.sl 26 (xs.map pB)) xs := ⟨.inl rfl, by omega⟩
      have hy : Sl 3 I (.sl 3 (plan.map I)) plan := ⟨.inl rfl, by omega⟩
      have hxm := markV_sl (m := markB 1) hx
      have hym := markV_sl (m := markI (1 + 3 * xs.length)) hy
      rw [if_neg hb]
      obtain ⟨ns, g, u, hgd, hud, hg, hu, hgl⟩ : ∃ (ns : List Int) (g u : PV), g = (if contN xs plan k then pR 3 (contL plan k) else .nil) ∧ u = (if contN xs plan k then rowI 3 (contL plan k) else .nil) ∧ Sl 3 I g ns ∧ Sl 3 I u ns ∧ ns.length ≤ 1048576 := by
        cases contN xs plan k
        · exact ⟨[], _, _, rfl, rfl, ⟨.inr ⟨rfl, rfl⟩, by simp⟩, ⟨.inr ⟨rfl, rfl⟩, by simp⟩, by simp⟩
        · exact ⟨contL plan k, _, _, rfl, rfl, pR_Sl (by have := contL_len (plan := plan) (k := k); omega), rowI_sl (by have := contL_len (plan := plan) (k := k); omega), by have := contL_len (plan := plan) (k := k); omega⟩
      obtain ⟨gm, hgm⟩ : ∃ gm, gm = markV 3 I (markI 1) g ns := ⟨_, rfl⟩
      have hms := markV_sl (m := markI 1) hg
      rw [← hgm] at hms
      have hml : ((List.range ns.length).map (markI 1)).length = ns.length := by simp
      have hmh := markL_ok (k := 1) hml (markL_eq)
      simp [hb]
      refine goCall_pure rfl ⟨v, xs, rfl, hv, hl, rfl⟩ (by simp) ?_
      simp
      refine goCall_pure rfl ⟨w, plan, rfl, hw, hpl, rfl⟩ (by simp) ?_
      simp
      refine goCall_pure rfl ⟨_, xs, _, plan, k, rfl, hx, hy, hpl, by rw [← hud]⟩ (by simp) ?_
      simp [hu.undef]
      refine goCall_pure rfl ⟨v, xs, rfl, hv, hl, rfl⟩ (by simp) ?_
      simp
      refine goCall_pure rfl ⟨w, plan, rfl, hw, hpl, rfl⟩ (by simp) ?_
      simp
      refine goCall_pure rfl ⟨_, xs, _, plan, k, rfl, hx, hy, hpl, by rw [← hgd]⟩ (by simp) ?_
      simp [hg.undef, hu.undef]
      refine goCall_pure rfl ⟨g, u, ns, ns, rfl, hg, hu, rfl⟩ (by simp) ?_
      simp
      refine goCall_pure rfl ⟨v, xs, rfl, hv, hl, rfl⟩ (by simp) ?_
      simp
      refine goCall_pure rfl ⟨_, _, xs, xs, rfl, hx, hx, rfl⟩ (by simp) ?_
      simp
      refine goCall_pure rfl ⟨w, plan, rfl, hw, hpl, rfl⟩ (by simp) ?_
      simp
      refine goCall_pure rfl ⟨_, _, plan, plan, rfl, hy, hy, rfl⟩ (by simp) ?_
      simp
      refine goM_intro (H2 := []) ⟨_, xs, 1, rfl, hx, by omega, by omega, by omega, rfl⟩ (by simp) hxm.undef ?_
      simp [hxm.undef]
      refine goM_intro (H2 := []) ⟨_, plan, 1 + 3 * (xs.length : Int), rfl, hy, by omega, by omega, by omega, rfl⟩ (by simp) hym.undef ?_
      have hnn : ¬ (1 + 3 * (xs.length : Int) + plan.length) < 0 := by omega
      simp [hxm.undef, hym.undef, hnn, hg.undef, hu.undef]
      refine goCall_pure rfl ⟨g, u, ns, ns, rfl, hg, hu, rfl⟩ (by simp) ?_
      simp [hg.undef]
      refine goM_intro (H2 := []) ⟨g, ns, 1, rfl, hg, by omega, by omega, by omega, by rw [← hgm]⟩ (by simp [hg.undef]) hms.undef ?_
      have hq : ¬ (1 + (ns.length : Int)) < 0 := by omega
      simp [hms.undef]
      refine goCall_pure rfl ⟨gm, _, 1, rfl, hms, by omega, by omega, by rw [hml]; omega, rfl⟩ (by simp) ?_
      rw [hmh]
      simp [hq]
      refine goCall_pure rfl ⟨v, xs, rfl, hv, hl, rfl⟩ (by simp) ?_
      simp
      refine goCall_pure rfl ⟨w, plan, rfl, hw, hpl, rfl⟩ (by simp) ?_
      simp
      refine goCall_pure rfl ⟨_, xs, _, plan, k, rfl, hx, hy, hpl, by rw [← hgd]⟩ (by simp) ?_
      simp [hg.undef, hu.undef]
      refine goCall_pure rfl ⟨g, u, ns, ns, rfl, hg, hu, rfl⟩ (by simp) ?_
      simp [hms.undef]
      refine goCall_pure rfl ⟨gm, _, 1, rfl, hms, by omega, by omega, by rw [hml]; omega, rfl⟩ (by simp) ?_
      rw [hmh]
      simp [hq]
end Go.Proofs.Ytnkjbncagnfnoaa
