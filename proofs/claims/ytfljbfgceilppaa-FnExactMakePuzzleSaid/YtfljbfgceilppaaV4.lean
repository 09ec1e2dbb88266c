/- Solutions and sure sizes. Conditions: none. -/
import Derived.Test.YtfljbfgceilppaaV3
import Derived.Test.YtfljbfgceilppaaV2
set_option linter.unusedVariables false
set_option linter.unusedSimpArgs false
set_option linter.unnecessarySimpa false
set_option autoImplicit false
set_option linter.unusedSimpArgs false
set_option linter.unusedVariables false
namespace Go.Den
/-- The marks of the row number i, when all rows have d numbers. -/
def mrow (k : Int) (d : Nat) (i : Nat) : List Int := markL (k + ((d * i : Nat) : Int)) d
@[simp] theorem mrow_len {k : Int} {d i : Nat} : (mrow k d i).length = d := by simp [mrow]
theorem mul_bound {d i m : Nat} (hd : d ≤ 1048576) (hi : i ≤ m) (hm : m ≤ 1048576) : d * i ≤ 1099511627776 := by
  have := Nat.mul_le_mul hd (Nat.le_trans hi hm)
  omega
theorem reCell_pR {e : Nat} {x : List Int} {v : PV} : reCell (pR e x) 0 v = v := rfl
theorem reOk_pR {e : Nat} {x y : List Int} : reOk (pR e x) (pR e y) = true := rfl
theorem markV_pR {e : Nat} {k : Int} {x : List Int} : markV e I (markI k) (pR e x) x = pR e (markL k x.length) := by
  unfold markV
  split
  · rename_i h; subst h; rfl
  · rfl
theorem pR_noAgg {e : Nat} {x : List Int} : (pR e x).noAgg = true := rfl
theorem pR_Sl {e : Nat} {x : List Int} (h : x.length ≤ 9223372036854775807) : Sl e I (pR e x) x := ⟨.inl rfl, h⟩
/-! ### Sure sizes -/
def so (f : List Int) (R : List (List Int)) (i : Nat) : Int := if R.all (fun x => x.getD i 0 == f.getD i 0) then f.getD i 0 else -1
def sureL (f : List Int) (R : List (List Int)) : List Int := (List.range f.length).map (so f R)
@[simp] theorem sureL_len {f : List Int} {R : List (List Int)} : (sureL f R).length = f.length := by simp [sureL]
theorem sureL_zero {f : List Int} : sureL f [] = f := by
  apply List.ext_getElem (by simp)
  intro i h1 h2
  simp [sureL, so, List.getD, h2]
theorem sureL_get {f : List Int} {R : List (List Int)} {i : Nat} (h : i < f.length) (h' : i < (sureL f R).length) : (sureL f R)[i] = so f R i := by simp [sureL]
theorem so_impl {f : List Int} {R : List (List Int)} {x : List Int} {i : Nat} (h : i < f.length) (hx : i < x.length) : so f (R ++ [x]) i = if x[i] = f[i] then so f R i else -1 := by
  unfold so
  have e1 : x.getD i 0 = x[i] := by simp [List.getD, hx]
  have e2 : f.getD i 0 = f[i] := by simp [List.getD, h]
  simp only [List.all_append, List.all_cons, List.all_nil, e1, e2, Bool.and_true]
  by_cases hq : x[i] = f[i]
  · simp [hq]
  · simp [hq]
theorem so_spec {f : List Int} {R : List (List Int)} {x : List Int} {i : Nat} (h : i < f.length) (hx : i < x.length) (hp : x[i] ≠ -1) : so f (R ++ [x]) i = if x[i] = so f R i then so f R i else -1 := by
  rw [so_impl h hx]
  unfold so
  have e2 : f.getD i 0 = f[i] := by simp [List.getD, h]
  split <;> split <;> simp_all
def sureV (e : Nat) (l : List (List Int)) : PV := match l with
  | [] => .nil
  | f :: R => pR e (sureL f (f :: R))
theorem sure_sl {e : Nat} {n : Int} {cs : List Cl} : ∃ ns, Sl e I (if okP n cs then sureV e (sols n cs) else .nil) ns ∧ ns.length ≤ 4 := by
  split
  · rename_i h
    obtain ⟨h1, h2, _⟩ := okP_spec h
    cases hl : sols n cs with
    | nil => exact ⟨[], ⟨.inr ⟨rfl, rfl⟩, by simp⟩, by simp⟩
    | cons x l =>
      have := sols_mem (n := n) (cs := cs) (ys := x) (by rw [hl]; simp)
      exact ⟨sureL x (x :: l), ⟨.inl rfl, by simp; omega⟩, by simp; omega⟩
  · exact ⟨[], ⟨.inr ⟨rfl, rfl⟩, by simp⟩, by simp⟩
theorem sols_pos {n : Int} {cs : List Cl} {ys : List Int} (h : ys ∈ sols n cs) : ∀ y ∈ ys, 1 ≤ y ∧ y ≤ 6 := fun y hy => by
  rcases (solsL_mem h).2.1 y hy with h | h
  · cases h
  · exact h
end Go.Den
set_option autoImplicit false
set_option linter.unusedVariables false
set_option linter.unusedSimpArgs false
set_option linter.unnecessarySimpa false
namespace Go.Proofs.Ytfljbfgceilppaa
open Go.Den
/- spec.Solutions -/
def R38 : Rel := fun _ vs _ rs _ => ∃ n v cs, vs = [pP n v] ∧ Sl 27 pC v cs ∧ rs = [if okP n cs then addV 24 3 .nil [] (sols n cs) else .nil, .bool (okP n cs)]
theorem v38 : SpecR Try.prog 38 sg38 R38 := by
  refine fnZ 11 (by kernel_rfl) (fn := Try.f38) (by kernel_rfl) (by kernel_rfl) (k38 R65 R66) (by kernel_rfl) ⟨v65, v66, trivial⟩ ?_
  rintro lim vs H rs H' ⟨n, v, cs, rfl, hv, rfl⟩ - - -
  simp [c38, l38, List.replicate, hv.undef, hv.cells]
  refine goCall_pure rfl ⟨n, v, cs, rfl, hv, rfl⟩ (by simp) ?_
  cases h : okP n cs
  · simp
  · obtain ⟨h1, h2, h3, h4⟩ := okP_spec h
    have h0 : Sl 24 (pR 3) .nil [] := ⟨.inr ⟨rfl, rfl⟩, by simp⟩
    have hs := sols_len (cs := cs) h2
    have hS := addV_sl h0 (l := sols n cs) (by simp; omega)
    simp [hv.undef, hv.cells]
    refine goCall_pure rfl ⟨n, v, cs, rfl, hv, h1, h2, h4, rfl⟩ (by simp) ?_
    simp [hS.undef]
/- laws.eqIntSS -/
def R40 : Rel := fun _ vs _ rs _ => ∃ v w xs ys, vs = [v, w] ∧ Sl 24 (pR 3) v xs ∧ Sl 24 (pR 3) w ys ∧ (∀ x ∈ xs, x.length ≤ 1048576) ∧ (∀ x ∈ ys, x.length ≤ 1048576) ∧ rs = [.bool (decide (xs = ys))]
theorem v40 : SpecR Try.prog 40 sg40 R40 := by
  refine fnZ 25 (by kernel_rfl) (fn := Try.f40) (by kernel_rfl) (by kernel_rfl) (k40 R18) (by kernel_rfl) ⟨v18, trivial⟩ ?_
  rintro lim vs H rs H' ⟨v, w, ns, ms, rfl, hv, hw, hb1, hb2, rfl⟩ - - -
  have hlen := hv.2
  simp [c40, List.replicate, hv.len, hw.len]
  refine ⟨fun h e => h (by rw [e]), fun hle => ?_⟩
  have hle' : ns.length = ms.length := by omega
  refine goL_intro (fun n σ H'' => ∃ i : Nat, i ≤ ns.length ∧ n = ns.length - i ∧ ns.take i = ms.take i ∧ σ = slots 27 [(0, v), (1, w), (5, I i)]) ns.length ⟨0, by omega, by omega, rfl, by simp [slots, List.replicate]⟩ ?_
  rintro n σ H'' ⟨i, hi', rfl, hT, rfl⟩
  simp [slots, List.replicate, hv.len]
  refine ⟨fun hlt => ?_, fun hge => ?_⟩
  · have hlt2 : i < ms.length := by omega
    have b1 := hb1 _ (List.getElem_mem hlt)
    have b2 := hb2 _ (List.getElem_mem hlt2)
    simp [hv.iadd hlt, hv.elem hlt, hw.iadd hlt2, hw.elem hlt2, l40]
    refine goCall_pure rfl ⟨_, _, ns[i], ms[i], rfl, pR_Sl (by omega), pR_Sl (by omega), rfl⟩ (by simp) ?_
    simp
    refine ⟨fun hne e => ?_, fun heq => ?_⟩
    · subst e; exact hne rfl
    · refine ⟨ns.length - (i + 1), by omega, i + 1, by omega, rfl, ?_, ?_⟩
      · rw [List.take_succ_eq_append_getElem hlt, List.take_succ_eq_append_getElem hlt2, hT, heq]
      · rw [wrap_id (by omega) (by omega)]; simp
  · rw [List.take_of_length_le hge, List.take_of_length_le (by omega)] at hT
    simpa using hT
/- laws.markIntSS -/
def R41 : Rel := fun _ vs _ rs _ => ∃ v xs k d, vs = [v, I k] ∧ Sl 24 (pR 3) v xs ∧ (∀ x ∈ xs, x.length = d) ∧ 0 ≤ k ∧ k ≤ 1048576 ∧ d ≤ 1048576 ∧ xs.length ≤ 1048576 ∧ rs = [I (k + ((d * xs.length : Nat) : Int)), markV 24 (pR 3) (mrow k d) v xs]
theorem v41 : SpecR Try.prog 41 sg41 R41 := by
  refine fnZ 17 (by kernel_rfl) (fn := Try.f41) (by kernel_rfl) (by kernel_rfl) (k41 R22) (by kernel_rfl) ⟨v22, trivial⟩ ?_
  rintro lim vs H rs H' ⟨v, ns, k, d, rfl, hv, hd, h0, h1, h2, h3, rfl⟩ - - -
  simp only [c41]
  simp [List.replicate]
  refine goL_intro (fun n σ H'' => ∃ i : Nat, ∃ w, i ≤ ns.length ∧ n = ns.length - i ∧ Sl 24 (pR 3) w (halfL (mrow k d) ns i) ∧ (i = 0 → w = v) ∧ σ = slots 19 [(0, w), (1, I (k + ((d * i : Nat) : Int))), (5, I i)]) ns.length ⟨0, v, by omega, by omega, by rw [half_zero]; exact hv, fun _ => rfl, by simp [slots, List.replicate]⟩ ?_
  rintro n σ H'' ⟨i, w, hi', rfl, hw, hw0, rfl⟩
  obtain ⟨q, hq⟩ : ∃ q : Nat, q = d * i := ⟨_, rfl⟩
  have hqb := mul_bound h2 hi' h3
  have hqs : d * (i + 1) = q + d := by rw [hq, Nat.mul_succ]
  rw [← hq] at hqb ⊢
  have hhl := half_len (m := mrow k d) (xs := ns) hi'
  simp [slots, List.replicate, hw.len, hhl]
  refine ⟨fun hlt => ?_, fun hge => ?_⟩
  · have hne : halfL (mrow k d) ns i ≠ [] := by rintro h; rw [h] at hhl; simp at hhl; omega
    obtain rfl := hw.sl_of hne
    have hi2 : i < (halfL (mrow k d) ns i).length := by omega
    have hdi := hd _ (List.getElem_mem hlt)
    have hw2 : IntKind.i64.wrap ((i : Int) + 1) = (i : Int) + 1 := wrap_id (by omega) (by omega)
    have hgi := half_get (m := mrow k d) hlt hi2
    simp [hhl, hlt, hw2, hgi, l41]
    refine goM_intro (H2 := []) ⟨_, ns[i], k + q, rfl, pR_Sl (by omega), by omega, by omega, by omega, rfl⟩ (by simp) (by rw [markV_pR]; rfl) ?_
    rw [markV_pR, hdi]
    have hm : pR 3 (markL (k + q) d) = pR 3 (mrow k d i) := by rw [mrow, hq]
    rw [hm]
    simp [hhl, hlt, hgi, reCell_pR, reOk_pR, pR_noAgg, hw2]
    refine ⟨ns.length - (i + 1), by omega, i + 1, by omega, rfl, _, ⟨.inl (by rw [← half_set hlt, List.map_set]), by rw [half_len (by omega)]; exact hv.2⟩, by simp, rfl, by rw [← Int.natCast_mul, hqs]; push_cast; omega, by simp⟩
  · obtain rfl : i = ns.length := by omega
    obtain rfl := markV_of hw hw0
    simp [hw.undef, hw.cells, hq]
/- laws.heldIntSS -/
def R42 : Rel := fun _ vs _ rs _ => ∃ v xs k d, vs = [v, I k] ∧ Sl 24 (pR 3) v xs ∧ (∀ x ∈ xs, x.length = d) ∧ 0 ≤ k ∧ k ≤ 1048576 ∧ d ≤ 1048576 ∧ xs.length ≤ 1048576 ∧ xs = (List.range xs.length).map (mrow k d) ∧ rs = [I (k + ((d * xs.length : Nat) : Int))]
theorem v42 : SpecR Try.prog 42 sg42 R42 := by
  refine fnZ 19 (by kernel_rfl) (fn := Try.f42) (by kernel_rfl) (by kernel_rfl) (k42 R35) (by kernel_rfl) ⟨v35, trivial⟩ ?_
  rintro lim vs H rs H' ⟨v, ns, k, d, rfl, hv, hd, h0, h1, h2, h3, heq, rfl⟩ - - -
  simp only [c42]
  simp [List.replicate]
  refine goL_intro (fun n σ H'' => ∃ i : Nat, i ≤ ns.length ∧ n = ns.length - i ∧ σ = slots 21 [(0, v), (1, I (k + ((d * i : Nat) : Int))), (5, I i)]) ns.length ⟨0, by omega, by omega, by simp [slots, List.replicate]⟩ ?_
  rintro n σ H'' ⟨i, hi', rfl, rfl⟩
  obtain ⟨q, hq⟩ : ∃ q : Nat, q = d * i := ⟨_, rfl⟩
  have hqb := mul_bound h2 hi' h3
  have hqs : d * (i + 1) = q + d := by rw [hq, Nat.mul_succ]
  rw [← hq] at hqb ⊢
  simp [slots, List.replicate, hv.len]
  refine ⟨fun hlt => ?_, fun hge => ?_⟩
  · have hdi := hd _ (List.getElem_mem hlt)
    have hw2 : IntKind.i64.wrap ((i : Int) + 1) = (i : Int) + 1 := wrap_id (by omega) (by omega)
    have hrow : ns[i] = markL (k + q) d := by
      have e : ns[i] = ((List.range ns.length).map (mrow k d))[i]'(by simpa using hlt) := by congr 1
      rw [e]; simp [mrow, hq]
    simp [hv.iadd hlt, hv.elem hlt, hw2, l42]
    refine goCall_pure rfl ⟨_, ns[i], k + q, rfl, pR_Sl (by omega), by omega, by omega, by omega, rfl⟩ (by simp) ?_
    have hn : ¬ (k + (q : Int) + d) < 0 := by omega
    rw [hdi, if_pos hrow]
    simp [hn]
    exact ⟨ns.length - (i + 1), by omega, i + 1, by omega, rfl, by rw [← Int.natCast_mul, hqs]; push_cast; omega, by rw [hw2]; simp⟩
  · obtain rfl : i = ns.length := by omega
    simp [hq]
/- laws.FnExactSolutions -/
def R10 : Rel := fun _ vs _ rs _ => ∃ n v xs, vs = [pP n v] ∧ Sl 23 pC v xs ∧ rs = [.bool true]
set_option maxHeartbeats 4000000 in
theorem v10 : SpecR Try.prog 10 sg10 R10 := by
  refine fnZ 95 (by kernel_rfl) (fn := Try.f10) (by kernel_rfl) (by kernel_rfl) (k10 R25 R27 R38 R39 R40 R21 R23 R41 R42) (by kernel_rfl) ⟨v25, v27, v38, v39, v40, v21, v23, v41, v42, trivial⟩ ?_
  rintro lim vs H rs H' ⟨n, v, xs, rfl, hv, rfl⟩ - - -
  simp [c10, l10, List.replicate, hv.undef, hv.cells]
  refine goCall_pure rfl ⟨n, v, xs, _, rfl, hv, by omega, by omega, rfl⟩ (by simp) ?_
  by_cases hb : 1048576 - (xs.length : Int) < 0
  · simp [hb]
  · have hl : xs.length ≤ 1048576 := by omega
    have hw : Sl 27 pC (.sl 27 (xs.map pC)) xs := ⟨.inl rfl, by omega⟩
    rw [if_neg hb]
    simp [hb, hv.undef, hv.cells]
    refine goCall_pure rfl ⟨n, v, xs, rfl, hv, hl, rfl⟩ (by simp) ?_
    simp
    obtain ⟨ns, d, g, u, hgd, hud, hg, hu, hgl, hdl, hdd⟩ : ∃ (ns : List (List Int)) (d : Nat) (g u : PV), g = (if okP n xs then addV 24 3 (.sl 24 []) [] (sols n xs) else .nil) ∧ u = (if okP n xs then addV 24 3 .nil [] (sols n xs) else .nil) ∧ Sl 24 (pR 3) g ns ∧ Sl 24 (pR 3) u ns ∧ ns.length ≤ 1296 ∧ d ≤ 4 ∧ ∀ x ∈ ns, x.length = d := by
      cases h : okP n xs
      · exact ⟨[], 0, _, _, rfl, rfl, ⟨.inr ⟨rfl, rfl⟩, by simp⟩, ⟨.inr ⟨rfl, rfl⟩, by simp⟩, by simp, by simp, by simp⟩
      · obtain ⟨h1, h2, h3, h4⟩ := okP_spec h
        have hs := sols_len (cs := xs) h2
        have h0 : Sl 24 (pR 3) .nil [] := ⟨.inr ⟨rfl, rfl⟩, by simp⟩
        have h00 : Sl 24 (pR 3) (.sl 24 []) [] := ⟨.inl rfl, by simp⟩
        have a1 := addV_sl h0 (l := sols n xs) (by simp; omega)
        have a2 := addV_sl h00 (l := sols n xs) (by simp; omega)
        simp only [List.nil_append] at a1 a2
        exact ⟨sols n xs, n.toNat, _, _, rfl, rfl, a2, a1, hs, by omega, fun x hx => sols_mem hx⟩
    have hdb : ∀ x ∈ ns, x.length ≤ 1048576 := fun x hx => by rw [hdd x hx]; omega
    obtain ⟨gm, hgm⟩ : ∃ gm, gm = markV 24 (pR 3) (mrow 1 d) g ns := ⟨_, rfl⟩
    have hms := markV_sl (m := mrow 1 d) hg
    rw [← hgm] at hms
    have hml : ((List.range ns.length).map (mrow 1 d)).length = ns.length := by simp
    have hmd : ∀ x ∈ (List.range ns.length).map (mrow 1 d), x.length = d := by
      intro x hx
      obtain ⟨i, _, rfl⟩ := List.mem_map.1 hx
      simp
    have hcm := markV_sl (m := markC 1) hw
    obtain ⟨q, hqe⟩ : ∃ q : Nat, q = d * ns.length := ⟨_, rfl⟩
    refine goCall_pure rfl ⟨n, _, xs, rfl, hw, by rw [← hud]⟩ (by simp) ?_
    simp [hv.undef, hv.cells, hu.undef]
    refine goCall_pure rfl ⟨n, v, xs, rfl, hv, hl, rfl⟩ (by simp) ?_
    simp
    refine goCall_pure rfl ⟨n, _, xs, rfl, hw, by rw [← hgd]⟩ (by simp) ?_
    simp [hv.undef, hv.cells, hg.undef, hu.undef]
    refine goCall_pure rfl ⟨g, u, ns, ns, rfl, hg, hu, hdb, hdb, rfl⟩ (by simp) ?_
    simp [hv.undef, hv.cells]
    refine goCall_pure rfl ⟨n, v, xs, rfl, hv, hl, rfl⟩ (by simp) ?_
    simp
    refine goCall_pure rfl ⟨n, _, xs, n, _, xs, rfl, hw, hw, rfl⟩ (by simp) ?_
    simp [undefs]
    refine goM_intro (H2 := []) ⟨n, _, xs, 1, rfl, hw, by omega, by omega, by omega, rfl⟩ (by simp) (by simp) ?_
    have hnn : ¬ (1 + 4 * (xs.length : Int)) < 0 := by omega
    simp [hcm.undef, hcm.cells, hnn, hg.undef, hu.undef]
    refine goCall_pure rfl ⟨g, u, ns, ns, rfl, hg, hu, hdb, hdb, rfl⟩ (by simp) ?_
    simp [hg.undef]
    refine goM_intro (H2 := []) ⟨g, ns, 1, d, rfl, hg, hdd, by omega, by omega, by omega, by omega, by rw [← hgm, ← hqe]⟩ (by simp [hg.undef]) hms.undef ?_
    have hq : ¬ (1 + (q : Int)) < 0 := by omega
    simp [hms.undef]
    refine goCall_pure rfl ⟨gm, _, 1, d, rfl, hms, hmd, by omega, by omega, by omega, by rw [hml]; omega, by rw [hml], by rw [hml, ← hqe]⟩ (by simp) ?_
    simp [hq, hv.undef, hv.cells]
    refine goCall_pure rfl ⟨n, v, xs, rfl, hv, hl, rfl⟩ (by simp) ?_
    simp
    refine goCall_pure rfl ⟨n, _, xs, rfl, hw, by rw [← hgd]⟩ (by simp) ?_
    simp [hg.undef, hu.undef]
    refine goCall_pure rfl ⟨g, u, ns, ns, rfl, hg, hu, hdb, hdb, rfl⟩ (by simp) ?_
    simp [hms.undef]
    refine goCall_pure rfl ⟨gm, _, 1, d, rfl, hms, hmd, by omega, by omega, by omega, by rw [hml]; omega, by rw [hml], by rw [hml, ← hqe]⟩ (by simp) ?_
    simp [hq]
end Go.Proofs.Ytfljbfgceilppaa
set_option autoImplicit false
set_option linter.unusedVariables false
set_option linter.unusedSimpArgs false
set_option linter.unnecessarySimpa false
namespace Go.Proofs.Ytfljbfgceilppaa
open Go.Den
/- spec.SureSizes -/
def R43 : Rel := fun _ vs _ rs _ => ∃ n v cs, vs = [pP n v] ∧ Sl 27 pC v cs ∧ rs = [if okP n cs then sureV 3 (sols n cs) else .nil, .bool (okP n cs && !(sols n cs).isEmpty)]
set_option maxHeartbeats 8000000 in
theorem v43 : SpecR Try.prog 43 sg43 R43 := by
  refine fnZ 49 (by kernel_rfl) (fn := Try.f43) (by kernel_rfl) (by kernel_rfl) (k43 R65 R66 R71) (by kernel_rfl) ⟨v65, v66, v71, trivial⟩ ?_
  rintro lim vs H rs H' ⟨n, v, cs, rfl, hv, rfl⟩ - - -
  simp [c43, l43, List.replicate, hv.undef, hv.cells]
  refine goCall_pure rfl ⟨n, v, cs, rfl, hv, rfl⟩ (by simp) ?_
  cases h : okP n cs
  · simp
  · obtain ⟨h1, h2, h3, h4⟩ := okP_spec h
    have hs := sols_len (cs := cs) h2
    simp [hv.undef, hv.cells]
    refine goCall_pure rfl ⟨n, v, cs, rfl, hv, h1, h2, h4, rfl⟩ (by simp) ?_
    have hmem := fun ys (hy : ys ∈ sols n cs) => (⟨sols_mem hy, sols_pos hy⟩ : ys.length = n.toNat ∧ ∀ y ∈ ys, 1 ≤ y ∧ y ≤ 6)
    obtain ⟨l, hl⟩ : ∃ l, l = sols n cs := ⟨_, rfl⟩
    rw [← hl]
    rw [← hl] at hs hmem
    cases l with
    | nil => simp [addV, sureV]
    | cons f R =>
      obtain ⟨rows, hrows⟩ : ∃ rows, rows = f :: R := ⟨_, rfl⟩
      have hf := hmem f (by simp)
      have hpos : 0 < rows.length := by rw [hrows]; simp
      have hv0 : sureV 3 (f :: R) = pR 3 (sureL f rows) := by rw [hrows]; rfl
      have hf0 : rows[0] = f := by simp [hrows]
      rw [hv0]
      have hne0 : (f :: R).isEmpty = false := rfl
      rw [hne0]
      have haddv : addV 24 3 .nil [] (f :: R) = .sl 24 (rows.map (pR 3)) := by rw [hrows]; rfl
      rw [haddv]
      have hS : Sl 24 (pR 3) (.sl 24 (rows.map (pR 3))) rows := ⟨.inl rfl, by rw [hrows]; omega⟩
      rw [← hrows] at hs hmem
      have hni : ¬ (rows.length : Int) = 0 := by omega
      have hnn : rows ≠ [] := by rw [hrows]; simp
      obtain ⟨A, hA⟩ : ∃ A, A = PV.sl 24 (rows.map (pR 3)) := ⟨_, rfl⟩
      rw [← hA] at hS ⊢
      have hi0 : iaddV 24 A (.int .i64 0) = some (.eix 0 0) := hS.iadd hpos
      have he0 := hS.elem (j := 0) (n := none) hpos
      simp [hS.undef, hS.len, hni, hi0, he0, hf0, hnn]
      refine goCall_pure rfl ⟨_, f, rfl, pR_Sl (by omega), by omega, rfl⟩ (by simp) ?_
      simp [hS.len, hS.undef]
      refine goL_intro (fun m σ H'' => ∃ j : Nat, j ≤ rows.length ∧ m = rows.length - j ∧ Gar 50 [(4, A), (5, pR 3 (sureL f (rows.take j))), (24, A), (25, I rows.length), (26, I j)] σ) rows.length ⟨0, by omega, by omega, .intro (by simp) (by simp [sureL_zero, pR])⟩ ?_
      rintro m σ H'' ⟨j, hj, rfl, us, rfl⟩
      simp [gar, List.range, List.range.loop]
      refine ⟨fun hlt => ?_, fun hge => ?_⟩
      · have hr := hmem _ (List.getElem_mem hlt)
        simp [hS.iadd hlt, hS.elem hlt]
        simp [pR]
        refine goL_intro (fun m σ H'' => ∃ i : Nat, i ≤ f.length ∧ m = f.length - i ∧ Gar 50 [(4, A), (5, .sl 3 ((halfL (so f (rows.take (j + 1))) (sureL f (rows.take j)) i).map I)), (7, .sl 3 (rows[j].map I)), (24, A), (25, I rows.length), (26, I j), (31, I f.length), (32, I i)] σ) f.length ⟨0, by omega, by omega, .intro (by simp) (by simp [half_zero])⟩ ?_
        rintro m σ H'' ⟨i, hi, rfl, us, rfl⟩
        simp [gar, List.range, List.range.loop]
        have hhl : (halfL (so f (rows.take (j + 1))) (sureL f (rows.take j)) i).length = f.length := by rw [half_len (by simpa using hi)]; simp
        refine ⟨fun hlt2 => ?_, fun hge2 => ?_⟩
        · have hx : i < rows[j].length := by omega
          have hp := hr.2 _ (List.getElem_mem hx)
          have hso := so_spec (f := f) (R := rows.take j) (x := rows[j]) hlt2 hx (by omega)
          rw [← List.take_succ_eq_append_getElem hlt] at hso
          have hsl : i < (sureL f (rows.take j)).length := by simpa using hlt2
          have hhi : i < (halfL (so f (rows.take (j + 1))) (sureL f (rows.take j)) i).length := by omega
          have hgi := half_get (m := so f (rows.take (j + 1))) hsl hhi
          rw [sureL_get hlt2] at hgi
          have hw2 : IntKind.i64.wrap ((i : Int) + 1) = (i : Int) + 1 := wrap_id (by omega) (by omega)
          simp [hx, hhl, hlt2, hgi, hw2]
          refine ⟨fun hne => ?_, fun heq => ?_⟩
          · rw [if_neg hne] at hso
            refine ⟨f.length - (i + 1), by omega, i + 1, by omega, rfl, .intro (by simp) ?_⟩
            have e := half_set (m := so f (rows.take (j + 1))) hsl
            rw [hso] at e
            simp [← e, List.map_set]
          · rw [if_pos heq] at hso
            refine ⟨f.length - (i + 1), by omega, i + 1, by omega, rfl, .intro (by simp) ?_⟩
            have e := half_set (m := so f (rows.take (j + 1))) hsl
            rw [hso, ← hgi, List.set_getElem_self] at e
            simp [← e]
        · obtain rfl : i = f.length := by omega
          have hw2 : IntKind.i64.wrap ((j : Int) + 1) = (j : Int) + 1 := wrap_id (by omega) (by omega)
          have e := half_all (m := so f (rows.take (j + 1))) (xs := sureL f (rows.take j)) (i := f.length) (by simp)
          simp [hw2]
          refine ⟨rows.length - (j + 1), by omega, j + 1, by omega, rfl, .intro (by simp) ?_⟩
          rw [e]
          simp [sureL, pR]
      · rw [List.take_of_length_le hge]
end Go.Proofs.Ytfljbfgceilppaa
set_option autoImplicit false
set_option linter.unusedVariables false
set_option linter.unusedSimpArgs false
set_option linter.unnecessarySimpa false
namespace Go.Proofs.Ytfljbfgceilppaa
open Go.Den
/- impl.SureSizes -/
def R44 : Rel := fun _ vs _ rs _ => ∃ n v cs, vs = [pP n v] ∧ Sl 27 pC v cs ∧ rs = [if okP n cs then sureV 3 (sols n cs) else .nil, .bool (okP n cs && !(sols n cs).isEmpty)]
set_option maxHeartbeats 8000000 in
theorem v44 : SpecR Try.prog 44 sg44 R44 := by
  refine fnZ 49 (by kernel_rfl) (fn := Try.f44) (by kernel_rfl) (by kernel_rfl) (k44 R39 R72) (by kernel_rfl) ⟨v39, v72, trivial⟩ ?_
  rintro lim vs H rs H' ⟨n, v, cs, rfl, hv, rfl⟩ - - -
  simp [c44, l44, List.replicate, hv.undef, hv.cells]
  refine goCall_pure rfl ⟨n, v, cs, rfl, hv, rfl⟩ (by simp) ?_
  cases h : okP n cs
  · simp
  · obtain ⟨h1, h2, h3, h4⟩ := okP_spec h
    have hs := sols_len (cs := cs) h2
    have hmem := fun ys (hy : ys ∈ sols n cs) => (⟨sols_mem hy, sols_pos hy⟩ : ys.length = n.toNat ∧ ∀ y ∈ ys, 1 ≤ y ∧ y ≤ 6)
    obtain ⟨l, hl⟩ : ∃ l, l = sols n cs := ⟨_, rfl⟩
    rw [← hl]
    rw [← hl] at hs hmem
    cases l with
    | nil => simp [addV, sureV]
    | cons f R =>
      obtain ⟨rows, hrows⟩ : ∃ rows, rows = f :: R := ⟨_, rfl⟩
      have hf := hmem f (by simp)
      have hpos : 0 < rows.length := by rw [hrows]; simp
      have hv0 : sureV 3 (f :: R) = pR 3 (sureL f rows) := by rw [hrows]; rfl
      have hf0 : rows[0] = f := by simp [hrows]
      rw [hv0]
      have hne0 : (f :: R).isEmpty = false := rfl
      rw [hne0]
      have haddv : addV 24 3 (.sl 24 []) [] (f :: R) = .sl 24 (rows.map (pR 3)) := by rw [hrows]; rfl
      rw [haddv]
      have hS : Sl 24 (pR 3) (.sl 24 (rows.map (pR 3))) rows := ⟨.inl rfl, by rw [hrows]; omega⟩
      rw [← hrows] at hs hmem
      have hni : ¬ (rows.length : Int) = 0 := by omega
      have hnn : rows ≠ [] := by rw [hrows]; simp
      obtain ⟨A, hA⟩ : ∃ A, A = PV.sl 24 (rows.map (pR 3)) := ⟨_, rfl⟩
      rw [← hA] at hS ⊢
      have hi0 : iaddV 24 A (.int .i64 0) = some (.eix 0 0) := hS.iadd hpos
      have he0 := hS.elem (j := 0) (n := none) hpos
      simp [hS.undef, hS.len, hni, hi0, he0, hf0, hnn]
      refine goCall_pure rfl ⟨_, f, rfl, pR_Sl (by omega), by omega, rfl⟩ (by simp) ?_
      simp [hS.len, hS.undef]
      refine goL_intro (fun m σ H'' => ∃ j : Nat, j ≤ rows.length ∧ m = rows.length - j ∧ Gar 50 [(4, A), (6, pR 3 (sureL f (rows.take j))), (23, A), (24, I rows.length), (25, I j)] σ) rows.length ⟨0, by omega, by omega, .intro (by simp) (by simp [sureL_zero, pR])⟩ ?_
      rintro m σ H'' ⟨j, hj, rfl, us, rfl⟩
      simp [gar, List.range, List.range.loop]
      refine ⟨fun hlt => ?_, fun hge => ?_⟩
      · have hr := hmem _ (List.getElem_mem hlt)
        simp [hS.iadd hlt, hS.elem hlt]
        simp [pR]
        refine goL_intro (fun m σ H'' => ∃ i : Nat, i ≤ f.length ∧ m = f.length - i ∧ Gar 50 [(4, A), (6, .sl 3 ((halfL (so f (rows.take (j + 1))) (sureL f (rows.take j)) i).map I)), (29, .sl 3 (rows[j].map I)), (23, A), (24, I rows.length), (25, I j), (30, I f.length), (31, I i)] σ) f.length ⟨0, by omega, by omega, .intro (by simp) (by simp [half_zero]; omega)⟩ ?_
        rintro m σ H'' ⟨i, hi, rfl, us, rfl⟩
        simp [gar, List.range, List.range.loop]
        have hhl : (halfL (so f (rows.take (j + 1))) (sureL f (rows.take j)) i).length = f.length := by rw [half_len (by simpa using hi)]; simp
        refine ⟨fun hlt2 => ?_, fun hge2 => ?_⟩
        · have hx : i < rows[j].length := by omega
          have hp := hr.2 _ (List.getElem_mem hx)
          have hso := so_impl (f := f) (R := rows.take j) (x := rows[j]) hlt2 hx
          rw [← List.take_succ_eq_append_getElem hlt] at hso
          have hsl : i < (sureL f (rows.take j)).length := by simpa using hlt2
          have hhi : i < (halfL (so f (rows.take (j + 1))) (sureL f (rows.take j)) i).length := by omega
          have hgi := half_get (m := so f (rows.take (j + 1))) hsl hhi
          rw [sureL_get hlt2] at hgi
          have hw2 : IntKind.i64.wrap ((i : Int) + 1) = (i : Int) + 1 := wrap_id (by omega) (by omega)
          simp [hx, hhl, hlt2, hw2, hi0, he0, hf0, pR]
          refine ⟨fun hne => ?_, fun heq => ?_⟩
          · rw [if_neg hne] at hso
            refine ⟨f.length - (i + 1), by omega, i + 1, by omega, rfl, .intro (by simp) ?_⟩
            have e := half_set (m := so f (rows.take (j + 1))) hsl
            rw [hso] at e
            simp [← e, List.map_set]
          · rw [if_pos heq] at hso
            refine ⟨f.length - (i + 1), by omega, i + 1, by omega, rfl, .intro (by simp) ?_⟩
            have e := half_set (m := so f (rows.take (j + 1))) hsl
            rw [hso, ← hgi, List.set_getElem_self] at e
            simp [← e]
        · obtain rfl : i = f.length := by omega
          have hw2 : IntKind.i64.wrap ((j : Int) + 1) = (j : Int) + 1 := wrap_id (by omega) (by omega)
          have e := half_all (m := so f (rows.take (j + 1))) (xs := sureL f (rows.take j)) (i := f.length) (by simp)
          simp [hw2]
          refine ⟨rows.length - (j + 1), by omega, j + 1, by omega, rfl, .intro (by simp) ?_⟩
          rw [e]
          simp [sureL, pR]
      · rw [List.take_of_length_le hge]
end Go.Proofs.Ytfljbfgceilppaa
set_option autoImplicit false
set_option linter.unusedVariables false
set_option linter.unusedSimpArgs false
set_option linter.unnecessarySimpa false
namespace Go.Proofs.Ytfljbfgceilppaa
open Go.Den
/- laws.FnExactSureSizes -/
def R11 : Rel := fun _ vs _ rs _ => ∃ n v xs, vs = [pP n v] ∧ Sl 23 pC v xs ∧ rs = [.bool true]
set_option maxHeartbeats 4000000 in
theorem v11 : SpecR Try.prog 11 sg11 R11 := by
  refine fnZ 95 (by kernel_rfl) (fn := Try.f11) (by kernel_rfl) (by kernel_rfl) (k11 R25 R27 R43 R44 R18 R21 R23 R22 R35) (by kernel_rfl) ⟨v25, v27, v43, v44, v18, v21, v23, v22, v35, trivial⟩ ?_
  rintro lim vs H rs H' ⟨n, v, xs, rfl, hv, rfl⟩ - - -
  simp [c11, l11, List.replicate, hv.undef, hv.cells]
  refine goCall_pure rfl ⟨n, v, xs, _, rfl, hv, by omega, by omega, rfl⟩ (by simp) ?_
  by_cases hb : 1048576 - (xs.length : Int) < 0
  · simp [hb]
  · have hl : xs.length ≤ 1048576 := by omega
    have hw : Sl 27 pC (.sl 27 (xs.map pC)) xs := ⟨.inl rfl, by omega⟩
    rw [if_neg hb]
    simp [hb, hv.undef, hv.cells]
    refine goCall_pure rfl ⟨n, v, xs, rfl, hv, hl, rfl⟩ (by simp) ?_
    simp
    obtain ⟨ns, g, hgd, hg, hgl⟩ : ∃ ns g, g = (if okP n xs then sureV 3 (sols n xs) else .nil) ∧ Sl 3 I g ns ∧ ns.length ≤ 1048577 := by
      obtain ⟨ns, h1, h2⟩ := sure_sl (e := 3) (n := n) (cs := xs)
      exact ⟨ns, _, rfl, h1, by omega⟩
    obtain ⟨gm, hgm⟩ : ∃ gm, gm = markV 3 I (markI 1) g ns := ⟨_, rfl⟩
    have hms := markV_sl (m := markI 1) hg
    rw [← hgm] at hms
    have hml : ((List.range ns.length).map (markI 1)).length = ns.length := by simp
    have hmh := markL_ok (k := 1) hml (markL_eq)
    have hcm := markV_sl (m := markC 1) hw
    refine goCall_pure rfl ⟨n, _, xs, rfl, hw, by rw [← hgd]⟩ (by simp) ?_
    simp [hv.undef, hv.cells, hg.undef]
    refine goCall_pure rfl ⟨n, v, xs, rfl, hv, hl, rfl⟩ (by simp) ?_
    simp
    refine goCall_pure rfl ⟨n, _, xs, rfl, hw, by rw [← hgd]⟩ (by simp) ?_
    simp [hv.undef, hv.cells, hg.undef]
    refine goCall_pure rfl ⟨g, g, ns, ns, rfl, hg, hg, rfl⟩ (by simp) ?_
    simp [hv.undef, hv.cells]
    refine goCall_pure rfl ⟨n, v, xs, rfl, hv, hl, rfl⟩ (by simp) ?_
    simp
    refine goCall_pure rfl ⟨n, _, xs, n, _, xs, rfl, hw, hw, rfl⟩ (by simp) ?_
    simp [undefs]
    refine goM_intro (H2 := []) ⟨n, _, xs, 1, rfl, hw, by omega, by omega, by omega, rfl⟩ (by simp) (by simp) ?_
    have hnn : ¬ (1 + 4 * (xs.length : Int)) < 0 := by omega
    simp [hcm.undef, hcm.cells, hnn, hg.undef]
    refine goCall_pure rfl ⟨g, g, ns, ns, rfl, hg, hg, rfl⟩ (by simp) ?_
    simp [hg.undef]
    refine goM_intro (H2 := []) ⟨g, ns, 1, rfl, hg, by omega, by omega, by omega, by rw [← hgm]⟩ (by simp [hg.undef]) hms.undef ?_
    have hq : ¬ (1 + (ns.length : Int)) < 0 := by omega
    simp [hms.undef]
    refine goCall_pure rfl ⟨gm, _, 1, rfl, hms, by omega, by omega, by rw [hml]; omega, rfl⟩ (by simp) ?_
    rw [hmh]
    simp [hq, hv.undef, hv.cells]
    refine goCall_pure rfl ⟨n, v, xs, rfl, hv, hl, rfl⟩ (by simp) ?_
    simp
    refine goCall_pure rfl ⟨n, _, xs, rfl, hw, by rw [← hgd]⟩ (by simp) ?_
    simp [hg.undef]
    refine goCall_pure rfl ⟨g, g, ns, ns, rfl, hg, hg, rfl⟩ (by simp) ?_
    simp [hms.undef]
    refine goCall_pure rfl ⟨gm, _, 1, rfl, hms, by omega, by omega, by rw [hml]; omega, rfl⟩ (by simp) ?_
    rw [hmh]
    simp [hq]
end Go.Proofs.Ytfljbfgceilppaa
