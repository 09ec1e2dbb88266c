/- Pairs: each function does what is told of it. Conditions: none. -/
import Derived.Test.YtnkjbncagnfnoaaVn4
set_option linter.unusedVariables false
set_option linter.unusedSimpArgs false
set_option linter.unnecessarySimpa false
set_option autoImplicit false
set_option linter.unusedSimpArgs false
set_option linter.unusedVariables false
namespace Go.Den
/-! ### Two boxes, the first of which fits into the second one -/
def rowPr (xs : List B3) (i k : Nat) : List (List Int) := ((List.range k).filter fun j => fitB (xs.getD i zB) (xs.getD j zB)).map fun (j : Nat) => [(i : Int), (j : Int)]
def pairsL (xs : List B3) (n : Nat) : List (List Int) := (List.range n).flatMap fun i => rowPr xs i xs.length
theorem rowPr_zero {xs : List B3} {i : Nat} : rowPr xs i 0 = [] := rfl
theorem rowPr_succ {xs : List B3} {i k : Nat} : rowPr xs i (k + 1) = if fitB (xs.getD i zB) (xs.getD k zB) = true then rowPr xs i k ++ [[(i : Int), (k : Int)]] else rowPr xs i k := by
  unfold rowPr
  rw [List.range_succ, List.filter_append]
  cases h : fitB (xs.getD i zB) (xs.getD k zB)
  · simp only [List.filter_cons, h]; simp
  · simp only [List.filter_cons, h]; simp
theorem rowPr_len {xs : List B3} {i : Nat} : ∀ {k : Nat}, (rowPr xs i k).length ≤ k
  | 0 => by simp [rowPr]
  | k + 1 => by
    rw [rowPr_succ]
    have := rowPr_len (xs := xs) (i := i) (k := k)
    split <;> simp <;> omega
theorem pairs_zero {xs : List B3} : pairsL xs 0 = [] := rfl
theorem pairs_succ {xs : List B3} {n : Nat} : pairsL xs (n + 1) = pairsL xs n ++ rowPr xs n xs.length := by simp [pairsL, List.range_succ]
theorem pairs_len {xs : List B3} : ∀ {n : Nat}, (pairsL xs n).length ≤ n * xs.length
  | 0 => by simp [pairsL]
  | n + 1 => by
    rw [pairs_succ, List.length_append, Nat.succ_mul]
    have := pairs_len (xs := xs) (n := n)
    have := rowPr_len (xs := xs) (i := n) (k := xs.length)
    omega
theorem pairs_two {xs : List B3} {n : Nat} {x : List Int} (h : x ∈ pairsL xs n) : x.length = 2 := by
  simp only [pairsL, List.mem_flatMap, rowPr, List.mem_map] at h
  obtain ⟨i, _, j, _, rfl⟩ := h
  rfl
theorem pairs_small {xs : List B3} {n : Nat} (h : xs.length ≤ 7) (hn : n ≤ 7) : (pairsL xs n).length ≤ 49 := by
  have h1 := pairs_len (xs := xs) (n := n)
  have h2 : n * xs.length ≤ 7 * 7 := Nat.mul_le_mul hn h
  omega
end Go.Den
set_option autoImplicit false
set_option linter.unusedVariables false
set_option linter.unusedSimpArgs false
set_option linter.unnecessarySimpa false
namespace Go.Proofs.Ytnkjbncagnfnoaa
open Go.Den
/- laws.eqIntSS -/
def R35 : Rel := fun _ vs _ rs _ => ∃ v w xs ys, vs = [v, w] ∧ Sl 30 (pR 3) v xs ∧ Sl 30 (pR 3) w ys ∧ (∀ x ∈ xs, x.length ≤ 1048576) ∧ (∀ x ∈ ys, x.length ≤ 1048576) ∧ rs = [.bool (decide (xs = ys))]
theorem v35 : SpecR Try.prog 35 sg35 R35 := by
  refine fnZ 25 (by kernel_rfl) (fn := Try.f35) (by kernel_rfl) (by kernel_rfl) (k35 R25) (by kernel_rfl) ⟨v25, trivial⟩ ?_
  rintro lim vs H rs H' ⟨v, w, ns, ms, rfl, hv, hw, hb1, hb2, rfl⟩ - - -
  have hlen := hv.2
  simp [c35, List.replicate, hv.len, hw.len]
  refine ⟨fun h e => h (by rw [e]), fun hle => ?_⟩
  have hle' : ns.length = ms.length := by omega
  refine goL_intro (fun n σ H'' => ∃ i : Nat, i ≤ ns.length ∧ n = ns.length - i ∧ ns.take i = ms.take i ∧ σ = slots 27 [(0, v), (1, w), (5, I i)]) ns.length ⟨0, by omega, by omega, rfl, by simp [slots, List.replicate]⟩ ?_
  rintro n σ H'' ⟨i, hi', rfl, hT, rfl⟩
  simp [slots, List.replicate, hv.len]
  refine ⟨fun hlt => ?_, fun hge => ?_⟩
  · have hlt2 : i < ms.length := by omega
    have b1 := hb1 _ (List.getElem_mem hlt)
    have b2 := hb2 _ (List.getElem_mem hlt2)
    simp [hv.iadd hlt, hv.elem hlt, hw.iadd hlt2, hw.elem hlt2, l35]
    refine goCall_pure rfl ⟨_, _, ns[i], ms[i], rfl, pR_Sl (by omega), pR_Sl (by omega), rfl⟩ (by simp) ?_
    simp
    refine ⟨fun hne e => ?_, fun heq => ?_⟩
    · subst e; exact hne rfl
    · refine ⟨ns.length - (i + 1), by omega, i + 1, by omega, rfl, ?_, ?_⟩
      · rw [List.take_succ_eq_append_getElem hlt, List.take_succ_eq_append_getElem hlt2, hT, heq]
      · rw [wrap_id (by omega) (by omega)]; simp
  · rw [List.take_of_length_le hge, List.take_of_length_le (by omega)] at hT
    simpa using hT
/- laws.markIntSS -/
def R36 : Rel := fun _ vs _ rs _ => ∃ v xs k d, vs = [v, I k] ∧ Sl 30 (pR 3) v xs ∧ (∀ x ∈ xs, x.length = d) ∧ 0 ≤ k ∧ k ≤ 1048576 ∧ d ≤ 1048576 ∧ xs.length ≤ 1048576 ∧ rs = [I (k + ((d * xs.length : Nat) : Int)), markV 30 (pR 3) (mrow k d) v xs]
theorem v36 : SpecR Try.prog 36 sg36 R36 := by
  refine fnZ 17 (by kernel_rfl) (fn := Try.f36) (by kernel_rfl) (by kernel_rfl) (k36 R29) (by kernel_rfl) ⟨v29, trivial⟩ ?_
  rintro lim vs H rs H' ⟨v, ns, k, d, rfl, hv, hd, h0, h1, h2, h3, rfl⟩ - - -
  simp only [c36]
  simp [List.replicate]
  refine goL_intro (fun n σ H'' => ∃ i : Nat, ∃ w, i ≤ ns.length ∧ n = ns.length - i ∧ Sl 30 (pR 3) w (halfL (mrow k d) ns i) ∧ (i = 0 → w = v) ∧ σ = slots 19 [(0, w), (1, I (k + ((d * i : Nat) : Int))), (5, I i)]) ns.length ⟨0, v, by omega, by omega, by rw [half_zero]; exact hv, fun _ => rfl, by simp [slots, List.replicate]⟩ ?_
  rintro n σ H'' ⟨i, w, hi', rfl, hw, hw0, rfl⟩
  obtain ⟨q, hq⟩ : ∃ q : Nat, q = d * i := ⟨_, rfl⟩
  have hqb := mul_bound h2 hi' h3
  have hqs : d * (i + 1) = q + d := by rw [hq, Nat.mul_succ]
  rw [← hq] at hqb ⊢
  have hhl := half_len (m := mrow k d) (xs := ns) hi'
  simp [slots, List.replicate, hw.len, hhl]
  refine ⟨fun hlt => ?_, fun hge => ?_⟩
  · have hne : halfL (mrow k d) ns i ≠ [] := by rintro h; rw [h] at hhl; simp at hhl; omega
    obtain rfl := hw.sl_of hne
    have hi2 : i < (halfL (mrow k d) ns i).length := by omega
    have hdi := hd _ (List.getElem_mem hlt)
    have hw2 : IntKind.i64.wrap ((i : Int) + 1) = (i : Int) + 1 := wrap_id (by omega) (by omega)
    have hgi := half_get (m := mrow k d) hlt hi2
    simp [hhl, hlt, hw2, hgi, l36]
    refine goM_intro (H2 := []) ⟨_, ns[i], k + q, rfl, pR_Sl (by omega), by omega, by omega, by omega, rfl⟩ (by simp) (by rw [markV_pR]; rfl) ?_
    rw [markV_pR, hdi]
    have hm : pR 3 (markL (k + q) d) = pR 3 (mrow k d i) := by rw [mrow, hq]
    rw [hm]
    simp [hhl, hlt, hgi, reCell_pR, reOk_pR, pR_noAgg, hw2]
    refine ⟨ns.length - (i + 1), by omega, i + 1, by omega, rfl, _, ⟨.inl (by rw [← half_set hlt, List.map_set]), by rw [half_len (by omega)]; exact hv.2⟩, by simp, rfl, by rw [← Int.natCast_mul, hqs]; push_cast; omega, by simp⟩
  · obtain rfl : i = ns.length := by omega
    obtain rfl := markV_of hw hw0
    simp [hw.undef, hw.cells, hq]
/- laws.heldIntSS -/
def R37 : Rel := fun _ vs _ rs _ => ∃ v xs k d, vs = [v, I k] ∧ Sl 30 (pR 3) v xs ∧ (∀ x ∈ xs, x.length = d) ∧ 0 ≤ k ∧ k ≤ 1048576 ∧ d ≤ 1048576 ∧ xs.length ≤ 1048576 ∧ xs = (List.range xs.length).map (mrow k d) ∧ rs = [I (k + ((d * xs.length : Nat) : Int))]
theorem v37 : SpecR Try.prog 37 sg37 R37 := by
  refine fnZ 19 (by kernel_rfl) (fn := Try.f37) (by kernel_rfl) (by kernel_rfl) (k37 R30) (by kernel_rfl) ⟨v30, trivial⟩ ?_
  rintro lim vs H rs H' ⟨v, ns, k, d, rfl, hv, hd, h0, h1, h2, h3, heq, rfl⟩ - - -
  simp only [c37]
  simp [List.replicate]
  refine goL_intro (fun n σ H'' => ∃ i : Nat, i ≤ ns.length ∧ n = ns.length - i ∧ σ = slots 21 [(0, v), (1, I (k + ((d * i : Nat) : Int))), (5, I i)]) ns.length ⟨0, by omega, by omega, by simp [slots, List.replicate]⟩ ?_
  rintro n σ H'' ⟨i, hi', rfl, rfl⟩
  obtain ⟨q, hq⟩ : ∃ q : Nat, q = d * i := ⟨_, rfl⟩
  have hqb := mul_bound h2 hi' h3
  have hqs : d * (i + 1) = q + d := by rw [hq, Nat.mul_succ]
  rw [← hq] at hqb ⊢
  simp [slots, List.replicate, hv.len]
  refine ⟨fun hlt => ?_, fun hge => ?_⟩
  · have hdi := hd _ (List.getElem_mem hlt)
    have hw2 : IntKind.i64.wrap ((i : Int) + 1) = (i : Int) + 1 := wrap_id (by omega) (by omega)
    have hrow : ns[i] = markL (k + q) d := by
      have e : ns[i] = ((List.range ns.length).map (mrow k d))[i]'(by simpa using hlt) := by congr 1
      rw [e]; simp [mrow, hq]
    simp [hv.iadd hlt, hv.elem hlt, hw2, l37]
    refine goCall_pure rfl ⟨_, ns[i], k + q, rfl, pR_Sl (by omega), by omega, by omega, by omega, rfl⟩ (by simp) ?_
    have hn : ¬ (k + (q : Int) + d) < 0 := by omega
    rw [hdi, if_pos hrow]
    simp [hn]
    exact ⟨ns.length - (i + 1), by omega, i + 1, by omega, rfl, by rw [← Int.natCast_mul, hqs]; push_cast; omega, by rw [hw2]; simp⟩
  · obtain rfl : i = ns.length := by omega
    simp [hq]
/- spec.PairsFitting -/
def R33 : Rel := fun _ vs _ rs _ => ∃ v xs, vs = [v] ∧ Sl 26 pB v xs ∧ rs = [if okBs xs then addV 30 3 .nil [] (pairsL xs xs.length) else .nil, .bool (okBs xs)]
set_option maxHeartbeats 4000000 in
theorem v33 : SpecR Try.prog 33 sg33 R33 := by
  refine fnZ 37 (by kernel_rfl) (fn := Try.f33) (by kernel_rfl) (by kernel_rfl) (k33 R58 R55) (by kernel_rfl) ⟨v58, v55, trivial⟩ ?_
  rintro lim vs H rs H' ⟨v, xs, rfl, hv, rfl⟩ - - -
  simp [c33, l33, List.replicate]
  refine goCall_pure rfl ⟨v, xs, rfl, hv, rfl⟩ (by simp) ?_
  cases h : okBs xs
  · simp
  · obtain ⟨h1, h2, _⟩ := okBs_spec h
    have h0 : Sl 30 (pR 3) .nil [] := ⟨.inr ⟨rfl, rfl⟩, by simp⟩
    simp [hv.len]
    refine goL_intro (fun m σ H'' => ∃ i : Nat, i ≤ xs.length ∧ m = xs.length - i ∧ Gar 38 [(0, v), (4, addV 30 3 .nil [] (pairsL xs i)), (12, v), (13, I xs.length), (14, I i)] σ) xs.length ⟨0, by omega, by omega, .intro (by simp) (by simp [pairs_zero, addV_nil])⟩ ?_
    rintro m σ H'' ⟨i, hi', rfl, us, rfl⟩
    have hps := pairs_small (n := i) h2 (by omega)
    have hS := addV_sl h0 (l := pairsL xs i) (by simp; omega)
    simp [gar, List.range, List.range.loop]
    refine ⟨fun hlt => ?_, fun hge => ?_⟩
    · have hwi : IntKind.i64.wrap ((i : Int) + 1) = (i : Int) + 1 := wrap_id (by omega) (by omega)
      have e1 : xs.getD i zB = xs[i] := getD_nat hlt
      obtain ⟨b, hb⟩ : ∃ b, b = xs[i] := ⟨_, rfl⟩
      simp [hv.iadd hlt, hv.elem hlt, hv.len, ← hb]
      refine goL_intro (fun m σ G => ∃ k r : Nat, k ≤ xs.length ∧ m = xs.length - k ∧ G[r]? = some (CK.own, [I b.a, I b.b, I b.c]) ∧ Gar 38 [(0, v), (4, addV 30 3 .nil [] (pairsL xs i ++ rowPr xs i k)), (5, I i), (6, .ref r 0), (12, v), (13, I xs.length), (14, I i), (19, v), (20, I xs.length), (21, I k)] σ) xs.length ⟨0, H''.length, by omega, by omega, by simp, .intro (by simp) (by simp [rowPr_zero])⟩ ?_
      rintro m σ G ⟨k, r, hk', rfl, hG, us, rfl⟩
      have hrl := rowPr_len (xs := xs) (i := i) (k := k)
      have hS2 := addV_sl h0 (l := pairsL xs i ++ rowPr xs i k) (by simp; omega)
      simp only [List.nil_append] at hS2
      simp [gar, List.range, List.range.loop]
      refine ⟨fun hlk => ?_, fun hgk => ?_⟩
      · have hwk : IntKind.i64.wrap ((k : Int) + 1) = (k : Int) + 1 := wrap_id (by omega) (by omega)
        have e2 : xs.getD k zB = xs[k] := getD_nat hlk
        have hG2 : ∀ x, (G ++ [x])[r]? = some (CK.own, [I b.a, I b.b, I b.c]) := fun x => by rw [List.getElem?_append_left (H_lt hG)]; exact hG
        simp [hv.iadd hlk, hv.elem hlk, hG2]
        refine goCall_pure rfl ⟨b, xs[k], rfl, rfl⟩ (by simp) ?_
        have hsu := rowPr_succ (xs := xs) (i := i) (k := k)
        rw [e1, e2, ← hb] at hsu
        cases hf : fitB b xs[k]
        · rw [hf] at hsu
          simp [hwk]
          exact ⟨xs.length - (k + 1), by omega, k + 1, by omega, rfl, r, hG2 _, .intro (by simp) (by simp [hsu])⟩
        · rw [hf, if_pos rfl] at hsu
          have happ : appV 30 24 false (addV 30 3 .nil [] (pairsL xs i ++ rowPr xs i k)) (.sl 30 [.sl 3 [I i, I k]]) = some (addV 30 3 .nil [] (pairsL xs i ++ rowPr xs i (k + 1))) := by
            have := appR_one (xs := [(i : Int), (k : Int)]) hS2 (by simp; omega)
            have e := addV_add (e2 := 30) (e := 3) (old := .nil) (acc := []) (l := pairsL xs i ++ rowPr xs i k) (m := [[(i : Int), (k : Int)]])
            simp only [List.nil_append] at e
            rw [e] at this
            rw [hsu, ← List.append_assoc]
            exact this
          have hS3 := addV_sl h0 (l := pairsL xs i ++ rowPr xs i (k + 1)) (by rw [hsu]; simp; omega)
          simp [happ, hS2.undef, hS3.undef, hwk]
          exact ⟨xs.length - (k + 1), by omega, k + 1, by omega, rfl, r, hG2 _, .intro (by simp) (by simp)⟩
      · obtain rfl : k = xs.length := by omega
        simp [hwi]
        exact ⟨xs.length - (i + 1), by omega, i + 1, by omega, rfl, .intro (by simp) (by simp [pairs_succ])⟩
    · obtain rfl : i = xs.length := by omega
      simp [hS.undef, hS.cells]
/- impl.PairsFitting -/
def R34 : Rel := fun _ vs _ rs _ => ∃ v xs, vs = [v] ∧ Sl 26 pB v xs ∧ rs = [if okBs xs then addV 30 3 (.sl 30 []) [] (pairsL xs xs.length) else .nil, .bool (okBs xs)]
set_option maxHeartbeats 4000000 in
theorem v34 : SpecR Try.prog 34 sg34 R34 := by
  refine fnZ 38 (by kernel_rfl) (fn := Try.f34) (by kernel_rfl) (by kernel_rfl) (k34 R60 R57) (by kernel_rfl) ⟨v60, v57, trivial⟩ ?_
  rintro lim vs H rs H' ⟨v, xs, rfl, hv, rfl⟩ - - -
  simp [c34, l34, List.replicate]
  refine goCall_pure rfl ⟨v, xs, rfl, hv, rfl⟩ (by simp) ?_
  cases h : okBs xs
  · simp
  · obtain ⟨h1, h2, _⟩ := okBs_spec h
    have h0 : Sl 30 (pR 3) (.sl 30 []) [] := ⟨.inl rfl, by simp⟩
    obtain ⟨z, hz⟩ : ∃ z : PV, z = .sl 30 [] := ⟨_, rfl⟩
    simp [hv.len]
    rw [← hz] at h0 ⊢
    refine goL_intro (fun m σ H'' => ∃ i : Nat, i ≤ xs.length ∧ m = xs.length - i ∧ Gar 39 [(0, v), (4, addV 30 3 z [] (pairsL xs i)), (13, v), (14, I xs.length), (15, I i)] σ) xs.length ⟨0, by omega, by omega, .intro (by simp) (by simp [pairs_zero, addV_nil, hz])⟩ ?_
    rintro m σ H'' ⟨i, hi', rfl, us, rfl⟩
    have hps := pairs_small (n := i) h2 (by omega)
    have hS := addV_sl h0 (l := pairsL xs i) (by simp; omega)
    simp [gar, List.range, List.range.loop]
    refine ⟨fun hlt => ?_, fun hge => ?_⟩
    · have hwi : IntKind.i64.wrap ((i : Int) + 1) = (i : Int) + 1 := wrap_id (by omega) (by omega)
      have e1 : xs.getD i zB = xs[i] := getD_nat hlt
      obtain ⟨b, hb⟩ : ∃ b, b = xs[i] := ⟨_, rfl⟩
      simp [hv.iadd hlt, hv.elem hlt, hv.len, ← hb]
      refine goL_intro (fun m σ G => ∃ k r : Nat, k ≤ xs.length ∧ m = xs.length - k ∧ G[r]? = some (CK.own, [I b.a, I b.b, I b.c]) ∧ Gar 39 [(0, v), (4, addV 30 3 z [] (pairsL xs i ++ rowPr xs i k)), (5, I i), (6, .ref r 0), (13, v), (14, I xs.length), (15, I i), (20, v), (21, I xs.length), (22, I k)] σ) xs.length ⟨0, H''.length, by omega, by omega, by simp, .intro (by simp) (by simp [rowPr_zero])⟩ ?_
      rintro m σ G ⟨k, r, hk', rfl, hG, us, rfl⟩
      have hrl := rowPr_len (xs := xs) (i := i) (k := k)
      have hS2 := addV_sl h0 (l := pairsL xs i ++ rowPr xs i k) (by simp; omega)
      simp only [List.nil_append] at hS2
      simp [gar, List.range, List.range.loop]
      refine ⟨fun hlk => ?_, fun hgk => ?_⟩
      · have hwk : IntKind.i64.wrap ((k : Int) + 1) = (k : Int) + 1 := wrap_id (by omega) (by omega)
        have e2 : xs.getD k zB = xs[k] := getD_nat hlk
        have hG2 : ∀ x, (G ++ [x])[r]? = some (CK.own, [I b.a, I b.b, I b.c]) := fun x => by rw [List.getElem?_append_left (H_lt hG)]; exact hG
        simp [hv.iadd hlk, hv.elem hlk, hG2]
        refine goCall_pure rfl ⟨b, xs[k], rfl, rfl⟩ (by simp) ?_
        have hsu := rowPr_succ (xs := xs) (i := i) (k := k)
        rw [e1, e2, ← hb] at hsu
        cases hf : fitB b xs[k]
        · rw [hf] at hsu
          simp [hwk]
          exact ⟨xs.length - (k + 1), by omega, k + 1, by omega, rfl, r, hG2 _, .intro (by simp) (by simp [hsu])⟩
        · rw [hf, if_pos rfl] at hsu
          have happ : appV 30 24 false (addV 30 3 z [] (pairsL xs i ++ rowPr xs i k)) (.sl 30 [.sl 3 [I i, I k]]) = some (addV 30 3 z [] (pairsL xs i ++ rowPr xs i (k + 1))) := by
            have := appR_one (xs := [(i : Int), (k : Int)]) hS2 (by simp; omega)
            have e := addV_add (e2 := 30) (e := 3) (old := z) (acc := []) (l := pairsL xs i ++ rowPr xs i k) (m := [[(i : Int), (k : Int)]])
            simp only [List.nil_append] at e
            rw [e] at this
            rw [hsu, ← List.append_assoc]
            exact this
          have hS3 := addV_sl h0 (l := pairsL xs i ++ rowPr xs i (k + 1)) (by rw [hsu]; simp; omega)
          simp [happ, hS2.undef, hS3.undef, hwk]
          exact ⟨xs.length - (k + 1), by omega, k + 1, by omega, rfl, r, hG2 _, .intro (by simp) (by simp)⟩
      · obtain rfl : k = xs.length := by omega
        simp [hwi]
        exact ⟨xs.length - (i + 1), by omega, i + 1, by omega, rfl, .intro (by simp) (by simp [pairs_succ])⟩
    · obtain rfl : i = xs.length := by omega
      simp [hS.undef, hS.cells]
end Go.Proofs.Ytnkjbncagnfnoaa
set_option autoImplicit false
set_option linter.unusedVariables false
set_option linter.unusedSimpArgs false
set_option linter.unnecessarySimpa false
namespace Go.Proofs.Ytnkjbncagnfnoaa
open Go.Den
/- laws.FnExactPairsFitting -/
def R7 : Rel := fun _ vs _ rs _ => ∃ v xs, vs = [v] ∧ Sl 23 pB v xs ∧ rs = [.bool true]
set_option maxHeartbeats 8000000 in
theorem v7 : SpecR Try.prog 7 sg7 R7 := by
  refine fnZ 95 (by kernel_rfl) (fn := Try.f7) (by kernel_rfl) (by kernel_rfl) (k7 R19 R21 R33 R34 R35 R24 R28 R36 R37) (by kernel_rfl) ⟨v19, v21, v33, v34, v35, v24, v28, v36, v37, trivial⟩ ?_
  rintro lim vs H rs H' ⟨v, xs, rfl, hv, rfl⟩ - - -
  simp [c7, l7, List.replicate]
  refine goCall_pure rfl ⟨v, xs, _, rfl, hv, by omega, by omega, rfl⟩ (by simp) ?_
  by_cases hb : 1048576 - (xs.length : Int) < 0
  · simp [hb]
  · have hl : xs.length ≤ 1048576 := by omega
    have hx : Sl 26 pB (.sl 26 (xs.map pB)) xs := ⟨.inl rfl, by omega⟩
    have hxm := markV_sl (m := markB 1) hx
    rw [if_neg hb]
    obtain ⟨ns, d, g, u, hgd, hud, hg, hu, hgl, hdl, hdd⟩ : ∃ (ns : List (List Int)) (d : Nat) (g u : PV), g = (if okBs xs then addV 30 3 (.sl 30 []) [] (pairsL xs xs.length) else .nil) ∧ u = (if okBs xs then addV 30 3 .nil [] (pairsL xs xs.length) else .nil) ∧ Sl 30 (pR 3) g ns ∧ Sl 30 (pR 3) u ns ∧ ns.length ≤ 1296 ∧ d ≤ 4 ∧ ∀ x ∈ ns, x.length = d := by
      cases h : okBs xs
      · exact ⟨[], 0, _, _, rfl, rfl, ⟨.inr ⟨rfl, rfl⟩, by simp⟩, ⟨.inr ⟨rfl, rfl⟩, by simp⟩, by simp, by simp, by simp⟩
      · obtain ⟨h1, h2, h3⟩ := okBs_spec h
        have hs := pairs_small (n := xs.length) h2 h2
        have h0 : Sl 30 (pR 3) .nil [] := ⟨.inr ⟨rfl, rfl⟩, by simp⟩
        have h00 : Sl 30 (pR 3) (.sl 30 []) [] := ⟨.inl rfl, by simp⟩
        have a1 := addV_sl h0 (l := pairsL xs xs.length) (by simp; omega)
        have a2 := addV_sl h00 (l := pairsL xs xs.length) (by simp; omega)
        simp only [List.nil_append] at a1 a2
        exact ⟨pairsL xs xs.length, 2, _, _, rfl, rfl, a2, a1, by omega, by omega, fun x hx => pairs_two hx⟩
    have hdb : ∀ x ∈ ns, x.length ≤ 1048576 := fun x hx => by rw [hdd x hx]; omega
    obtain ⟨gm, hgm⟩ : ∃ gm, gm = markV 30 (pR 3) (mrow 1 d) g ns := ⟨_, rfl⟩
    have hms := markV_sl (m := mrow 1 d) hg
    rw [← hgm] at hms
    have hml : ((List.range ns.length).map (mrow 1 d)).length = ns.length := by simp
    have hmd : ∀ x ∈ (List.range ns.length).map (mrow 1 d), x.length = d := by
      intro x hx
      obtain ⟨i, _, rfl⟩ := List.mem_map.1 hx
      simp
    obtain ⟨q, hqe⟩ : ∃ q : Nat, q = d * ns.length := ⟨_, rfl⟩
    simp [hb]
    refine goCall_pure rfl ⟨v, xs, rfl, hv, hl, rfl⟩ (by simp) ?_
    simp
    refine goCall_pure rfl ⟨_, xs, rfl, hx, by rw [← hud]⟩ (by simp) ?_
    simp [hu.undef]
    refine goCall_pure rfl ⟨v, xs, rfl, hv, hl, rfl⟩ (by simp) ?_
    simp
    refine goCall_pure rfl ⟨_, xs, rfl, hx, by rw [← hgd]⟩ (by simp) ?_
    simp [hg.undef, hu.undef]
    refine goCall_pure rfl ⟨g, u, ns, ns, rfl, hg, hu, hdb, hdb, rfl⟩ (by simp) ?_
    simp
    refine goCall_pure rfl ⟨v, xs, rfl, hv, hl, rfl⟩ (by simp) ?_
    simp
    refine goCall_pure rfl ⟨_, _, xs, xs, rfl, hx, hx, rfl⟩ (by simp) ?_
    simp
    refine goM_intro (H2 := []) ⟨_, xs, 1, rfl, hx, by omega, by omega, by omega, rfl⟩ (by simp) hxm.undef ?_
    have hnn : ¬ (1 + 3 * (xs.length : Int)) < 0 := by omega
    simp [hxm.undef, hnn, hg.undef, hu.undef]
    refine goCall_pure rfl ⟨g, u, ns, ns, rfl, hg, hu, hdb, hdb, rfl⟩ (by simp) ?_
    simp [hg.undef]
    refine goM_intro (H2 := []) ⟨g, ns, 1, d, rfl, hg, hdd, by omega, by omega, by omega, by omega, by rw [← hgm, ← hqe]⟩ (by simp [hg.undef]) hms.undef ?_
    have hq : ¬ (1 + (q : Int)) < 0 := by omega
    simp [hms.undef]
    refine goCall_pure rfl ⟨gm, _, 1, d, rfl, hms, hmd, by omega, by omega, by omega, by rw [hml]; omega, by rw [hml], by rw [hml, ← hqe]⟩ (by simp) ?_
    simp [hq]
    refine goCall_pure rfl ⟨v, xs, rfl, hv, hl, rfl⟩ (by simp) ?_
    simp
    refine goCall_pure rfl ⟨_, xs, rfl, hx, by rw [← hgd]⟩ (by simp) ?_
    simp [hg.undef, hu.undef]
    refine goCall_pure rfl ⟨g, u, ns, ns, rfl, hg, hu, hdb, hdb, rfl⟩ (by simp) ?_
    simp [hms.undef]
    refine goCall_pure rfl ⟨gm, _, 1, d, rfl, hms, hmd, by omega, by omega, by omega, by rw [hml]; omega, by rw [hml], by rw [hml, ← hqe]⟩ (by simp) ?_
    simp [hq]
end Go.Proofs.Ytnkjbncagnfnoaa
