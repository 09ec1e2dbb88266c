/- Puzzles made. Conditions: none. -/
import Derived.Test.YtfljbfgceilppaaV4
import Derived.Test.YtfljbfgceilppaaV2
import Derived.Test.YtfljbfgceilppaaV3
set_option linter.unusedVariables false
set_option linter.unusedSimpArgs false
set_option linter.unnecessarySimpa false
set_option autoImplicit false
set_option linter.unusedSimpArgs false
set_option linter.unusedVariables false
namespace Go.Den
/-! ### Puzzles made -/
def nextZ (z : Int) : Int := (241 * z + 1693) % 10007
theorem nextZ_in {z : Int} : 0 ≤ nextZ z ∧ nextZ z ≤ 10006 := by unfold nextZ; omega
def ofC (k y : Int) (xs : List Int) : Cl :=
  if k = 1 ∨ k = 4 then ⟨k, y % xs.length, (y % xs.length + 1) % xs.length, tellV k (y % xs.length) ((y % xs.length + 1) % xs.length) xs⟩
  else if k = 2 then ⟨k, y % 19 + 6, 0, tellV k (y % 19 + 6) 0 xs⟩
  else if k = 3 then ⟨k, y % 24 + 1, 0, tellV k (y % 24 + 1) 0 xs⟩
  else ⟨k, 0, 0, tellV k 0 0 xs⟩
def zAt (seed : Int) : Nat → Int
  | 0 => seed
  | i + 1 => nextZ (nextZ (zAt seed i))
theorem zAt_in {seed : Int} {i : Nat} (h0 : 0 ≤ seed) (h1 : seed ≤ 9999) : 0 ≤ zAt seed i ∧ zAt seed i ≤ 10006 := by
  cases i with
  | zero => simp [zAt]; omega
  | succ i => exact nextZ_in
def clueAt (xs : List Int) (seed : Int) (i : Nat) : Cl := ofC (nextZ (zAt seed i) % 6) (zAt seed (i + 1)) xs
def makeL (xs : List Int) (seed : Int) (m : Nat) : List Cl := (List.range m).map (clueAt xs seed)
theorem makeL_succ {xs : List Int} {seed : Int} {m : Nat} : makeL xs seed (m + 1) = makeL xs seed m ++ [clueAt xs seed m] := by simp [makeL, List.range_succ]
@[simp] theorem makeL_len {xs : List Int} {seed : Int} {m : Nat} : (makeL xs seed m).length = m := by simp [makeL]
/-- A row of clues that began as nil. -/
def rowC (e : Nat) (cs : List Cl) : PV := if cs = [] then .nil else .sl e (cs.map pC)
theorem rowC_sl {e : Nat} {cs : List Cl} (h : cs.length ≤ 9223372036854775807) : Sl e pC (rowC e cs) cs := by
  unfold rowC
  split
  · rename_i h1; subst h1; exact ⟨.inr ⟨rfl, rfl⟩, by simp⟩
  · exact ⟨.inl rfl, h⟩
theorem rowC_app {e : Nat} {cs : List Cl} {c : Cl} (h : cs.length ≤ 1048576) : appV e 32 true (rowC e cs) (.sl e [pC c]) = some (rowC e (cs ++ [c])) := by
  have hr := (rowC_sl (e := e) (cs := cs) (by omega)).row
  unfold appV
  rw [hr, rowOf_sl]
  simp only
  rw [if_pos]
  · unfold rowC
    cases cs <;> simp [appRes]
  · refine ⟨by simp; omega, by simp; omega, ?_, by simp⟩
    simp [pC]
def makeV (e : Nat) (xs : List Int) (m seed : Int) : PV := if hid xs && inR 0 6 m && inR 0 9999 seed then pP xs.length (rowC e (makeL xs seed m.toNat)) else pP 0 .nil
theorem makeV_sl {e : Nat} {xs : List Int} {m seed : Int} : ∃ p w cl, makeV e xs m seed = pP p w ∧ Sl e pC w cl ∧ cl.length ≤ 6 := by
  unfold makeV
  split
  · rename_i h
    simp only [inR, Bool.and_eq_true, decide_eq_true_eq] at h
    exact ⟨_, _, makeL xs seed m.toNat, rfl, rowC_sl (by simp; omega), by simp; omega⟩
  · exact ⟨_, _, [], rfl, ⟨.inr ⟨rfl, rfl⟩, by simp⟩, by simp⟩
theorem markC_get {k : Int} {cs : List Cl} {i : Nat} (h : cs = (List.range cs.length).map (markC k)) (hi : i < cs.length) : cs[i] = markC k i := by
  have e : cs[i] = ((List.range cs.length).map (markC k))[i]'(by simpa using hi) := by congr 1
  rw [e]; simp
end Go.Den
set_option autoImplicit false
set_option linter.unusedVariables false
set_option linter.unusedSimpArgs false
set_option linter.unnecessarySimpa false
namespace Go.Proofs.Ytfljbfgceilppaa
open Go.Den
/- spec.pzNext -/
def R56 : Rel := fun _ vs _ rs _ => ∃ z, vs = [I z] ∧ 0 ≤ z ∧ z ≤ 1048576 ∧ rs = [I (nextZ z)]
theorem v56 : SpecR Try.prog 56 sg56 R56 := by
  refine fnZ 6 (by kernel_rfl) (fn := Try.f56) (by kernel_rfl) (by kernel_rfl) k56 (by kernel_rfl) trivial ?_
  rintro lim vs H rs H' ⟨z, rfl, h0, h1, rfl⟩ - - -
  have hw1 : IntKind.i64.wrap (241 * z) = 241 * z := wrap_id (by omega) (by omega)
  have hw2 : IntKind.i64.wrap (241 * z + 1693) = 241 * z + 1693 := wrap_id (by omega) (by omega)
  have ht : (241 * z + 1693).tmod 10007 = (241 * z + 1693) % 10007 := Int.tmod_eq_emod_of_nonneg (by omega)
  simp [c56, List.replicate, hw1, hw2, ht, nextZ]
/- spec.pzOf -/
def R57 : Rel := fun _ vs _ rs _ => ∃ v xs k y, vs = [I k, I y, v] ∧ Sl 3 I v xs ∧ hid xs = true ∧ 0 ≤ k ∧ k ≤ 5 ∧ 0 ≤ y ∧ y ≤ 1048576 ∧ rs = [pC (ofC k y xs)]
set_option maxHeartbeats 4000000 in
theorem v57 : SpecR Try.prog 57 sg57 R57 := by
  refine fnZ 44 (by kernel_rfl) (fn := Try.f57) (by kernel_rfl) (by kernel_rfl) (k57 R78) (by kernel_rfl) ⟨v78, trivial⟩ ?_
  rintro lim vs H rs H' ⟨v, xs, k, y, rfl, hv, hh, hk0, hk1, hy0, hy1, rfl⟩ - - -
  obtain ⟨hl1, hl2, _⟩ := hid_spec hh
  have hlz : ¬ (xs.length : Int) = 0 := by omega
  have hnn : ¬ xs = [] := by rintro rfl; simp at hl1
  have hlp : (0 : Int) < xs.length := by omega
  have ha0 := Int.emod_nonneg y hlz
  have ha1 := Int.emod_lt_of_pos y hlp
  have hb0 := Int.emod_nonneg (y + 1) hlz
  have hb1 := Int.emod_lt_of_pos (y + 1) hlp
  have t1 : y.tmod xs.length = y % xs.length := Int.tmod_eq_emod_of_nonneg (by omega)
  have t2 : (y % xs.length + 1).tmod xs.length = (y % xs.length + 1) % xs.length := Int.tmod_eq_emod_of_nonneg (by omega)
  have t3 : y.tmod 19 = y % 19 := Int.tmod_eq_emod_of_nonneg (by omega)
  have t4 : y.tmod 24 = y % 24 := Int.tmod_eq_emod_of_nonneg (by omega)
  have w1 : IntKind.i64.wrap (y % xs.length + 1) = y % xs.length + 1 := wrap_id (by omega) (by omega)
  have w2 : IntKind.i64.wrap (y % 19 + 6) = y % 19 + 6 := wrap_id (by omega) (by omega)
  have w3 : IntKind.i64.wrap (y % 24 + 1) = y % 24 + 1 := wrap_id (by omega) (by omega)
  have hk : k = 0 ∨ k = 1 ∨ k = 2 ∨ k = 3 ∨ k = 4 ∨ k = 5 := by omega
  rcases hk with rfl | rfl | rfl | rfl | rfl | rfl
  · simp [c57, l57, List.replicate, buildP, buildV]
    refine goCall_pure rfl ⟨v, xs, 0, 0, 0, rfl, hv, hh, ⟨by omega, by omega, by omega⟩, rfl⟩ (by simp) ?_
    simp [ofC, pC]
  · simp [c57, l57, List.replicate, buildP, buildV, hv.len, t1, t2, w1, hlz, hnn]
    refine goCall_pure rfl ⟨v, xs, 1, _, _, rfl, hv, hh, ⟨fun _ => ⟨ha0, ha1, hb0, hb1⟩, by omega, by omega⟩, rfl⟩ (by simp) ?_
    simp [ofC, pC]
  · simp [c57, l57, List.replicate, buildP, buildV, t3, w2]
    refine goCall_pure rfl ⟨v, xs, 2, _, 0, rfl, hv, hh, ⟨by omega, by omega, by omega⟩, rfl⟩ (by simp) ?_
    simp [ofC, pC]
  · simp [c57, l57, List.replicate, buildP, buildV, t4, w3]
    refine goCall_pure rfl ⟨v, xs, 3, _, 0, rfl, hv, hh, ⟨by omega, by omega, by omega⟩, rfl⟩ (by simp) ?_
    simp [ofC, pC]
  · simp [c57, l57, List.replicate, buildP, buildV, hv.len, t1, t2, w1, hlz, hnn]
    refine goCall_pure rfl ⟨v, xs, 4, _, _, rfl, hv, hh, ⟨fun _ => ⟨ha0, ha1, hb0, hb1⟩, by omega, by omega⟩, rfl⟩ (by simp) ?_
    simp [ofC, pC]
  · simp [c57, l57, List.replicate, buildP, buildV]
    refine goCall_pure rfl ⟨v, xs, 5, 0, 0, rfl, hv, hh, ⟨by omega, by omega, by omega⟩, rfl⟩ (by simp) ?_
    simp [ofC, pC]
/- spec.MakePuzzle -/
def R19 : Rel := fun _ vs _ rs _ => ∃ v xs m seed, vs = [v, I m, I seed] ∧ Sl 3 I v xs ∧ rs = [makeV 27 xs m seed, .bool (hid xs && inR 0 6 m && inR 0 9999 seed)]
set_option maxHeartbeats 4000000 in
theorem v19 : SpecR Try.prog 19 sg19 R19 := by
  refine fnZ 46 (by kernel_rfl) (fn := Try.f19) (by kernel_rfl) (by kernel_rfl) (k19 R49 R55 R56 R57) (by kernel_rfl) ⟨v49, v55, v56, v57, trivial⟩ ?_
  rintro lim vs H rs H' ⟨v, xs, m, seed, rfl, hv, rfl⟩ - - -
  simp [c19, l19, List.replicate]
  refine goCall_pure rfl ⟨v, xs, rfl, hv, rfl⟩ (by simp) ?_
  cases h1 : hid xs
  · simp [buildP, buildV, makeV, h1, pP]
  · simp
    refine goCall_pure rfl ⟨_, _, _, rfl, rfl⟩ (by simp) ?_
    cases h2 : inR 0 6 m
    · simp [buildP, buildV, makeV, h1, h2, pP]
    · simp
      refine goCall_pure rfl ⟨_, _, _, rfl, rfl⟩ (by simp) ?_
      cases h3 : inR 0 9999 seed
      · simp [buildP, buildV, makeV, h1, h2, h3, pP]
      · have h2' : 0 ≤ m ∧ m ≤ 6 := by simpa [inR] using h2
        have h3' : 0 ≤ seed ∧ seed ≤ 9999 := by simpa [inR] using h3
        obtain ⟨k, rfl⟩ : ∃ k : Nat, m = k := ⟨m.toNat, by omega⟩
        have hmk : makeV 27 xs k seed = pP xs.length (rowC 27 (makeL xs seed k)) := by simp [makeV, h1, h2, h3]
        rw [hmk]
        simp [buildP, buildV, hv.len]
        refine goL_intro (fun n σ H'' => ∃ i : Nat, i ≤ k ∧ n = k - i ∧ H'' = H ++ [(.own, [I 0, .nil]), (.own, [I xs.length, rowC 27 (makeL xs seed i)])] ∧ σ = slots 49 [(0, v), (1, I (k - i : Int)), (6, .ref H.length 0), (8, .ref (H.length + 1) 0), (9, I (zAt seed i))]) k ⟨0, by omega, by omega, by simp [rowC, makeL], by simp [slots, List.replicate, zAt]⟩ ?_
        rintro n σ H'' ⟨i, hi, rfl, rfl, rfl⟩
        obtain ⟨hz0, hz1⟩ := zAt_in (i := i) h3'.1 h3'.2
        obtain ⟨hn0, hn1⟩ := nextZ_in (z := zAt seed i)
        obtain ⟨hm0, hm1⟩ := nextZ_in (z := nextZ (zAt seed i))
        have hrow := rowC_sl (e := 27) (cs := makeL xs seed i) (by simp; omega)
        have hrow2 := rowC_sl (e := 27) (cs := makeL xs seed (i + 1)) (by simp; omega)
        have t1 : (nextZ (zAt seed i)).tmod 6 = nextZ (zAt seed i) % 6 := Int.tmod_eq_emod_of_nonneg (by omega)
        have happ := rowC_app (e := 27) (cs := makeL xs seed i) (c := clueAt xs seed i) (by simp; omega)
        rw [← makeL_succ] at happ
        simp [slots, List.replicate]
        refine ⟨fun hlt => ?_, fun hge => ?_⟩
        · refine goCall_pure rfl ⟨_, rfl, hz0, by omega, rfl⟩ (by simp) ?_
          simp [t1]
          refine goCall_pure rfl ⟨_, rfl, hn0, by omega, rfl⟩ (by simp) ?_
          simp [hrow.undef, hrow.cells, undefs]
          refine goCall_pure rfl ⟨v, xs, nextZ (zAt seed i) % 6, nextZ (nextZ (zAt seed i)), rfl, hv, h1, by omega, by omega, hm0, by omega, rfl⟩ (by simp) ?_
          rw [show ofC (nextZ (zAt seed i) % 6) (nextZ (nextZ (zAt seed i))) xs = clueAt xs seed i from rfl]
          have hwk : IntKind.i64.wrap ((k : Int) - i - 1) = (k : Int) - ((i + 1 : Nat) : Int) := by rw [wrap_id (by omega) (by omega)]; omega
          simp [happ, hrow2.undef, hrow2.cells, hrow2.nOk, hrow2.def1, hwk]
          exact ⟨k - (i + 1), by omega, i + 1, by omega, rfl, rfl, by simp, rfl⟩
        · obtain rfl : i = k := by omega
          simp [hrow.undef, hrow.cells, hrow.def1]
          rfl
/- impl.MakePuzzle$1 -/
def R59 : Rel := fun lim vs H rs H' => ∃ z r, vs = [.ref r 0] ∧ H[r]? = some (.own, [I z]) ∧ lim ≤ r ∧ 0 ≤ z ∧ z ≤ 1048576 ∧ rs = [I (nextZ z)] ∧ H' = H.set r (.own, [I (nextZ z)])
theorem v59 : SpecR Try.prog 59 sg59 R59 := by
  refine fnZ 6 (by kernel_rfl) (fn := Try.f59) (by kernel_rfl) (by kernel_rfl) k59 (by kernel_rfl) trivial ?_
  rintro lim vs H rs H' ⟨z, r, rfl, hH, hlr, h0, h1, rfl, rfl⟩ - - -
  have hw1 : IntKind.i64.wrap (z * 241) = z * 241 := wrap_id (by omega) (by omega)
  have hw2 : IntKind.i64.wrap (z * 241 + 1693) = z * 241 + 1693 := wrap_id (by omega) (by omega)
  have ht : (z * 241 + 1693).tmod 10007 = nextZ z := by rw [Int.tmod_eq_emod_of_nonneg (by omega), nextZ]; congr 2; omega
  have hg : (H.set r (CK.own, [I (nextZ z)]))[r]? = some (.own, [I (nextZ z)]) := List.getElem?_set_self (H_lt hH)
  simp [c59, List.replicate, hH, hw1, hw2, ht, hg]
end Go.Proofs.Ytfljbfgceilppaa
set_option autoImplicit false
set_option linter.unusedVariables false
set_option linter.unusedSimpArgs false
set_option linter.unnecessarySimpa false
namespace Go.Proofs.Ytfljbfgceilppaa
open Go.Den
/- impl.MakePuzzle -/
def R20 : Rel := fun _ vs _ rs _ => ∃ v xs m seed, vs = [v, I m, I seed] ∧ Sl 3 I v xs ∧ rs = [makeV 27 xs m seed, .bool (hid xs && inR 0 6 m && inR 0 9999 seed)]
set_option maxRecDepth 4000 in
set_option maxHeartbeats 16000000 in
theorem v20 : SpecR Try.prog 20 sg20 R20 := by
  refine fnZ 76 (by kernel_rfl) (fn := Try.f20) (by kernel_rfl) (by kernel_rfl) (k20 R52 R58 R60 R59) (by kernel_rfl) ⟨v52, v58, v60, v59, trivial⟩ ?_
  rintro lim vs H rs H' ⟨v, xs, m, seed, rfl, hv, rfl⟩ - hlim -
  simp [c20, l20, List.replicate]
  refine goCall_pure rfl ⟨v, xs, rfl, hv, rfl⟩ (by simp) ?_
  cases h1 : hid xs
  · simp [buildP, buildV, makeV, h1, pP]
  · simp
    refine goCall_pure rfl ⟨_, _, _, rfl, rfl⟩ (by simp) ?_
    cases h2 : inR 0 6 m
    · simp [buildP, buildV, makeV, h1, h2, pP]
    · simp
      refine goCall_pure rfl ⟨_, _, _, rfl, rfl⟩ (by simp) ?_
      cases h3 : inR 0 9999 seed
      · simp [buildP, buildV, makeV, h1, h2, h3, pP]
      · have h2' : 0 ≤ m ∧ m ≤ 6 := by simpa [inR] using h2
        have h3' : 0 ≤ seed ∧ seed ≤ 9999 := by simpa [inR] using h3
        obtain ⟨k, rfl⟩ : ∃ k : Nat, m = k := ⟨m.toNat, by omega⟩
        have hmk : makeV 27 xs k seed = pP xs.length (rowC 27 (makeL xs seed k)) := by simp [makeV, h1, h2, h3]
        rw [hmk]
        simp [buildP, buildV, hv.len]
        refine goL_intro (fun n σ H'' => ∃ i : Nat, i ≤ k ∧ n = k - i ∧ H'' = H ++ [(.own, [I (zAt seed i)]), (.own, [I 0, .nil]), (.own, [I xs.length, rowC 27 (makeL xs seed i)])] ∧ σ = slots 79 [(0, v), (6, .ref (H.length + 1) 0), (8, .fn 59 [.ref H.length 0]), (9, .ref (H.length + 2) 0), (32, I k), (33, I i)]) k ⟨0, by omega, by omega, by simp [rowC, makeL, zAt], by simp [slots, List.replicate]⟩ ?_
        rintro n σ H'' ⟨i, hi, rfl, rfl, rfl⟩
        obtain ⟨hz0, hz1⟩ := zAt_in (i := i) h3'.1 h3'.2
        obtain ⟨z, hz⟩ : ∃ z, z = zAt seed i := ⟨_, rfl⟩
        rw [← hz] at hz0 hz1 ⊢
        obtain ⟨hn0, hn1⟩ := nextZ_in (z := z)
        obtain ⟨hm0, hm1⟩ := nextZ_in (z := nextZ z)
        have hrow := rowC_sl (e := 27) (cs := makeL xs seed i) (by simp; omega)
        have hrow2 := rowC_sl (e := 27) (cs := makeL xs seed (i + 1)) (by simp; omega)
        have t1 : (nextZ z).tmod 6 = nextZ z % 6 := Int.tmod_eq_emod_of_nonneg (by omega)
        have hcl : clueAt xs seed i = ofC (nextZ z % 6) (nextZ (nextZ z)) xs := by rw [hz]; rfl
        have hzs : zAt seed (i + 1) = nextZ (nextZ z) := by rw [hz]; rfl
        have happ := rowC_app (e := 27) (cs := makeL xs seed i) (c := clueAt xs seed i) (by simp; omega)
        rw [← makeL_succ, hcl] at happ
        obtain ⟨T, hT⟩ : ∃ T : Boxes, T = [(.own, [I 0, .nil]), (.own, [I xs.length, rowC 27 (makeL xs seed i)])] := ⟨_, rfl⟩
        have gz : ∀ u, (H ++ (CK.own, [I u]) :: T)[H.length]? = some (.own, [I u]) := fun u => by simp
        have gs : ∀ u w, (H ++ (CK.own, [I u]) :: T).set H.length (CK.own, [I w]) = H ++ (CK.own, [I w]) :: T := fun u w => by simp
        rw [← hT]
        simp [slots, List.replicate]
        refine ⟨fun hlt => ?_, fun hge => ?_⟩
        · refine goCall_imp rfl ⟨z, H.length, rfl, gz z, hlim, hz0, by omega, rfl, rfl⟩ (by refine ⟨?_, trivial⟩; simp only [argV, gz]; exact viewV_own hlim) ?_
          rw [mergeH_set (gz z) (keepB_own hlim), gs]
          simp [t1]
          refine goCall_imp rfl ⟨nextZ z, H.length, rfl, gz _, hlim, hn0, by omega, rfl, rfl⟩ (by refine ⟨?_, trivial⟩; simp only [argV, gz]; exact viewV_own hlim) ?_
          rw [mergeH_set (gz _) (keepB_own hlim), gs]
          subst hT
          obtain ⟨y, hy⟩ : ∃ y, y = nextZ (nextZ z) := ⟨_, rfl⟩
          obtain ⟨kd, hkd⟩ : ∃ kd, kd = nextZ z % 6 := ⟨_, rfl⟩
          rw [← hy] at happ hm0 hm1 hzs ⊢
          rw [← hkd] at happ ⊢
          obtain ⟨hl1, hl2, _⟩ := hid_spec h1
          have hlz : ¬ (xs.length : Int) = 0 := by omega
          have hnn : ¬ xs = [] := by rintro rfl; simp at hl1
          have hlp : (0 : Int) < xs.length := by omega
          have ha0 := Int.emod_nonneg y hlz
          have ha1 := Int.emod_lt_of_pos y hlp
          have hb0 := Int.emod_nonneg (y + 1) hlz
          have hb1 := Int.emod_lt_of_pos (y + 1) hlp
          have u1 : y.tmod xs.length = y % xs.length := Int.tmod_eq_emod_of_nonneg (by omega)
          have u2 : (y % xs.length + 1).tmod xs.length = (y % xs.length + 1) % xs.length := Int.tmod_eq_emod_of_nonneg (by omega)
          have u3 : y.tmod 19 = y % 19 := Int.tmod_eq_emod_of_nonneg (by omega)
          have u4 : y.tmod 24 = y % 24 := Int.tmod_eq_emod_of_nonneg (by omega)
          have w1 : IntKind.i64.wrap (y % xs.length + 1) = y % xs.length + 1 := wrap_id (by omega) (by omega)
          have w2 : IntKind.i64.wrap (y % 19 + 6) = y % 19 + 6 := wrap_id (by omega) (by omega)
          have w3 : IntKind.i64.wrap (y % 24 + 1) = y % 24 + 1 := wrap_id (by omega) (by omega)
          have wi : IntKind.i64.wrap ((i : Int) + 1) = (i : Int) + 1 := wrap_id (by omega) (by omega)
          have hk : kd = 0 ∨ kd = 1 ∨ kd = 2 ∨ kd = 3 ∨ kd = 4 ∨ kd = 5 := by omega
          clear hkd hy
          rcases hk with rfl | rfl | rfl | rfl | rfl | rfl
          all_goals
            simp [hv.len, u1, u2, u3, u4, w1, w2, w3, hlz, hnn, hrow.undef, hrow.cells, undefs]
            simp [ofC, pC] at happ
          · refine goCall_pure rfl ⟨v, xs, 0, 0, 0, rfl, hv, h1, ⟨by omega, by omega, by omega⟩, rfl⟩ (by simp) ?_
            simp [buildP, buildV, happ, hrow2.undef, hrow2.cells, hrow2.nOk, hrow2.def1, wi, hzs]
            exact ⟨k - (i + 1), by omega, i + 1, by omega, rfl, by simp [hzs], by simp⟩
          · refine goCall_pure rfl ⟨v, xs, 1, _, _, rfl, hv, h1, ⟨fun _ => ⟨ha0, ha1, hb0, hb1⟩, by omega, by omega⟩, rfl⟩ (by simp) ?_
            simp [buildP, buildV, happ, hrow2.undef, hrow2.cells, hrow2.nOk, hrow2.def1, wi, hzs]
            exact ⟨k - (i + 1), by omega, i + 1, by omega, rfl, by simp [hzs], by simp⟩
          · refine goCall_pure rfl ⟨v, xs, 2, _, 0, rfl, hv, h1, ⟨by omega, by omega, by omega⟩, rfl⟩ (by simp) ?_
            simp [buildP, buildV, happ, hrow2.undef, hrow2.cells, hrow2.nOk, hrow2.def1, wi, hzs]
            exact ⟨k - (i + 1), by omega, i + 1, by omega, rfl, by simp [hzs], by simp⟩
          · refine goCall_pure rfl ⟨v, xs, 3, _, 0, rfl, hv, h1, ⟨by omega, by omega, by omega⟩, rfl⟩ (by simp) ?_
            simp [buildP, buildV, happ, hrow2.undef, hrow2.cells, hrow2.nOk, hrow2.def1, wi, hzs]
            exact ⟨k - (i + 1), by omega, i + 1, by omega, rfl, by simp [hzs], by simp⟩
          · refine goCall_pure rfl ⟨v, xs, 4, _, _, rfl, hv, h1, ⟨fun _ => ⟨ha0, ha1, hb0, hb1⟩, by omega, by omega⟩, rfl⟩ (by simp) ?_
            simp [buildP, buildV, happ, hrow2.undef, hrow2.cells, hrow2.nOk, hrow2.def1, wi, hzs]
            exact ⟨k - (i + 1), by omega, i + 1, by omega, rfl, by simp [hzs], by simp⟩
          · refine goCall_pure rfl ⟨v, xs, 5, 0, 0, rfl, hv, h1, ⟨by omega, by omega, by omega⟩, rfl⟩ (by simp) ?_
            simp [buildP, buildV, happ, hrow2.undef, hrow2.cells, hrow2.nOk, hrow2.def1, wi, hzs]
            exact ⟨k - (i + 1), by omega, i + 1, by omega, rfl, by simp [hzs], by simp⟩
        · obtain rfl : i = k := by omega
          subst hT
          simp [hrow.undef, hrow.cells, hrow.def1]
          rfl
end Go.Proofs.Ytfljbfgceilppaa
set_option autoImplicit false
set_option linter.unusedVariables false
set_option linter.unusedSimpArgs false
set_option linter.unnecessarySimpa false
namespace Go.Proofs.Ytfljbfgceilppaa
open Go.Den
/- laws.heldClueS -/
def R63 : Rel := fun _ vs _ rs _ => ∃ v cs k, vs = [v, I k] ∧ Sl 27 pC v cs ∧ 0 ≤ k ∧ k ≤ 1048576 ∧ cs.length ≤ 1048576 ∧ cs = (List.range cs.length).map (markC k) ∧ rs = [I (k + 4 * cs.length)]
set_option maxHeartbeats 4000000 in
theorem v63 : SpecR Try.prog 63 sg63 R63 := by
  refine fnZ 47 (by kernel_rfl) (fn := Try.f63) (by kernel_rfl) (by kernel_rfl) k63 (by kernel_rfl) trivial ?_
  rintro lim vs H rs H' ⟨v, cs, k, rfl, hv, h0, h1, h2, heq, rfl⟩ - - -
  simp [c63, List.replicate]
  refine goL_intro (fun n σ H'' => ∃ i : Nat, i ≤ cs.length ∧ n = cs.length - i ∧ σ = slots 49 [(0, v), (1, I (k + 4 * i)), (5, I i)]) cs.length ⟨0, by omega, by omega, by simp [slots, List.replicate]⟩ ?_
  rintro n σ H'' ⟨i, hi', rfl, rfl⟩
  simp [slots, List.replicate, hv.len]
  refine ⟨fun hlt => ?_, fun hge => ?_⟩
  · have hw1 : IntKind.i64.wrap (k + 4 * i + 1) = k + 4 * i + 1 := wrap_id (by omega) (by omega)
    have hw2 : IntKind.i64.wrap ((i : Int) + 1) = (i : Int) + 1 := wrap_id (by omega) (by omega)
    have hw3 : IntKind.i64.wrap (k + 4 * i + 1 + 1) = k + 4 * i + 1 + 1 := wrap_id (by omega) (by omega)
    have hw4 : IntKind.i64.wrap (k + 4 * i + 1 + 1 + 1) = k + 4 * i + 1 + 1 + 1 := wrap_id (by omega) (by omega)
    have hw5 : IntKind.i64.wrap (k + 4 * i + 1 + 1 + 1 + 1) = k + 4 * i + 1 + 1 + 1 + 1 := wrap_id (by omega) (by omega)
    have hg := markC_get heq hlt
    have hel : ∀ (j : Nat) (n : Option Nat), elemV v (.eix i j) n = cellV (pC (markC k i)).cells j n := fun j n => by rw [hv.elem hlt, hg]
    rw [pC_mark] at hel
    simp [hv.iadd hlt, hel, hw1, hw2, hw3, hw4, hw5]
    exact ⟨cs.length - (i + 1), by omega, i + 1, by omega, rfl, by push_cast; omega, by simp⟩
  · obtain rfl : i = cs.length := by omega
    rfl
/- laws.heldPuzzle -/
def R24 : Rel := fun _ vs _ rs _ => ∃ n v cs k, vs = [pP n v, I k] ∧ Sl 27 pC v cs ∧ 0 ≤ k ∧ k ≤ 1048576 ∧ cs.length ≤ 1048576 ∧ cs = (List.range cs.length).map (markC k) ∧ rs = [I (k + 4 * cs.length)]
theorem v24 : SpecR Try.prog 24 sg24 R24 := by
  refine fnZ 10 (by kernel_rfl) (fn := Try.f24) (by kernel_rfl) (by kernel_rfl) (k24 R63) (by kernel_rfl) ⟨v63, trivial⟩ ?_
  rintro lim vs H rs H' ⟨n, v, cs, k, rfl, hv, h0, h1, h2, heq, rfl⟩ - - -
  have hn : ¬ (k + 4 * (cs.length : Int)) < 0 := by omega
  simp [c24, l24, List.replicate, hv.undef, hv.cells]
  refine goCall_pure rfl ⟨v, cs, k, rfl, hv, h0, h1, h2, heq, rfl⟩ (by simp) ?_
  simp [hn]
/- laws.FnExactMakePuzzle -/
def R4 : Rel := fun _ vs _ rs _ => ∃ v xs m seed, vs = [v, I m, I seed] ∧ Sl 3 I v xs ∧ rs = [.bool true]
set_option maxHeartbeats 4000000 in
theorem v4 : SpecR Try.prog 4 sg4 R4 := by
  refine fnZ 100 (by kernel_rfl) (fn := Try.f4) (by kernel_rfl) (by kernel_rfl) (k4 R16 R19 R20 R21 R18 R22 R23 R24) (by kernel_rfl) ⟨v16, v19, v20, v21, v18, v22, v23, v24, trivial⟩ ?_
  rintro lim vs H rs H' ⟨v, xs, m, seed, rfl, hv, rfl⟩ - - -
  by_cases hb : (1048576 : Int) < xs.length
  · simp [c4, l4, List.replicate, hv.len, hb]
  · have hl : xs.length ≤ 1048576 := by omega
    have hw : Sl 3 I (.sl 3 (xs.map I)) xs := ⟨.inl rfl, by omega⟩
    obtain ⟨p, w, cl, hmv, hS, hcl⟩ := makeV_sl (e := 27) (xs := xs) (m := m) (seed := seed)
    have hmi := markV_sl (m := markI 1) hw
    have hms := markV_sl (m := markC 1) hS
    have hml : ((List.range cl.length).map (markC 1)).length = cl.length := by simp
    simp [c4, l4, List.replicate, hv.len, hb]
    refine goCall_pure rfl ⟨v, xs, rfl, hv, hl, rfl⟩ (by simp) ?_
    simp
    refine goCall_pure rfl ⟨_, xs, m, seed, rfl, hw, by rw [hmv]⟩ (by simp) ?_
    simp [hS.undef, hS.def1]
    refine goCall_pure rfl ⟨v, xs, rfl, hv, hl, rfl⟩ (by simp) ?_
    simp
    refine goCall_pure rfl ⟨_, xs, m, seed, rfl, hw, by rw [hmv]⟩ (by simp) ?_
    simp [hS.undef, hS.def1]
    refine goCall_pure rfl ⟨p, w, cl, p, w, cl, rfl, hS, hS, rfl⟩ (by simp) ?_
    simp
    refine goCall_pure rfl ⟨v, xs, rfl, hv, hl, rfl⟩ (by simp) ?_
    simp
    refine goCall_pure rfl ⟨_, _, xs, xs, rfl, hw, hw, rfl⟩ (by simp) ?_
    simp
    refine goM_intro (H2 := []) ⟨_, xs, 1, rfl, hw, by omega, by omega, by omega, rfl⟩ (by simp) hmi.undef ?_
    have hnn : ¬ (1 + (xs.length : Int)) < 0 := by omega
    simp [hnn, hS.undef]
    refine goCall_pure rfl ⟨p, w, cl, p, w, cl, rfl, hS, hS, rfl⟩ (by simp) ?_
    simp [hS.undef, undefs]
    refine goM_intro (H2 := []) ⟨p, w, cl, 1, rfl, hS, by omega, by omega, by omega, rfl⟩ (by simp) (by simp) ?_
    have hq : ¬ (1 + 4 * (cl.length : Int)) < 0 := by omega
    simp [hms.undef]
    refine goCall_pure rfl ⟨p, _, _, 1, rfl, hms, by omega, by omega, by rw [hml]; omega, by rw [hml], by rw [hml]⟩ (by simp) ?_
    simp [hq]
    refine goCall_pure rfl ⟨v, xs, rfl, hv, hl, rfl⟩ (by simp) ?_
    simp
    refine goCall_pure rfl ⟨_, xs, m, seed, rfl, hw, by rw [hmv]⟩ (by simp) ?_
    simp [hS.undef, hS.def1]
    refine goCall_pure rfl ⟨p, w, cl, p, w, cl, rfl, hS, hS, rfl⟩ (by simp) ?_
    simp [hms.undef]
    refine goCall_pure rfl ⟨p, _, _, 1, rfl, hms, by omega, by omega, by rw [hml]; omega, by rw [hml], by rw [hml]⟩ (by simp) ?_
    simp [hq]
end Go.Proofs.Ytfljbfgceilppaa
