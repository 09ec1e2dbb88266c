/- Boxes and their sides: each function does what is told of it. Conditions: none. -/
import Derived.Test.YtnkjbncagnfnoaaKn
import Derived.Test.YtnkjbncagnfnoaaDenD
set_option linter.unusedVariables false
set_option linter.unusedSimpArgs false
set_option linter.unnecessarySimpa false
set_option autoImplicit false
set_option linter.unusedVariables false
set_option linter.unusedSimpArgs false
set_option linter.unnecessarySimpa false
namespace Go.Proofs.Ytnkjbncagnfnoaa
open Go.Den
/- impl.less -/
def R91 : Rel := fun _ vs _ rs _ => ∃ v w ns ms, vs = [v, w] ∧ Sl 3 I v ns ∧ Sl 3 I w ms ∧ ns.length = ms.length ∧ rs = [.bool (lessL ns ms)]
theorem v91 : SpecR Try.prog 91 sg91 R91 := by
  refine fnZ 19 (by kernel_rfl) (fn := Try.f91) (by kernel_rfl) (by kernel_rfl) k91 (by kernel_rfl) trivial ?_
  rintro lim vs H rs H' ⟨v, w, ns, ms, rfl, hv, hw, hle, rfl⟩ - - -
  have hlen := hv.2
  simp [c91, List.replicate, hv.len]
  refine goL_intro (fun n σ H'' => ∃ i : Nat, i ≤ ns.length ∧ n = ns.length - i ∧ (∀ j, j < i → ns.getD j 0 < ms.getD j 0) ∧ Gar 21 [(0, v), (1, w), (7, I ns.length), (8, I i)] σ) ns.length ⟨0, by omega, by omega, by omega, .intro (by simp) (by simp)⟩ ?_
  rintro n σ H'' ⟨i, hi', rfl, hall, us, rfl⟩
  simp [gar, List.range, List.range.loop]
  refine ⟨fun hlt => ?_, fun hge => ?_⟩
  · have hlt2 : i < ms.length := by omega
    have e1 : ns.getD i 0 = ns[i] := by simp [List.getD, hlt]
    have e2 : ms.getD i 0 = ms[i] := by simp [List.getD, hlt2]
    simp [hv.iadd hlt, hv.elem hlt, hw.iadd hlt2, hw.elem hlt2]
    refine ⟨fun h => ?_, fun h => ?_⟩
    · rw [lessL_false hlt (by rw [e1, e2]; omega)]
    · refine ⟨ns.length - (i + 1), by omega, i + 1, by omega, rfl, fun j hj => ?_, .intro (by simp) (by simp; rw [wrap_id (by omega) (by omega)])⟩
      rcases Nat.lt_or_ge j i with h2 | h2
      · exact hall j h2
      · obtain rfl : j = i := by omega
        simp [List.getD, hlt, hlt2]; exact h
  · obtain rfl : i = ns.length := by omega
    rw [lessL_true hall]
end Go.Proofs.Ytnkjbncagnfnoaa
set_option autoImplicit false
set_option linter.unusedVariables false
set_option linter.unusedSimpArgs false
set_option linter.unnecessarySimpa false
namespace Go.Proofs.Ytnkjbncagnfnoaa
open Go.Den
/- spec.l1In -/
def R81 : Rel := fun _ vs _ rs _ => ∃ n lo hi, vs = [I n, I lo, I hi] ∧ rs = [.bool (inR lo hi n)]
theorem v81 : SpecR Try.prog 81 sg81 R81 := by
  refine fnZ 12 (by kernel_rfl) (fn := Try.f81) (by kernel_rfl) (by kernel_rfl) k81 (by kernel_rfl) trivial ?_
  rintro lim vs H rs H' ⟨n, lo, hi, rfl, rfl⟩ - - -
  simp +contextual [c81, List.replicate, inR]
  omega
/- impl.within -/
def R83 : Rel := fun _ vs _ rs _ => ∃ n lo hi, vs = [I n, I lo, I hi] ∧ rs = [.bool (inR lo hi n)]
theorem v83 : SpecR Try.prog 83 sg83 R83 := by
  refine fnZ 12 (by kernel_rfl) (fn := Try.f83) (by kernel_rfl) (by kernel_rfl) k83 (by kernel_rfl) trivial ?_
  rintro lim vs H rs H' ⟨n, lo, hi, rfl, rfl⟩ - - -
  simp +contextual [c83, List.replicate, inR]
  omega
/- spec.l1All -/
def R87 : Rel := fun _ vs _ rs _ => ∃ v ns lo hi, vs = [v, I lo, I hi] ∧ Sl 3 I v ns ∧ rs = [.bool (ns.all (inR lo hi))]
theorem v87 : SpecR Try.prog 87 sg87 R87 := by
  refine fnZ 18 (by kernel_rfl) (fn := Try.f87) (by kernel_rfl) (by kernel_rfl) (k87 R81) (by kernel_rfl) ⟨v81, trivial⟩ ?_
  rintro lim vs H rs H' ⟨v, ns, lo, hi, rfl, hv, rfl⟩ - - -
  have hlen := hv.2
  simp [c87, List.replicate, hv.len]
  refine goL_intro (fun n σ H'' => ∃ i : Nat, i ≤ ns.length ∧ n = ns.length - i ∧ Before (fun n => !inR lo hi n) ns i ∧ σ = slots 21 [(1, I lo), (2, I hi), (9, v), (10, I ns.length), (11, I i)]) ns.length ⟨0, by omega, by omega, Before.zero, by simp [slots, List.replicate]⟩ ?_
  rintro n σ H'' ⟨i, hi', rfl, hall, rfl⟩
  simp [slots, List.replicate]
  refine ⟨fun hlt => ?_, fun hge => ?_⟩
  · simp [hv.iadd hlt, hv.elem hlt, l87]
    refine goCall_pure rfl ⟨_, _, _, rfl, rfl⟩ (by simp) ?_
    simp
    refine ⟨fun h => ⟨_, List.getElem_mem hlt, h⟩, fun h => ⟨ns.length - (i + 1), by omega, i + 1, by omega, rfl, hall.succ hlt (by simp [h]), ?_⟩⟩
    rw [wrap_id (by omega) (by omega)]; simp
  · have := hall.all hge
    simpa using this
/- impl.areWithin$1 -/
def R100 : Rel := fun _ vs H rs _ => ∃ n r1 r2 lo hi, vs = [I n, .ref r1 0, .ref r2 0] ∧ Num H r1 lo ∧ Num H r2 hi ∧ rs = [.bool (!inR lo hi n)]
theorem v100 : SpecR Try.prog 100 sg100 R100 := by
  refine fnZ 7 (by kernel_rfl) (fn := Try.f100) (by kernel_rfl) (by kernel_rfl) (k100 R83) (by kernel_rfl) ⟨v83, trivial⟩ ?_
  rintro lim vs H rs H' ⟨n, r1, r2, lo, hi, rfl, ⟨ck1, h1, hc1⟩, ⟨ck2, h2, hc2⟩, rfl⟩ - - -
  simp [c100, l100, List.replicate, h1, h2]
  refine goCall_pure rfl ⟨_, _, _, rfl, rfl⟩ (by simp) ?_
  simp
/- slices.IndexFunc[[]int,int]%within -/
def R97a : Rel := fun _ vs H rs _ => ∃ v ns r1 r2 lo hi, vs = [v, .fn 100 [.ref r1 0, .ref r2 0]] ∧ Sl 3 I v ns ∧ Num H r1 lo ∧ Num H r2 hi ∧ rs = [I (idx (fun n => !inR lo hi n) ns)]
theorem v97a : SpecR Try.prog 97 sg97 R97a := by
  refine fnZ 17 (by kernel_rfl) (fn := Try.f97) (by kernel_rfl) (by kernel_rfl) (k97a R100) (by kernel_rfl) ⟨v100, trivial⟩ ?_
  rintro lim vs H rs H' ⟨v, ns, r1, r2, lo, hi, rfl, hv, ⟨ck1, h1, hc1⟩, ⟨ck2, h2, hc2⟩, rfl⟩ - - -
  have hlen := hv.2
  simp [c97a, List.replicate, hv.len]
  refine goL_intro (fun n σ H'' => ∃ i : Nat, i ≤ ns.length ∧ n = ns.length - i ∧ Before (fun n => !inR lo hi n) ns i ∧ σ = slots 19 [(0, v), (1, .fn 100 [.ref r1 0, .ref r2 0]), (7, I ns.length), (8, I i)] ∧ H'' = H) ns.length ⟨0, by omega, by omega, Before.zero, by simp [slots, List.replicate], rfl⟩ ?_
  rintro n σ H'' ⟨i, hi', rfl, hall, rfl, rfl⟩
  simp [slots, List.replicate]
  refine ⟨fun hlt => ?_, fun hge => ?_⟩
  · simp [hv.iadd hlt, hv.elem hlt, l97a]
    refine goCall_pure rfl ⟨_, r1, r2, lo, hi, rfl, ⟨ck1, h1, hc1⟩, ⟨ck2, h2, hc2⟩, rfl⟩ ?_ ?_
    · exact ⟨by simp, argV_sh h1 hc1, argV_sh h2 hc2, trivial⟩
    · simp
      refine ⟨fun h => ?_, fun h => ⟨ns.length - (i + 1), by omega, i + 1, by omega, rfl, hall.succ hlt (by simp [h]), ?_⟩⟩
      · rw [hall.idx hlt (by simp [h])]
      · rw [wrap_id (by omega) (by omega)]; simp
  · simp [hall.none hge]
/- slices.ContainsFunc[[]int,int]%within -/
def R68a : Rel := fun _ vs H rs _ => ∃ v ns r1 r2 lo hi, vs = [v, .fn 100 [.ref r1 0, .ref r2 0]] ∧ Sl 3 I v ns ∧ Num H r1 lo ∧ Num H r2 hi ∧ rs = [.bool (ns.any fun n => !inR lo hi n)]
theorem v68a : SpecR Try.prog 68 sg68 R68a := by
  refine fnZ 7 (by kernel_rfl) (fn := Try.f68) (by kernel_rfl) (by kernel_rfl) (k68a R97a) (by kernel_rfl) ⟨v97a, trivial⟩ ?_
  rintro lim vs H rs H' ⟨v, ns, r1, r2, lo, hi, rfl, hv, h1, h2, rfl⟩ - - -
  simp [c68a, l68a, List.replicate]
  refine goCall_pure rfl ⟨_, _, r1, r2, lo, hi, rfl, hv, h1, h2, rfl⟩ (by simp) ?_
  simp [idx_ge]
/- impl.areWithin -/
def R89 : Rel := fun _ vs _ rs _ => ∃ v ns lo hi, vs = [v, I lo, I hi] ∧ Sl 3 I v ns ∧ rs = [.bool (ns.all (inR lo hi))]
theorem v89 : SpecR Try.prog 89 sg89 R89 := by
  refine fnZ 8 (by kernel_rfl) (fn := Try.f89) (by kernel_rfl) (by kernel_rfl) (k89 R68a) (by kernel_rfl) ⟨v68a, trivial⟩ ?_
  rintro lim vs H rs H' ⟨v, ns, lo, hi, rfl, hv, rfl⟩ - - -
  simp [c89, l89, List.replicate]
  refine goCall_pure rfl ⟨_, _, _, _, lo, hi, rfl, hv, ⟨.own, by simp, by simp⟩, ⟨.own, by simp, by simp⟩, rfl⟩ (by simp) ?_
  simp [List.not_any_eq_all_not]
/- spec.l1Own -/
def R85 : Rel := fun _ vs _ rs _ => ∃ v ns, vs = [v] ∧ Sl 3 I v ns ∧ ns.length ≤ 1048576 ∧ rs = [.sl 3 (ns.map I)]
theorem v85 : SpecR Try.prog 85 sg85 R85 := by
  refine fnZ 5 (by kernel_rfl) (fn := Try.f85) (by kernel_rfl) (by kernel_rfl) k85 (by kernel_rfl) trivial ?_
  rintro lim vs H rs H' ⟨v, ns, rfl, hv, hsm, rfl⟩ - - -
  have := hv.app0 (xs := []) (by simp; omega)
  simp at this
  simp [c85, List.replicate, this]
/- laws.toBox -/
def R17 : Rel := fun _ vs _ rs _ => ∃ x, vs = [pB x] ∧ rs = [pB x]
theorem v17 : SpecR Try.prog 17 sg17 R17 := by
  refine fnZ 13 (by kernel_rfl) (fn := Try.f17) (by kernel_rfl) (by kernel_rfl) k17 (by kernel_rfl) trivial ?_
  rintro lim vs H rs H' ⟨⟨a, b, c⟩, rfl, rfl⟩ - - -
  simp [c17, List.replicate, pB]
/- spec.neGood -/
def R54 : Rel := fun _ vs _ rs _ => ∃ x, vs = [pB x] ∧ rs = [.bool (okB x)]
theorem v54 : SpecR Try.prog 54 sg54 R54 := by
  refine fnZ 10 (by kernel_rfl) (fn := Try.f54) (by kernel_rfl) (by kernel_rfl) (k54 R87) (by kernel_rfl) ⟨v87, trivial⟩ ?_
  rintro lim vs H rs H' ⟨⟨a, b, c⟩, rfl, rfl⟩ - - -
  simp [c54, l54, List.replicate, pB]
  refine goCall_pure rfl ⟨_, [a, b, c], _, _, rfl, ⟨.inl rfl, by simp⟩, rfl⟩ (by simp) ?_
  simp [okB]
/- (impl.Box).sides -/
def R90 : Rel := fun _ vs _ rs _ => ∃ x : B3, vs = [pB x] ∧ rs = [.sl 3 ([x.a, x.b, x.c].map I)]
theorem v90 : SpecR Try.prog 90 sg90 R90 := by
  refine fnZ 9 (by kernel_rfl) (fn := Try.f90) (by kernel_rfl) (by kernel_rfl) k90 (by kernel_rfl) trivial ?_
  rintro lim vs H rs H' ⟨⟨a, b, c⟩, rfl, rfl⟩ - - -
  simp [c90, List.replicate, pB]
/- impl.isBox -/
def R56 : Rel := fun _ vs _ rs _ => ∃ x, vs = [pB x] ∧ rs = [.bool (okB x)]
theorem v56 : SpecR Try.prog 56 sg56 R56 := by
  refine fnZ 5 (by kernel_rfl) (fn := Try.f56) (by kernel_rfl) (by kernel_rfl) (k56 R90 R89) (by kernel_rfl) ⟨v90, v89, trivial⟩ ?_
  rintro lim vs H rs H' ⟨⟨a, b, c⟩, rfl, rfl⟩ - - -
  simp [c56, l56, List.replicate, pB]
  refine goCall_pure rfl ⟨⟨a, b, c⟩, rfl, rfl⟩ (by simp) ?_
  simp
  refine goCall_pure rfl ⟨_, [a, b, c], _, _, rfl, ⟨.inl rfl, by simp⟩, rfl⟩ (by simp) ?_
  simp [okB]
/- spec.neSides -/
def R88 : Rel := fun _ vs _ rs _ => ∃ x : B3, vs = [pB x] ∧ rs = [.sl 3 ((sortB x).map I)]
set_option maxHeartbeats 4000000 in
theorem v88 : SpecR Try.prog 88 sg88 R88 := by
  refine fnZ 48 (by kernel_rfl) (fn := Try.f88) (by kernel_rfl) (by kernel_rfl) (k88 R85) (by kernel_rfl) ⟨v85, trivial⟩ ?_
  rintro lim vs H rs H' ⟨x, rfl, rfl⟩ - - -
  have hxs : ∀ j, j < 3 → ([I x.a, I x.b, I x.c] : List PV)[j]? = some (I ([x.a, x.b, x.c].getD j 0)) := fun j hj => by
    have : j = 0 ∨ j = 1 ∨ j = 2 := by omega
    rcases this with rfl | rfl | rfl <;> rfl
  have hfold : ∀ j, j < 3 → outAt x (j + 1) = insB (outAt x j) ([x.a, x.b, x.c].getD j 0) := fun j hj => by
    have : j = 0 ∨ j = 1 ∨ j = 2 := by omega
    rcases this with rfl | rfl | rfl <;> rfl
  have hlast : outAt x 3 = sortB x := insB_sort x
  simp [c88, List.replicate, pB]
  refine goL_intro (fun n σ H'' => ∃ j : Nat, ∃ w, j ≤ 3 ∧ n = 3 - j ∧ Sl 3 I w (outAt x j) ∧ σ = slots 49 [(3, w), (14, .sl 3 [I x.a, I x.b, I x.c]), (15, I 3), (16, I j)]) 3 ⟨0, .nil, by omega, by omega, ⟨.inr ⟨rfl, rfl⟩, by simp [outAt]⟩, by simp [slots, List.replicate]⟩ ?_
  rintro n σ H'' ⟨j, w, hj, rfl, hw, rfl⟩
  have hol := outAt_len (x := x) hj
  simp [slots, List.replicate]
  refine ⟨fun hlt => ?_, fun hge => ?_⟩
  · have hj3 : j < 3 := by omega
    have hx := hxs j hj3
    obtain ⟨z, hz⟩ : ∃ z, z = ([x.a, x.b, x.c].getD j 0) := ⟨_, rfl⟩
    have hf := hfold j hj3
    rw [← hz] at hx hf
    obtain ⟨out, hout⟩ : ∃ out, out = outAt x j := ⟨_, rfl⟩
    rw [← hout] at hw hol hf
    have hjj : (j : Int) ≤ 2 := by omega
    have hx' : ([I x.a, I x.b, I x.c] : List PV)[j]'(by simpa using hj3) = I z := by
      rw [List.getElem?_eq_getElem (by simpa using hj3)] at hx
      exact Option.some.inj hx
    simp [hj3, hx', hw.len, hw.undef, hjj]
    refine goL_intro (fun n σ H'' => ∃ k : Nat, k ≤ out.length ∧ n = k ∧ posF out z k = posF out z out.length ∧ σ = slots 49 [(3, w), (5, I z), (6, I k), (14, .sl 3 [I x.a, I x.b, I x.c]), (15, I 3), (16, I j)]) out.length ⟨out.length, by omega, rfl, rfl, by simp [slots, List.replicate]⟩ ?_
    rintro n σ H'' ⟨k, hk, rfl, hpos, rfl⟩
    cases n with
    | zero =>
      have hp : posF out z out.length = 0 := hpos.symm
      have hwj : IntKind.i64.wrap ((j : Int) + 1) = (j : Int) + 1 := wrap_id (by omega) (by omega)
      obtain ⟨su, hs1, hs2⟩ := hw.sliU (r := 0) (by omega)
      obtain ⟨sd, hd1, hd2⟩ := hw.sliD (l := 0) (by omega)
      obtain ⟨tk, htk⟩ : ∃ tk, tk = out.take (0) := ⟨_, rfl⟩
      have htl : tk.length ≤ 3 := by rw [htk, List.length_take]; omega
      have hdl : (out.drop (0)).length ≤ 3 := by rw [List.length_drop]; omega
      rw [← htk] at hs2
      have ha1 := Sl.app0 (⟨.inl rfl, by simp⟩ : Sl 3 I (.sl 3 [I z]) [z]) (xs := tk) (by simp; omega)
      have ha2 := hd2.app0 (xs := tk ++ [z]) (by rw [List.length_append, List.length_singleton]; omega)
      have hres : (tk ++ [z]) ++ out.drop (0) = insB out z := by rw [insB, hp, htk]; simp
      rw [hres] at ha2
      have hn3 : Sl 3 I (.sl 3 ((insB out z).map I)) (outAt x (j + 1)) := by rw [hf]; exact ⟨.inl rfl, by rw [insB_len]; omega⟩
      have hs1' : sliV 3 w none (some (I (0))) none = some su := hs1
      have hd1' : sliV 3 w (some (I (0))) none none = some sd := hd1
      simp [slots, List.replicate, hw.undef]
      simp [hs1', hs2.undef]
      refine goCall_pure rfl ⟨su, tk, rfl, hs2, by omega, rfl⟩ (by simp) ?_
      simp only [List.map_append, List.map_cons, List.map_nil] at ha1 ha2
      simp [ha1, hw.undef, hd1', hd2.undef, ha2, hwj]
      exact ⟨3 - (j + 1), by omega, j + 1, by omega, rfl, _, hn3, rfl, by simp⟩
    | succ n =>
      have hn : n < out.length := by omega
      have e1 : out.getD n 0 = out[n] := by simp [List.getD, hn]
      have hwn : IntKind.i64.wrap (n : Int) = n := wrap_id (by omega) (by omega)
      simp [slots, List.replicate, hw.undef, hwn, hw.iadd hn, hw.elem hn]
      refine ⟨fun h => ⟨n, by omega, n, by omega, rfl, ?_, rfl⟩, fun h => ?_⟩
      · rw [← hpos, posF_succ, e1, if_pos h]
      have hp : posF out z out.length = n + 1 := by rw [← hpos, posF_succ, e1, if_neg (by omega)]
      have hwj : IntKind.i64.wrap ((j : Int) + 1) = (j : Int) + 1 := wrap_id (by omega) (by omega)
      obtain ⟨su, hs1, hs2⟩ := hw.sliU (r := n + 1) (by omega)
      obtain ⟨sd, hd1, hd2⟩ := hw.sliD (l := n + 1) (by omega)
      obtain ⟨tk, htk⟩ : ∃ tk, tk = out.take (n + 1) := ⟨_, rfl⟩
      have htl : tk.length ≤ 3 := by rw [htk, List.length_take]; omega
      have hdl : (out.drop (n + 1)).length ≤ 3 := by rw [List.length_drop]; omega
      rw [← htk] at hs2
      have ha1 := Sl.app0 (⟨.inl rfl, by simp⟩ : Sl 3 I (.sl 3 [I z]) [z]) (xs := tk) (by simp; omega)
      have ha2 := hd2.app0 (xs := tk ++ [z]) (by rw [List.length_append, List.length_singleton]; omega)
      have hres : (tk ++ [z]) ++ out.drop (n + 1) = insB out z := by rw [insB, hp, htk]; simp
      rw [hres] at ha2
      have hn3 : Sl 3 I (.sl 3 ((insB out z).map I)) (outAt x (j + 1)) := by rw [hf]; exact ⟨.inl rfl, by rw [insB_len]; omega⟩
      have hs1' : sliV 3 w none (some (I ((n : Int) + 1))) none = some su := hs1
      have hd1' : sliV 3 w (some (I ((n : Int) + 1))) none none = some sd := hd1
      simp [hs1', hs2.undef]
      refine goCall_pure rfl ⟨su, tk, rfl, hs2, by omega, rfl⟩ (by simp) ?_
      simp only [List.map_append, List.map_cons, List.map_nil] at ha1 ha2
      simp [ha1, hw.undef, hd1', hd2.undef, ha2, hwj]
      exact ⟨3 - (j + 1), by omega, j + 1, by omega, rfl, _, hn3, rfl, by simp⟩
  · obtain rfl : j = 3 := by omega
    rw [← hlast]
    have hfull := hw.full (by intro h; rw [h] at hol; simp at hol)
    simp [hw.undef, hw.cells, ← hfull]
end Go.Proofs.Ytnkjbncagnfnoaa
