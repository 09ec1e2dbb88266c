/- Each function that IsDesk reaches does what is told of it. Conditions: none. -/
import Derived.Test.YtemnldkcemfmeaaK
set_option linter.unusedVariables false
set_option linter.unusedSimpArgs false
set_option linter.unnecessarySimpa false
set_option autoImplicit false
namespace Go.Proofs.Ytemnldkcemfmeaa
open Go.Den
theorem v36 : SpecR Try.prog 36 sg36 R36 := by
  refine fnZ 12 (by kernel_rfl) (fn := Try.f36) (by kernel_rfl) (by kernel_rfl) k36 (by kernel_rfl) trivial ?_
  rintro lim vs H rs H' ⟨n, lo, hi, rfl, rfl⟩ - - -
  simp +contextual [c36, List.replicate, inR]
  omega
theorem v27 : SpecR Try.prog 27 sg27 R27 := by
  refine fnZ 12 (by kernel_rfl) (fn := Try.f27) (by kernel_rfl) (by kernel_rfl) k27 (by kernel_rfl) trivial ?_
  rintro lim vs H rs H' ⟨n, lo, hi, rfl, rfl⟩ - - -
  simp +contextual [c27, List.replicate, inR]
  omega
theorem v37 : SpecR Try.prog 37 sg37 R37 := by
  refine fnZ 18 (by kernel_rfl) (fn := Try.f37) (by kernel_rfl) (by kernel_rfl) k37 (by kernel_rfl) ⟨v36, trivial⟩ ?_
  rintro lim vs H rs H' ⟨v, ns, lo, hi, rfl, hv, rfl⟩ - - -
  have hlen := hv.2
  simp [c37, List.replicate, hv.len]
  refine goL_intro (fun n σ H'' => ∃ i : Nat, i ≤ ns.length ∧ n = ns.length - i ∧ Before (fun n => !inR lo hi n) ns i ∧ σ = [.undef, I lo, I hi, .undef, .undef, .undef, .undef, .undef, .undef, v, I ns.length, I i, .undef, .undef, .undef, .undef, .undef, .undef, .undef, .undef, .undef]) ns.length ⟨0, by omega, by omega, Before.zero, by simp⟩ ?_
  rintro n σ H'' ⟨i, hi', rfl, hall, rfl⟩
  simp
  refine ⟨fun hlt => ?_, fun hge => ?_⟩
  · simp [hv.iadd hlt, hv.elem hlt, l37]
    refine goCall_pure rfl ⟨_, _, _, rfl, rfl⟩ (by simp) ?_
    simp
    refine ⟨fun h => ⟨_, List.getElem_mem hlt, h⟩, fun h => ⟨ns.length - (i + 1), by omega, i + 1, by omega, rfl, hall.succ hlt (by simp [h]), ?_⟩⟩
    rw [wrap_id (by omega) (by omega)]; simp
  · have := hall.all hge
    simpa using this
theorem v38 : SpecR Try.prog 38 sg38 R38 := by
  refine fnZ 10 (by kernel_rfl) (fn := Try.f38) (by kernel_rfl) (by kernel_rfl) k38 (by kernel_rfl) ⟨v37, trivial⟩ ?_
  rintro lim vs H rs H' ⟨b, rfl, rfl⟩ - - -
  simp [c38, l38, List.replicate, pB]
  refine goCall_pure rfl ⟨_, [b.a, b.b, b.c], _, _, rfl, ⟨.inl rfl, by simp⟩, rfl⟩ (by simp) ?_
  simp [gB]
theorem v34 : SpecR Try.prog 34 sg34 R34 := by
  refine fnZ 18 (by kernel_rfl) (fn := Try.f34) (by kernel_rfl) (by kernel_rfl) k34 (by kernel_rfl) trivial ?_
  rintro lim vs H rs H' ⟨⟨a1, a2, a3⟩, ⟨b1, b2, b3⟩, rfl, rfl⟩ - - -
  simp [c34, List.replicate, pB]
  grind
theorem v40 : SpecR Try.prog 40 sg40 R40 := by
  refine fnZ 7 (by kernel_rfl) (fn := Try.f40) (by kernel_rfl) (by kernel_rfl) k40 (by kernel_rfl) ⟨v27, trivial⟩ ?_
  rintro lim vs H rs H' ⟨n, r1, r2, lo, hi, rfl, ⟨ck1, h1, hc1⟩, ⟨ck2, h2, hc2⟩, rfl⟩ - - -
  simp [c40, l40, List.replicate, h1, h2]
  refine goCall_pure rfl ⟨_, _, _, rfl, rfl⟩ (by simp) ?_
  simp
theorem v44 : SpecR Try.prog 44 sg44 R44 := by
  refine fnZ 17 (by kernel_rfl) (fn := Try.f44) (by kernel_rfl) (by kernel_rfl) k44 (by kernel_rfl) ⟨v40, trivial⟩ ?_
  rintro lim vs H rs H' ⟨v, ns, r1, r2, lo, hi, rfl, hv, ⟨ck1, h1, hc1⟩, ⟨ck2, h2, hc2⟩, rfl⟩ - - -
  have hlen := hv.2
  simp [c44, List.replicate, hv.len]
  refine goL_intro (fun n σ H'' => ∃ i : Nat, i ≤ ns.length ∧ n = ns.length - i ∧ Before (fun n => !inR lo hi n) ns i ∧ σ = [v, .fn 40 [.ref r1 0, .ref r2 0], .undef, .undef, .undef, .undef, .undef, I ns.length, I i, .undef, .undef, .undef, .undef, .undef, .undef, .undef, .undef, .undef, .undef] ∧ H'' = H) ns.length ⟨0, by omega, by omega, Before.zero, by simp, rfl⟩ ?_
  rintro n σ H'' ⟨i, hi', rfl, hall, rfl, rfl⟩
  simp
  refine ⟨fun hlt => ?_, fun hge => ?_⟩
  · simp [hv.iadd hlt, hv.elem hlt, l44]
    refine goCall_pure rfl ⟨_, r1, r2, lo, hi, rfl, ⟨ck1, h1, hc1⟩, ⟨ck2, h2, hc2⟩, rfl⟩ ?_ ?_
    · exact ⟨by simp, argV_sh h1 hc1, argV_sh h2 hc2, trivial⟩
    · simp
      refine ⟨fun h => ?_, fun h => ⟨ns.length - (i + 1), by omega, i + 1, by omega, rfl, hall.succ hlt (by simp [h]), ?_⟩⟩
      · rw [hall.idx hlt (by simp [h])]
      · rw [wrap_id (by omega) (by omega)]; simp
  · simp [hall.none hge]
theorem v39 : SpecR Try.prog 39 sg39 R39 := by
  refine fnZ 7 (by kernel_rfl) (fn := Try.f39) (by kernel_rfl) (by kernel_rfl) k39 (by kernel_rfl) ⟨v44, trivial⟩ ?_
  rintro lim vs H rs H' ⟨v, ns, r1, r2, lo, hi, rfl, hv, h1, h2, rfl⟩ - - -
  simp [c39, l39, List.replicate]
  refine goCall_pure rfl ⟨_, _, r1, r2, lo, hi, rfl, hv, h1, h2, rfl⟩ (by simp) ?_
  simp [idx_ge]
theorem v28 : SpecR Try.prog 28 sg28 R28 := by
  refine fnZ 8 (by kernel_rfl) (fn := Try.f28) (by kernel_rfl) (by kernel_rfl) k28 (by kernel_rfl) ⟨v39, trivial⟩ ?_
  rintro lim vs H rs H' ⟨v, ns, lo, hi, rfl, hv, rfl⟩ - - -
  simp [c28, l28, List.replicate]
  refine goCall_pure rfl ⟨_, _, _, _, lo, hi, rfl, hv, ⟨.own, by simp, by simp⟩, ⟨.own, by simp, by simp⟩, rfl⟩ (by simp) ?_
  simp [List.not_any_eq_all_not]
theorem v42 : SpecR Try.prog 42 sg42 R42 := by
  refine fnZ 9 (by kernel_rfl) (fn := Try.f42) (by kernel_rfl) (by kernel_rfl) k42 (by kernel_rfl) trivial ?_
  rintro lim vs H rs H' ⟨b, rfl, rfl⟩ - - -
  simp [c42, List.replicate, pB]
theorem v31 : SpecR Try.prog 31 sg31 R31 := by
  refine fnZ 5 (by kernel_rfl) (fn := Try.f31) (by kernel_rfl) (by kernel_rfl) k31 (by kernel_rfl) ⟨v42, v28, trivial⟩ ?_
  rintro lim vs H rs H' ⟨b, rfl, rfl⟩ - - -
  simp [c31, l31, List.replicate]
  refine goCall_pure rfl ⟨b, rfl, rfl⟩ (by simp) ?_
  simp
  refine goCall_pure rfl ⟨_, [b.a, b.b, b.c], _, _, rfl, ⟨.inl rfl, by simp⟩, rfl⟩ (by simp) ?_
  simp [gB]
theorem v30 : SpecR Try.prog 30 sg30 R30 := by
  refine fnZ 5 (by kernel_rfl) (fn := Try.f30) (by kernel_rfl) (by kernel_rfl) k30 (by kernel_rfl) ⟨v31, trivial⟩ ?_
  rintro lim vs H rs H' ⟨b, rfl, rfl⟩ - - -
  simp [c30, l30, List.replicate]
  refine goCall_pure rfl ⟨b, rfl, rfl⟩ (by simp) ?_
  simp
theorem v33 : SpecR Try.prog 33 sg33 R33 := by
  refine fnZ 18 (by kernel_rfl) (fn := Try.f33) (by kernel_rfl) (by kernel_rfl) k33 (by kernel_rfl) ⟨v27, trivial⟩ ?_
  rintro lim vs H rs H' ⟨b, rfl, rfl⟩ - - -
  simp [c33, l33, List.replicate, pB]
  refine goCall_pure rfl ⟨_, _, _, rfl, rfl⟩ (by simp) ?_
  cases h1 : inR 1 1000 b.a
  · simp [gS, h1]
  · simp
    refine goCall_pure rfl ⟨_, _, _, rfl, rfl⟩ (by simp) ?_
    cases h2 : inR 0 1000 b.b
    · simp [gS, h1, h2]
    · simp
      refine goCall_pure rfl ⟨_, _, _, rfl, rfl⟩ (by simp) ?_
      cases h3 : inR 1 1000 b.c <;> simp [gS, h1, h2, h3]
theorem v41 : SpecR Try.prog 41 sg41 R41 := by
  refine fnZ 17 (by kernel_rfl) (fn := Try.f41) (by kernel_rfl) (by kernel_rfl) k41 (by kernel_rfl) ⟨v30, trivial⟩ ?_
  rintro lim vs H rs H' ⟨v, xs, rfl, hv, rfl⟩ - - -
  have hlen := hv.2
  simp [c41, List.replicate, hv.len]
  refine goL_intro (fun n σ H'' => ∃ i : Nat, i ≤ xs.length ∧ n = xs.length - i ∧ Before (fun b => !gB b) xs i ∧ σ = [v, .fn 30 [], .undef, .undef, .undef, .undef, .undef, I xs.length, I i, .undef, .undef, .undef, .undef, .undef, .undef, .undef, .undef, .undef, .undef]) xs.length ⟨0, by omega, by omega, Before.zero, by simp⟩ ?_
  rintro n σ H'' ⟨i, hi', rfl, hall, rfl⟩
  simp
  refine ⟨fun hlt => ?_, fun hge => ?_⟩
  · simp [hv.iadd hlt, hv.elem hlt, l41]
    refine goCall_pure rfl ⟨xs[i], rfl, rfl⟩ (by simp) ?_
    simp
    refine ⟨fun h => ?_, fun h => ⟨xs.length - (i + 1), by omega, i + 1, by omega, rfl, hall.succ hlt (by simp [h]), ?_⟩⟩
    · rw [hall.idx hlt (by simp [h])]
    · rw [wrap_id (by omega) (by omega)]; simp
  · simp [hall.none hge]
theorem v43 : SpecR Try.prog 43 sg43 R43 := by
  refine fnZ 17 (by kernel_rfl) (fn := Try.f43) (by kernel_rfl) (by kernel_rfl) k43 (by kernel_rfl) ⟨v33, trivial⟩ ?_
  rintro lim vs H rs H' ⟨v, xs, rfl, hv, rfl⟩ - - -
  have hlen := hv.2
  simp [c43, List.replicate, hv.len]
  refine goL_intro (fun n σ H'' => ∃ i : Nat, i ≤ xs.length ∧ n = xs.length - i ∧ Before (fun b => !gS b) xs i ∧ σ = [v, .fn 33 [], .undef, .undef, .undef, .undef, .undef, I xs.length, I i, .undef, .undef, .undef, .undef, .undef, .undef, .undef, .undef, .undef, .undef]) xs.length ⟨0, by omega, by omega, Before.zero, by simp⟩ ?_
  rintro n σ H'' ⟨i, hi', rfl, hall, rfl⟩
  simp
  refine ⟨fun hlt => ?_, fun hge => ?_⟩
  · simp [hv.iadd hlt, hv.elem hlt, l43]
    refine goCall_pure rfl ⟨xs[i], rfl, rfl⟩ (by simp) ?_
    simp
    refine ⟨fun h => ?_, fun h => ⟨xs.length - (i + 1), by omega, i + 1, by omega, rfl, hall.succ hlt (by simp [h]), ?_⟩⟩
    · rw [hall.idx hlt (by simp [h])]
    · rw [wrap_id (by omega) (by omega)]; simp
  · simp [hall.none hge]
theorem v29 : SpecR Try.prog 29 sg29 R29 := by
  refine fnZ 7 (by kernel_rfl) (fn := Try.f29) (by kernel_rfl) (by kernel_rfl) k29 (by kernel_rfl) ⟨v41, trivial⟩ ?_
  rintro lim vs H rs H' ⟨v, xs, rfl, hv, rfl⟩ - - -
  simp [c29, l29, List.replicate]
  refine goCall_pure rfl ⟨_, _, rfl, hv, rfl⟩ (by simp) ?_
  simp [idx_ge]
theorem v32 : SpecR Try.prog 32 sg32 R32 := by
  refine fnZ 7 (by kernel_rfl) (fn := Try.f32) (by kernel_rfl) (by kernel_rfl) k32 (by kernel_rfl) ⟨v43, trivial⟩ ?_
  rintro lim vs H rs H' ⟨v, xs, rfl, hv, rfl⟩ - - -
  simp [c32, l32, List.replicate]
  refine goCall_pure rfl ⟨_, _, rfl, hv, rfl⟩ (by simp) ?_
  simp [idx_ge]
theorem v16 : SpecR Try.prog 16 sg16 R16 := by
  refine fnZ 9 (by kernel_rfl) (fn := Try.f16) (by kernel_rfl) (by kernel_rfl) k16 (by kernel_rfl) ⟨v27, v28, trivial⟩ ?_
  rintro lim vs H rs H' ⟨v, xs, rfl, hv, rfl⟩ - - -
  simp [c16, l16, List.replicate, hv.len]
  refine goCall_pure rfl ⟨_, _, _, rfl, rfl⟩ (by simp) ?_
  cases h1 : inR 1 9 xs.length
  · simp [gTh, h1]
  · simp
    refine goCall_pure rfl ⟨_, xs, _, _, rfl, hv, rfl⟩ (by simp) ?_
    simp [gTh, h1]
theorem v22 : SpecR Try.prog 22 sg22 R22 := by
  refine fnZ 9 (by kernel_rfl) (fn := Try.f22) (by kernel_rfl) (by kernel_rfl) k22 (by kernel_rfl) ⟨v36, v37, trivial⟩ ?_
  rintro lim vs H rs H' ⟨v, xs, rfl, hv, rfl⟩ - - -
  simp [c22, l22, List.replicate, hv.len]
  refine goCall_pure rfl ⟨_, _, _, rfl, rfl⟩ (by simp) ?_
  cases h1 : inR 1 9 xs.length
  · simp [gTh, h1]
  · simp
    refine goCall_pure rfl ⟨_, xs, _, _, rfl, hv, rfl⟩ (by simp) ?_
    simp [gTh, h1]
theorem v17 : SpecR Try.prog 17 sg17 R17 := by
  refine fnZ 10 (by kernel_rfl) (fn := Try.f17) (by kernel_rfl) (by kernel_rfl) k17 (by kernel_rfl) ⟨v27, v29, trivial⟩ ?_
  rintro lim vs H rs H' ⟨v, xs, rfl, hv, rfl⟩ - - -
  simp [c17, l17, List.replicate, hv.len]
  refine goCall_pure rfl ⟨_, _, _, rfl, rfl⟩ (by simp) ?_
  cases h1 : inR 1 7 xs.length
  · simp [gBx, h1]
  · simp
    refine goCall_pure rfl ⟨_, xs, rfl, hv, rfl⟩ (by simp) ?_
    simp [gBx, h1, List.not_any_eq_all_not]
theorem v18 : SpecR Try.prog 18 sg18 R18 := by
  refine fnZ 10 (by kernel_rfl) (fn := Try.f18) (by kernel_rfl) (by kernel_rfl) k18 (by kernel_rfl) ⟨v27, v32, trivial⟩ ?_
  rintro lim vs H rs H' ⟨v, xs, rfl, hv, rfl⟩ - - -
  simp [c18, l18, List.replicate, hv.len]
  refine goCall_pure rfl ⟨_, _, _, rfl, rfl⟩ (by simp) ?_
  cases h1 : inR 1 7 xs.length
  · simp [gSt, h1]
  · simp
    refine goCall_pure rfl ⟨_, xs, rfl, hv, rfl⟩ (by simp) ?_
    simp [gSt, h1, List.not_any_eq_all_not]
end Go.Proofs.Ytemnldkcemfmeaa
set_option autoImplicit false
namespace Go.Proofs.Ytemnldkcemfmeaa
open Go.Den
theorem v35 : SpecR Try.prog 35 sg35 R35 := by
  refine fnZ 18 (by kernel_rfl) (fn := Try.f35) (by kernel_rfl) (by kernel_rfl) k35 (by kernel_rfl) trivial ?_
  rintro lim vs H rs H' ⟨⟨a1, a2, a3⟩, ⟨b1, b2, b3⟩, rfl, rfl⟩ - - -
  simp [c35, List.replicate, pB]
  grind
theorem v23 : SpecR Try.prog 23 sg23 R23 := by
  refine fnZ 18 (by kernel_rfl) (fn := Try.f23) (by kernel_rfl) (by kernel_rfl) k23 (by kernel_rfl) ⟨v36, v38, trivial⟩ ?_
  rintro lim vs H rs H' ⟨v, xs, rfl, hv, rfl⟩ - - -
  have hlen := hv.2
  simp [c23, l23, List.replicate, hv.len]
  refine goCall_pure rfl ⟨_, _, _, rfl, rfl⟩ (by simp) ?_
  cases h1 : inR 1 7 xs.length
  · simp [gBx, h1]
  simp [hv.len]
  refine goL_intro (fun n σ H'' => ∃ i : Nat, i ≤ xs.length ∧ n = xs.length - i ∧ Before (fun b => !gB b) xs i ∧ σ = [.undef, .undef, .undef, .undef, .undef, .undef, .undef, .undef, .undef, v, I xs.length, I i, .undef, .undef, .undef, .undef, .undef, .undef, .undef]) xs.length ⟨0, by omega, by omega, Before.zero, by simp⟩ ?_
  rintro n σ H'' ⟨i, hi', rfl, hall, rfl⟩
  simp
  refine ⟨fun hlt => ?_, fun hge => ?_⟩
  · simp [hv.iadd hlt, hv.elem hlt]
    refine goCall_pure rfl ⟨xs[i], rfl, rfl⟩ (by simp) ?_
    simp
    refine ⟨fun h => ?_, fun h => ⟨xs.length - (i + 1), by omega, i + 1, by omega, rfl, hall.succ hlt (by simp [h]), ?_⟩⟩
    · simp [gBx, h1]
      exact ⟨_, List.getElem_mem hlt, h⟩
    · rw [wrap_id (by omega) (by omega)]; simp
  · have := hall.all hge
    simpa [gBx, h1] using this
theorem v24 : SpecR Try.prog 24 sg24 R24 := by
  refine fnZ 31 (by kernel_rfl) (fn := Try.f24) (by kernel_rfl) (by kernel_rfl) k24 (by kernel_rfl) ⟨v36, trivial⟩ ?_
  rintro lim vs H rs H' ⟨v, xs, rfl, hv, rfl⟩ - - -
  have hlen := hv.2
  simp [c24, l24, List.replicate, hv.len]
  refine goCall_pure rfl ⟨_, _, _, rfl, rfl⟩ (by simp) ?_
  cases h1 : inR 1 7 xs.length
  · simp [gSt, h1]
  simp [hv.len]
  refine goL_intro (fun n σ H'' => ∃ i : Nat, i ≤ xs.length ∧ n = xs.length - i ∧ Before (fun b => !gS b) xs i ∧ σ = [.undef, .undef, .undef, .undef, .undef, .undef, .undef, .undef, .undef, v, I xs.length, I i, .undef, .undef, .undef, .undef, .undef, .undef, .undef, .undef, .undef, .undef, .undef, .undef, .undef, .undef, .undef, .undef, .undef, .undef, .undef, .undef]) xs.length ⟨0, by omega, by omega, Before.zero, by simp⟩ ?_
  rintro n σ H'' ⟨i, hi', rfl, hall, rfl⟩
  simp
  refine ⟨fun hlt => ?_, fun hge => ?_⟩
  · have bad : gS xs[i] = false → (false = xs.all gS) := fun hb => by
      symm; rw [List.all_eq_false]; exact ⟨_, List.getElem_mem hlt, by simp [hb]⟩
    have next : gS xs[i] = true → ∃ m, m < xs.length - i ∧ ∃ i_1, i_1 ≤ xs.length ∧ m = xs.length - i_1 ∧ Before (fun b => !gS b) xs i_1 ∧ IntKind.i64.wrap (↑i + 1) = (i_1 : Int) := fun hb =>
      ⟨xs.length - (i + 1), by omega, i + 1, by omega, rfl, hall.succ hlt (by simp [hb]), by rw [wrap_id (by omega) (by omega)]; simp⟩
    simp [hv.iadd hlt, hv.elem hlt]
    refine goCall_pure rfl ⟨_, _, _, rfl, rfl⟩ (by simp) ?_
    cases g1 : inR 1 1000 xs[i].a
    · have := bad (by simp [gS, g1])
      simp [gSt, h1, ← this]
    · simp
      refine goCall_pure rfl ⟨_, _, _, rfl, rfl⟩ (by simp) ?_
      cases g2 : inR 0 1000 xs[i].b
      · have := bad (by simp [gS, g1, g2])
        simp [gSt, h1, ← this]
      · simp
        refine goCall_pure rfl ⟨_, _, _, rfl, rfl⟩ (by simp) ?_
        cases g3 : inR 1 1000 xs[i].c
        · have := bad (by simp [gS, g1, g2, g3])
          simp [gSt, h1, ← this]
        · have := next (by simp [gS, g1, g2, g3])
          simpa using this
  · have := hall.all hge
    simpa [gSt, h1] using this
theorem v13 : SpecR Try.prog 13 sg13 R13 := by
  refine fnZ 21 (by kernel_rfl) (fn := Try.f13) (by kernel_rfl) (by kernel_rfl) k13 (by kernel_rfl) trivial ?_
  rintro lim vs H rs H' ⟨v, xs, rfl, hv, hb, rfl⟩ - - -
  have hlen := hv.2
  simp [c13, List.replicate, hv.len]
  rw [if_pos (by omega)]
  simp
  refine goL_intro (fun n σ H'' => ∃ i : Nat, i ≤ xs.length ∧ n = xs.length - i ∧ σ = [v, .undef, .undef, .sl 3 (fillL I (I 0) xs i), I i, .undef, .undef, .undef, .undef, .undef, .undef, .undef, .undef, .undef, .undef, .undef, .undef, .undef, .undef, .undef, .undef, .undef]) xs.length ⟨0, by omega, by omega, by simp [fill_zero]⟩ ?_
  rintro n σ H'' ⟨i, hi', rfl, rfl⟩
  simp [hv.len]
  refine ⟨fun hlt => ?_, fun hge => ?_⟩
  · have hset := fill_set (f := I) (z := (I 0)) hlt
    simp [hv.iadd hlt, hv.elem hlt, l13, fill_len hi', fill_get hlt, fill_getE hlt, hlt]
    refine ⟨xs.length - (i + 1), by omega, i + 1, by omega, rfl, ?_, ?_⟩
    · exact hset
    · rw [wrap_id (by omega) (by omega)]; simp
  · simp [fill_all hge]
theorem v25 : SpecR Try.prog 25 sg25 R25 := by
  refine fnZ 13 (by kernel_rfl) (fn := Try.f25) (by kernel_rfl) (by kernel_rfl) k25 (by kernel_rfl) trivial ?_
  rintro lim vs H rs H' ⟨b, rfl, rfl⟩ - - -
  simp [c25, List.replicate, pB]
theorem v26 : SpecR Try.prog 26 sg26 R26 := by
  refine fnZ 13 (by kernel_rfl) (fn := Try.f26) (by kernel_rfl) (by kernel_rfl) k26 (by kernel_rfl) trivial ?_
  rintro lim vs H rs H' ⟨b, rfl, rfl⟩ - - -
  simp [c26, List.replicate, pB]
theorem v14 : SpecR Try.prog 14 sg14 R14 := by
  refine fnZ 22 (by kernel_rfl) (fn := Try.f14) (by kernel_rfl) (by kernel_rfl) k14 (by kernel_rfl) ⟨v25, trivial⟩ ?_
  rintro lim vs H rs H' ⟨v, xs, rfl, hv, hb, rfl⟩ - - -
  have hlen := hv.2
  simp [c14, List.replicate, hv.len]
  rw [if_pos (by omega)]
  simp
  refine goL_intro (fun n σ H'' => ∃ i : Nat, i ≤ xs.length ∧ n = xs.length - i ∧ σ = [v, .undef, .undef, .sl 49 (fillL pB (.agg [I 0, I 0, I 0]) xs i), I i, .undef, .undef, .undef, .undef, .undef, .undef, .undef, .undef, .undef, .undef, .undef, .undef, .undef, .undef, .undef, .undef, .undef, .undef]) xs.length ⟨0, by omega, by omega, by simp [fill_zero]⟩ ?_
  rintro n σ H'' ⟨i, hi', rfl, rfl⟩
  simp [hv.len]
  refine ⟨fun hlt => ?_, fun hge => ?_⟩
  · have hset := fill_set (f := pB) (z := (.agg [I 0, I 0, I 0])) hlt
    simp [hv.iadd hlt, hv.elem hlt, l14, fill_len hi', fill_get hlt, fill_getE hlt, hlt]
    refine goCall_pure rfl ⟨xs[i], rfl, rfl⟩ (by simp) ?_
    simp [fill_len hi', fill_get hlt, fill_getE hlt, hlt]
    refine ⟨xs.length - (i + 1), by omega, i + 1, by omega, rfl, ?_, ?_⟩
    · exact hset
    · rw [wrap_id (by omega) (by omega)]; simp
  · simp [fill_all hge]
theorem v15 : SpecR Try.prog 15 sg15 R15 := by
  refine fnZ 22 (by kernel_rfl) (fn := Try.f15) (by kernel_rfl) (by kernel_rfl) k15 (by kernel_rfl) ⟨v26, trivial⟩ ?_
  rintro lim vs H rs H' ⟨v, xs, rfl, hv, hb, rfl⟩ - - -
  have hlen := hv.2
  simp [c15, List.replicate, hv.len]
  rw [if_pos (by omega)]
  simp
  refine goL_intro (fun n σ H'' => ∃ i : Nat, i ≤ xs.length ∧ n = xs.length - i ∧ σ = [v, .undef, .undef, .sl 53 (fillL pB (.agg [I 0, I 0, I 0]) xs i), I i, .undef, .undef, .undef, .undef, .undef, .undef, .undef, .undef, .undef, .undef, .undef, .undef, .undef, .undef, .undef, .undef, .undef, .undef]) xs.length ⟨0, by omega, by omega, by simp [fill_zero]⟩ ?_
  rintro n σ H'' ⟨i, hi', rfl, rfl⟩
  simp [hv.len]
  refine ⟨fun hlt => ?_, fun hge => ?_⟩
  · have hset := fill_set (f := pB) (z := (.agg [I 0, I 0, I 0])) hlt
    simp [hv.iadd hlt, hv.elem hlt, l15, fill_len hi', fill_get hlt, fill_getE hlt, hlt]
    refine goCall_pure rfl ⟨xs[i], rfl, rfl⟩ (by simp) ?_
    simp [fill_len hi', fill_get hlt, fill_getE hlt, hlt]
    refine ⟨xs.length - (i + 1), by omega, i + 1, by omega, rfl, ?_, ?_⟩
    · exact hset
    · rw [wrap_id (by omega) (by omega)]; simp
  · simp [fill_all hge]
theorem v9 : SpecR Try.prog 9 sg9 R9 := by
  refine fnZ 10 (by kernel_rfl) (fn := Try.f9) (by kernel_rfl) (by kernel_rfl) k9 (by kernel_rfl) trivial ?_
  rintro lim vs H rs H' ⟨v, xs, left, rfl, hv, hl0, hl1, rfl⟩ - - -
  have hlen := hv.2
  simp [c9, List.replicate, hv.len, wrap_id (show -9223372036854775808 ≤ left - (xs.length : Int) by omega) (show left - (xs.length : Int) ≤ 9223372036854775807 by omega), sz]
  grind
theorem v10 : SpecR Try.prog 10 sg10 R10 := by
  refine fnZ 10 (by kernel_rfl) (fn := Try.f10) (by kernel_rfl) (by kernel_rfl) k10 (by kernel_rfl) trivial ?_
  rintro lim vs H rs H' ⟨v, xs, left, rfl, hv, hl0, hl1, rfl⟩ - - -
  have hlen := hv.2
  simp [c10, List.replicate, hv.len, wrap_id (show -9223372036854775808 ≤ left - (xs.length : Int) by omega) (show left - (xs.length : Int) ≤ 9223372036854775807 by omega), sz]
  grind
theorem v11 : SpecR Try.prog 11 sg11 R11 := by
  refine fnZ 10 (by kernel_rfl) (fn := Try.f11) (by kernel_rfl) (by kernel_rfl) k11 (by kernel_rfl) trivial ?_
  rintro lim vs H rs H' ⟨v, xs, left, rfl, hv, hl0, hl1, rfl⟩ - - -
  have hlen := hv.2
  simp [c11, List.replicate, hv.len, wrap_id (show -9223372036854775808 ≤ left - (xs.length : Int) by omega) (show left - (xs.length : Int) ≤ 9223372036854775807 by omega), sz]
  grind
end Go.Proofs.Ytemnldkcemfmeaa
set_option autoImplicit false
set_option linter.unusedSimpArgs false
namespace Go.Proofs.Ytemnldkcemfmeaa
open Go.Den
theorem v19 : SpecR Try.prog 19 sg19 R19 := by
  refine fnZ 24 (by kernel_rfl) (fn := Try.f19) (by kernel_rfl) (by kernel_rfl) k19 (by kernel_rfl) trivial ?_
  rintro lim vs H rs H' ⟨v, w, xs, ys, rfl, hv, hw, rfl⟩ - - -
  have hlen := hv.2
  simp [c19, List.replicate, hv.len, hw.len]
  refine ⟨fun hne => fun he => hne (by rw [he]), fun heq => ?_⟩
  refine goL_intro (fun n σ H'' => ∃ i : Nat, i ≤ xs.length ∧ n = xs.length - i ∧ (∀ j (h1 : j < xs.length) (h2 : j < ys.length), j < i → xs[j] = ys[j]) ∧ σ = [v, w, .undef, .undef, .undef, I i, .undef, .undef, .undef, .undef, .undef, .undef, .undef, .undef, .undef, .undef, .undef, .undef, .undef, .undef, .undef, .undef, .undef, .undef, .undef, .undef]) xs.length ⟨0, by omega, by omega, fun _ _ _ h => absurd h (by omega), by simp⟩ ?_
  rintro n σ H'' ⟨i, hi', rfl, hall, rfl⟩
  simp [hv.len]
  refine ⟨fun hlt => ?_, fun hge => ?_⟩
  · have hlt2 : i < ys.length := by omega
    simp [hv.iadd hlt, hv.elem hlt, hw.iadd hlt2, hw.elem hlt2, l19]
    refine ⟨fun hne he => ?_, fun he => ⟨xs.length - (i + 1), by omega, i + 1, by omega, rfl, fun j h1 h2 h3 => ?_, ?_⟩⟩
    · subst he; exact hne rfl
    · by_cases hj : j = i
      · subst hj; exact he
      · exact hall j h1 h2 (by omega)
    · rw [wrap_id (by omega) (by omega)]; simp
  · exact List.ext_getElem (by omega) fun j h1 h2 => hall j h1 h2 (by omega)
theorem v20 : SpecR Try.prog 20 sg20 R20 := by
  refine fnZ 25 (by kernel_rfl) (fn := Try.f20) (by kernel_rfl) (by kernel_rfl) k20 (by kernel_rfl) ⟨v34, trivial⟩ ?_
  rintro lim vs H rs H' ⟨v, w, xs, ys, rfl, hv, hw, rfl⟩ - - -
  have hlen := hv.2
  simp [c20, List.replicate, hv.len, hw.len]
  refine ⟨fun hne => fun he => hne (by rw [he]), fun heq => ?_⟩
  refine goL_intro (fun n σ H'' => ∃ i : Nat, i ≤ xs.length ∧ n = xs.length - i ∧ (∀ j (h1 : j < xs.length) (h2 : j < ys.length), j < i → xs[j] = ys[j]) ∧ σ = [v, w, .undef, .undef, .undef, I i, .undef, .undef, .undef, .undef, .undef, .undef, .undef, .undef, .undef, .undef, .undef, .undef, .undef, .undef, .undef, .undef, .undef, .undef, .undef, .undef, .undef]) xs.length ⟨0, by omega, by omega, fun _ _ _ h => absurd h (by omega), by simp⟩ ?_
  rintro n σ H'' ⟨i, hi', rfl, hall, rfl⟩
  simp [hv.len]
  refine ⟨fun hlt => ?_, fun hge => ?_⟩
  · have hlt2 : i < ys.length := by omega
    simp [hv.iadd hlt, hv.elem hlt, hw.iadd hlt2, hw.elem hlt2, l20]
    refine goCall_pure rfl ⟨xs[i], ys[i]'(by omega), rfl, rfl⟩ (by simp) ?_
    simp
    refine ⟨fun hne he => ?_, fun he => ⟨xs.length - (i + 1), by omega, i + 1, by omega, rfl, fun j h1 h2 h3 => ?_, ?_⟩⟩
    · subst he; exact hne rfl
    · by_cases hj : j = i
      · subst hj; exact he
      · exact hall j h1 h2 (by omega)
    · rw [wrap_id (by omega) (by omega)]; simp
  · exact List.ext_getElem (by omega) fun j h1 h2 => hall j h1 h2 (by omega)
theorem v21 : SpecR Try.prog 21 sg21 R21 := by
  refine fnZ 25 (by kernel_rfl) (fn := Try.f21) (by kernel_rfl) (by kernel_rfl) k21 (by kernel_rfl) ⟨v35, trivial⟩ ?_
  rintro lim vs H rs H' ⟨v, w, xs, ys, rfl, hv, hw, rfl⟩ - - -
  have hlen := hv.2
  simp [c21, List.replicate, hv.len, hw.len]
  refine ⟨fun hne => fun he => hne (by rw [he]), fun heq => ?_⟩
  refine goL_intro (fun n σ H'' => ∃ i : Nat, i ≤ xs.length ∧ n = xs.length - i ∧ (∀ j (h1 : j < xs.length) (h2 : j < ys.length), j < i → xs[j] = ys[j]) ∧ σ = [v, w, .undef, .undef, .undef, I i, .undef, .undef, .undef, .undef, .undef, .undef, .undef, .undef, .undef, .undef, .undef, .undef, .undef, .undef, .undef, .undef, .undef, .undef, .undef, .undef, .undef]) xs.length ⟨0, by omega, by omega, fun _ _ _ h => absurd h (by omega), by simp⟩ ?_
  rintro n σ H'' ⟨i, hi', rfl, hall, rfl⟩
  simp [hv.len]
  refine ⟨fun hlt => ?_, fun hge => ?_⟩
  · have hlt2 : i < ys.length := by omega
    simp [hv.iadd hlt, hv.elem hlt, hw.iadd hlt2, hw.elem hlt2, l21]
    refine goCall_pure rfl ⟨xs[i], ys[i]'(by omega), rfl, rfl⟩ (by simp) ?_
    simp
    refine ⟨fun hne he => ?_, fun he => ⟨xs.length - (i + 1), by omega, i + 1, by omega, rfl, fun j h1 h2 h3 => ?_, ?_⟩⟩
    · subst he; exact hne rfl
    · by_cases hj : j = i
      · subst hj; exact he
      · exact hall j h1 h2 (by omega)
    · rw [wrap_id (by omega) (by omega)]; simp
  · exact List.ext_getElem (by omega) fun j h1 h2 => hall j h1 h2 (by omega)
theorem v6 : SpecR Try.prog 6 sg6 R6 := by
  refine fnZ 16 (by kernel_rfl) (fn := Try.f6) (by kernel_rfl) (by kernel_rfl) k6 (by kernel_rfl) ⟨v13, v14, v15, trivial⟩ ?_
  rintro lim vs H rs H' ⟨v, th, bx, st, rfl, ⟨v1, v2, v3, rfl, h1, h2, h3⟩, b1, b2, b3, rfl⟩ - - -
  simp [c6, l6, List.replicate]
  refine goCall_pure rfl ⟨_, th, rfl, h1, b1, rfl⟩ (by simp) ?_
  simp
  refine goCall_pure rfl ⟨_, bx, rfl, h2, b2, rfl⟩ (by simp) ?_
  simp
  refine goCall_pure rfl ⟨_, st, rfl, h3, b3, rfl⟩ (by simp) ?_
  simp
theorem v4 : SpecR Try.prog 4 sg4 R4 := by
  refine fnZ 22 (by kernel_rfl) (fn := Try.f4) (by kernel_rfl) (by kernel_rfl) k4 (by kernel_rfl) ⟨v9, v10, v11, trivial⟩ ?_
  rintro lim vs H rs H' ⟨v, th, bx, st, left, rfl, ⟨v1, v2, v3, rfl, h1, h2, h3⟩, hl0, hl1, rfl⟩ - - -
  simp [c4, l4, List.replicate]
  have q1 : -1 ≤ sz left th.length ∧ sz left th.length ≤ 1048576 := by unfold sz; split <;> omega
  refine goCall_pure rfl ⟨_, th, left, rfl, h1, by omega, hl1, rfl⟩ (by simp) ?_
  simp
  refine ⟨fun hneg => by simp [szD, hneg], fun hpos => ?_⟩
  have q2 : -1 ≤ sz (sz left th.length) bx.length ∧ sz (sz left th.length) bx.length ≤ 1048576 := by unfold sz at q1 ⊢; split <;> omega
  refine goCall_pure rfl ⟨_, bx, _, rfl, h2, q1.1, q1.2, rfl⟩ (by simp) ?_
  simp
  refine ⟨fun hneg => by simp [szD, hneg, show ¬ sz left th.length < 0 by omega], fun hpos2 => ?_⟩
  refine goCall_pure rfl ⟨_, st, _, rfl, h3, q2.1, q2.2, rfl⟩ (by simp) ?_
  simp
  refine ⟨fun hneg => by simp [szD, hneg, show ¬ sz left th.length < 0 by omega, show ¬ sz (sz left th.length) bx.length < 0 by omega], fun hpos3 => ?_⟩
  simp [szD, show ¬ sz left th.length < 0 by omega, show ¬ sz (sz left th.length) bx.length < 0 by omega, show ¬ sz (sz (sz left th.length) bx.length) st.length < 0 by omega]
theorem v8 : SpecR Try.prog 8 sg8 R8 := by
  refine fnZ 21 (by kernel_rfl) (fn := Try.f8) (by kernel_rfl) (by kernel_rfl) k8 (by kernel_rfl) ⟨v19, v20, v21, trivial⟩ ?_
  rintro lim vs H rs H' ⟨v, w, th, bx, st, th', bx', st', rfl, ⟨v1, v2, v3, rfl, h1, h2, h3⟩, ⟨w1, w2, w3, rfl, g1, g2, g3⟩, rfl⟩ - - -
  simp [c8, l8, List.replicate]
  refine goCall_pure rfl ⟨_, _, th, th', rfl, h1, g1, rfl⟩ (by simp) ?_
  simp
  refine ⟨fun hne he => absurd he hne, fun he1 => ?_⟩
  refine goCall_pure rfl ⟨_, _, bx, bx', rfl, h2, g2, rfl⟩ (by simp) ?_
  simp
  refine ⟨fun hne _ he => absurd he hne, fun he2 => ?_⟩
  refine goCall_pure rfl ⟨_, _, st, st', rfl, h3, g3, rfl⟩ (by simp) ?_
  simp [he1, he2]
theorem v12 : SpecR Try.prog 12 sg12 R12 := by
  refine fnZ 15 (by kernel_rfl) (fn := Try.f12) (by kernel_rfl) (by kernel_rfl) k12 (by kernel_rfl) ⟨v22, v23, v24, trivial⟩ ?_
  rintro lim vs H rs H' ⟨v, th, bx, st, rfl, ⟨v1, v2, v3, rfl, h1, h2, h3⟩, rfl⟩ - - -
  simp [c12, l12, List.replicate]
  refine goCall_pure rfl ⟨_, th, rfl, h1, rfl⟩ (by simp) ?_
  cases e1 : gTh th
  · simp [gDk, e1]
  · simp
    refine goCall_pure rfl ⟨_, bx, rfl, h2, rfl⟩ (by simp) ?_
    cases e2 : gBx bx
    · simp [gDk, e1, e2]
    · simp
      refine goCall_pure rfl ⟨_, st, rfl, h3, rfl⟩ (by simp) ?_
      simp [gDk, e1, e2]
theorem v7 : SpecR Try.prog 7 sg7 R7 := by
  refine fnZ 15 (by kernel_rfl) (fn := Try.f7) (by kernel_rfl) (by kernel_rfl) k7 (by kernel_rfl) ⟨v16, v17, v18, trivial⟩ ?_
  rintro lim vs H rs H' ⟨v, th, bx, st, rfl, ⟨v1, v2, v3, rfl, h1, h2, h3⟩, rfl⟩ - - -
  simp [c7, l7, List.replicate]
  refine goCall_pure rfl ⟨_, th, rfl, h1, rfl⟩ (by simp) ?_
  cases e1 : gTh th
  · simp [gDk, e1]
  · simp
    refine goCall_pure rfl ⟨_, bx, rfl, h2, rfl⟩ (by simp) ?_
    cases e2 : gBx bx
    · simp [gDk, e1, e2]
    · simp
      refine goCall_pure rfl ⟨_, st, rfl, h3, rfl⟩ (by simp) ?_
      simp [gDk, e1, e2]
theorem v5 : SpecR Try.prog 5 sg5 R5 := by
  refine fnZ 4 (by kernel_rfl) (fn := Try.f5) (by kernel_rfl) (by kernel_rfl) k5 (by kernel_rfl) ⟨v12, trivial⟩ ?_
  rintro lim vs H rs H' ⟨v, th, bx, st, rfl, ⟨v1, v2, v3, rfl, h1, h2, h3⟩, rfl⟩ - - -
  simp [c5, l5, List.replicate]
  refine goCall_pure rfl ⟨_, th, bx, st, rfl, ⟨v1, v2, v3, rfl, h1, h2, h3⟩, rfl⟩ (by simp) ?_
  simp
theorem v3 : SpecR Try.prog 3 sg3 R3 := by
  refine fnZ 26 (by kernel_rfl) (fn := Try.f3) (by kernel_rfl) (by kernel_rfl) k3 (by kernel_rfl) ⟨v4, v6, v5, v7, v8, trivial⟩ ?_
  rintro lim vs H rs H' ⟨v, th, bx, st, rfl, ⟨v1, v2, v3, rfl, h1, h2, h3⟩, rfl⟩ - - -
  simp [c3, l3, List.replicate]
  refine goCall_pure rfl ⟨_, th, bx, st, _, rfl, ⟨v1, v2, v3, rfl, h1, h2, h3⟩, by omega, by omega, rfl⟩ (by simp) ?_
  simp
  intro hpos
  have hb : th.length ≤ 1048576 ∧ bx.length ≤ 1048576 ∧ st.length ≤ 1048576 := by
    unfold szD at hpos
    split at hpos
    · omega
    · split at hpos
      · omega
      · split at hpos
        · omega
        · unfold sz at *
          grind
  obtain ⟨b1, b2, b3⟩ := hb
  have hD : Dk 51 55 (.agg [v1, v2, v3]) th bx st := ⟨v1, v2, v3, rfl, h1, h2, h3⟩
  have hD' : Dk 49 53 (.agg [.sl 3 (th.map I), .sl 49 (bx.map pB), .sl 53 (st.map pB)]) th bx st := ⟨_, _, _, rfl, ⟨.inl rfl, by omega⟩, ⟨.inl rfl, by omega⟩, ⟨.inl rfl, by omega⟩⟩
  refine goCall_pure rfl ⟨_, th, bx, st, rfl, hD, b1, b2, b3, rfl⟩ (by simp) ?_
  simp
  refine goCall_pure rfl ⟨_, th, bx, st, rfl, hD', rfl⟩ (by simp) ?_
  simp
  refine goCall_pure rfl ⟨_, th, bx, st, rfl, hD, b1, b2, b3, rfl⟩ (by simp) ?_
  simp
  refine goCall_pure rfl ⟨_, th, bx, st, rfl, hD', rfl⟩ (by simp) ?_
  simp
  refine goCall_pure rfl ⟨_, th, bx, st, rfl, hD, b1, b2, b3, rfl⟩ (by simp) ?_
  simp
  refine goCall_pure rfl ⟨_, _, th, bx, st, th, bx, st, rfl, hD', hD', rfl⟩ (by simp) ?_
  simp
end Go.Proofs.Ytemnldkcemfmeaa
