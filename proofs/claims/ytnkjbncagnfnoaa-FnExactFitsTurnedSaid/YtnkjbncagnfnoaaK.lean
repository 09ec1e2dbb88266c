/- The functions that FitsTurned reaches, as commands, each checked by the kernel. Conditions: none. -/
import Derived.Test.YtnkjbncagnfnoaaDenC
import Derived.KernelRfl
import Derived.Test.YtnkjbncagnfnoaaProg
set_option linter.unusedVariables false
set_option linter.unusedSimpArgs false
set_option linter.unnecessarySimpa false
set_option autoImplicit false
set_option linter.unusedVariables false
set_option linter.unusedSimpArgs false
set_option linter.unnecessarySimpa false
namespace Go.Proofs.Ytnkjbncagnfnoaa
open Go.Den
abbrev sg3 : Sig := { ps := [.fl, .fl], rs := [.fl], pure := true }
abbrev sg16 : Sig := { ps := [.fl, .fl], rs := [.fl, .fl], pure := true }
abbrev sg17 : Sig := { ps := [.fl], rs := [.fl], pure := true }
abbrev sg18 : Sig := { ps := [.fl, .fl], rs := [.fl, .fl], pure := true }
abbrev sg54 : Sig := { ps := [.fl], rs := [.fl], pure := true }
abbrev sg55 : Sig := { ps := [.fl, .fl], rs := [.fl], pure := true }
abbrev sg56 : Sig := { ps := [.fl], rs := [.fl], pure := true }
abbrev sg57 : Sig := { ps := [.fl, .fl], rs := [.fl], pure := true }
abbrev sg68 : Sig := { ps := [.rd, .fn], rs := [.fl], pure := true }
abbrev sg81 : Sig := { ps := [.fl, .fl, .fl], rs := [.fl], pure := true }
abbrev sg83 : Sig := { ps := [.fl, .fl, .fl], rs := [.fl], pure := true }
abbrev sg85 : Sig := { ps := [.rd], rs := [.own], pure := true }
abbrev sg87 : Sig := { ps := [.rd, .fl, .fl], rs := [.fl], pure := true }
abbrev sg88 : Sig := { ps := [.fl], rs := [.own], pure := true }
abbrev sg89 : Sig := { ps := [.rd, .fl, .fl], rs := [.fl], pure := true }
abbrev sg90 : Sig := { ps := [.fl], rs := [.own], pure := true }
abbrev sg91 : Sig := { ps := [.rd, .rd], rs := [.fl], pure := true }
abbrev sg97 : Sig := { ps := [.rd, .fn], rs := [.fl], pure := true }
abbrev sg100 : Sig := { ps := [.fl, .ptr .sh, .ptr .sh], rs := [.fl], pure := true }
/- loop.example/g01334/laws.toBox -/
noncomputable def l17 : Deps := []
noncomputable def E17 : Env := mkE Try.prog [0, 1, 3] [] (l17) []
noncomputable def hs17 : HS := []
noncomputable def c17 : Cmd :=
  .seq (.ops [⟨.box 1 .own (.tmp 0) .none, none, (some 1), false⟩,
     ⟨.alloc 2 .own [(.int .i64 0), (.int .i64 0), (.int .i64 0)], none, (some 2), false⟩])
   (.seq (.ops [⟨.alloc 3 .own [(.int .i64 0), (.int .i64 0), (.int .i64 0)], none, (some 3), false⟩])
    (.seq (.ops [⟨.fadd 4 (.tmp 1) 0, none, (some 4), false⟩,
       ⟨.loadB 5 (.tmp 4) none true, none, (some 5), false⟩,
       ⟨.fadd 6 (.tmp 3) 0, none, (some 6), false⟩,
       ⟨.storeB (.tmp 6) (.tmp 5) none .none, none, none, false⟩])
     (.seq (.ops [⟨.fadd 7 (.tmp 1) 1, none, (some 7), false⟩,
        ⟨.loadB 8 (.tmp 7) none true, none, (some 8), false⟩,
        ⟨.fadd 9 (.tmp 3) 1, none, (some 9), false⟩,
        ⟨.storeB (.tmp 9) (.tmp 8) none .none, none, none, false⟩])
      (.seq (.ops [⟨.fadd 10 (.tmp 1) 2, none, (some 10), false⟩,
         ⟨.loadB 11 (.tmp 10) none true, none, (some 11), false⟩,
         ⟨.fadd 12 (.tmp 3) 2, none, (some 12), false⟩,
         ⟨.storeB (.tmp 12) (.tmp 11) none .none, none, none, false⟩])
       (.seq (.ops [⟨.loadB 13 (.tmp 3) (some 3) true, none, (some 13), false⟩,
          ⟨.storeB (.tmp 2) (.tmp 13) (some 3) .none, none, none, false⟩])
        (.ret [(.cell 2 (some 3) true)] [.none]))))))
theorem k17 : compileFn (E17) Try.f17 sg17 hs17 = some c17 := by kernel_rfl
/- loop.example/g01334/spec.l1In -/
noncomputable def l81 : Deps := []
noncomputable def E81 : Env := mkE Try.prog [0, 1, 2, 3, 4, 5] [] (l81) []
noncomputable def hs81 : HS := []
noncomputable def c81 : Cmd :=
  .seq (.ops [⟨.copy 6 (.const (.bool false)), none, (some 6), false⟩])
   (.seq (.ops [⟨.copy 7 (.tmp 0), none, (some 7), false⟩,
      ⟨.copy 8 (.tmp 1), none, (some 8), false⟩,
      ⟨.bin 9 .geq (.tmp 7) (.tmp 8), none, (some 9), false⟩,
      ⟨.copy 10 (.tmp 9), none, (some 10), false⟩,
      ⟨.copy 11 (.tmp 0), (some (10, true)), (some 11), true⟩,
      ⟨.copy 12 (.tmp 2), (some (10, true)), (some 12), true⟩,
      ⟨.bin 13 .leq (.tmp 11) (.tmp 12), (some (10, true)), (some 13), true⟩,
      ⟨.pick 14 (.tmp 10) (.tmp 13) (.const (.bool false)), none, (some 14), false⟩,
      ⟨.copy 6 (.tmp 14), none, (some 6), false⟩])
    (.ret [(.tmp 6)] [.none]))
theorem k81 : compileFn (E81) Try.f81 sg81 hs81 = some c81 := by kernel_rfl
/- loop.example/g01334/spec.l1All -/
noncomputable def l87 (r81 : Rel) : Deps := [(81, sg81, r81)]
noncomputable def E87 (r81 : Rel) : Env := mkE Try.prog [0, 1, 2, 3, 4, 5, 7, 8] [] (l87 r81) []
noncomputable def hs87 : HS := [[0, 3, 4, 5, 6, 7, 8, 12, 13, 14, 15, 16, 17, 18, 19, 20]]
noncomputable def c87 : Cmd :=
  .seq (.ops [⟨.copy 6 (.const (.bool false)), none, (some 6), false⟩])
   (.seq (.seq (.ops [⟨.copy 9 (.tmp 0), none, (some 9), false⟩,
       ⟨.len 10 false (.tmp 9), none, (some 10), false⟩,
       ⟨.copy 11 (.const (.int .i64 0)), none, (some 11), false⟩])
     (.block 0 (.loop [false, true, true, false, false, false, false, false, false, true, true, true, false, false, false, false, false, false, false, false, false]
       (.seq (.ops [⟨.bin 12 .lss (.tmp 11) (.tmp 10), none, (some 12), false⟩])
        (.seq (.cond (.tmp 12)
          (.skip)
          (.exit 0))
         (.seq (.block 1 (.seq (.ops [⟨.iadd 13 9 3 (.tmp 11), none, (some 13), false⟩,
              ⟨.loadE 14 9 13 none true, none, (some 14), false⟩,
              ⟨.copy 8 (.tmp 14), none, (some 8), false⟩])
            (.seq (.ops [⟨.copy 15 (.tmp 8), none, (some 15), false⟩,
               ⟨.copy 16 (.tmp 1), none, (some 16), false⟩,
               ⟨.copy 17 (.tmp 2), none, (some 17), false⟩,
               ⟨.call (some 18) 81 sg81 [(.tmp 15), (.tmp 16), (.tmp 17)] [.none, .none, .none], none, (some 18), false⟩,
               ⟨.un 19 .not (.tmp 18), none, (some 19), false⟩])
             (.cond (.tmp 19)
              (.seq (.ops [⟨.copy 6 (.const (.bool false)), none, (some 6), false⟩])
               (.ret [(.tmp 6)] [.none]))
              (.skip)))))
          (.ops [⟨.bin 20 .add (.tmp 11) (.const (.int .i64 1)), none, (some 20), false⟩,
            ⟨.copy 11 (.tmp 20), none, (some 11), false⟩])))))))
    (.seq (.ops [⟨.copy 6 (.const (.bool true)), none, (some 6), false⟩])
     (.ret [(.tmp 6)] [.none])))
theorem k87 (r81 : Rel) : compileFn (E87 r81) Try.f87 sg87 hs87 = some c87 := by kernel_rfl
/- loop.example/g01334/spec.neGood -/
noncomputable def l54 (r87 : Rel) : Deps := [(87, sg87, r87)]
noncomputable def E54 (r87 : Rel) : Env := mkE Try.prog [0, 1] [] (l54 r87) []
noncomputable def hs54 : HS := []
noncomputable def c54 : Cmd :=
  .seq (.ops [⟨.box 1 .own (.tmp 0) .none, none, (some 1), false⟩,
     ⟨.copy 2 (.const (.bool false)), none, (some 2), false⟩])
   (.seq (.ops [⟨.fadd 3 (.tmp 1) 0, none, (some 3), false⟩,
      ⟨.loadB 4 (.tmp 3) none true, none, (some 4), false⟩,
      ⟨.fadd 5 (.tmp 1) 1, none, (some 5), false⟩,
      ⟨.loadB 6 (.tmp 5) none true, none, (some 6), false⟩,
      ⟨.fadd 7 (.tmp 1) 2, none, (some 7), false⟩,
      ⟨.loadB 8 (.tmp 7) none true, none, (some 8), false⟩,
      ⟨.lit 9 3 1 [(.tmp 4), (.tmp 6), (.tmp 8)] [.none, .none, .none], none, (some 9), false⟩,
      ⟨.call (some 10) 87 sg87 [(.tmp 9), (.const (.int .i64 1)), (.const (.int .i64 50))] [.none, .none, .none], none, (some 10), false⟩,
      ⟨.copy 2 (.tmp 10), none, (some 2), false⟩])
    (.ret [(.tmp 2)] [.none]))
theorem k54 (r87 : Rel) : compileFn (E54 r87) Try.f54 sg54 hs54 = some c54 := by kernel_rfl
/- loop.example/g01334/spec.l1Own -/
noncomputable def l85 : Deps := []
noncomputable def E85 : Env := mkE Try.prog [0, 1] [] (l85) []
noncomputable def hs85 : HS := []
noncomputable def c85 : Cmd :=
  .seq (.ops [⟨.copy 2 (.const (.slice none 0 0)), none, (some 2), false⟩])
   (.seq (.ops [⟨.lit 3 3 1 [] [], none, (some 3), false⟩,
      ⟨.copy 4 (.tmp 0), none, (some 4), false⟩,
      ⟨.app 5 3 8 true (.tmp 3) (.tmp 4) [(.slot 3), .none], none, (some 5), false⟩,
      ⟨.take 2 (.tmp 5) (.slot 5), none, (some 2), false⟩])
    (.ret [(.tmp 2)] [(.slot 2)]))
theorem k85 : compileFn (E85) Try.f85 sg85 hs85 = some c85 := by kernel_rfl
/- loop.example/g01334/spec.neSides -/
noncomputable def l88 (r85 : Rel) : Deps := [(85, sg85, r85)]
noncomputable def E88 (r85 : Rel) : Env := mkE Try.prog [0, 1, 3, 4, 5, 6, 7] [] (l88 r85) []
noncomputable def hs88 : HS := [[0, 1, 2, 4, 5, 6, 7, 8, 9, 10, 11, 12, 13, 17, 18, 19, 20, 21, 22, 23, 24, 32, 33, 34, 35, 36, 37, 38, 39, 40, 41, 42, 43, 44, 45, 46, 47, 48], [0, 1, 2, 4, 7, 8, 9, 10, 11, 12, 13, 17, 18, 19, 20, 21, 22, 23, 24, 32, 33, 34, 35, 36, 37, 38, 39, 40, 41, 42, 43, 44, 45, 46, 47, 48]]
noncomputable def c88 : Cmd :=
  .seq (.ops [⟨.box 1 .own (.tmp 0) .none, none, (some 1), false⟩,
     ⟨.copy 2 (.const (.slice none 0 0)), none, (some 2), false⟩])
   (.seq (.ops [⟨.copy 3 (.const (.slice none 0 0)), none, (some 3), false⟩])
    (.seq (.seq (.ops [⟨.fadd 8 (.tmp 1) 0, none, (some 8), false⟩,
        ⟨.loadB 9 (.tmp 8) none true, none, (some 9), false⟩,
        ⟨.fadd 10 (.tmp 1) 1, none, (some 10), false⟩,
        ⟨.loadB 11 (.tmp 10) none true, none, (some 11), false⟩,
        ⟨.fadd 12 (.tmp 1) 2, none, (some 12), false⟩,
        ⟨.loadB 13 (.tmp 12) none true, none, (some 13), false⟩,
        ⟨.lit 14 3 1 [(.tmp 9), (.tmp 11), (.tmp 13)] [.none, .none, .none], none, (some 14), false⟩,
        ⟨.len 15 false (.tmp 14), none, (some 15), false⟩,
        ⟨.copy 16 (.const (.int .i64 0)), none, (some 16), false⟩])
      (.block 0 (.loop [false, false, false, true, false, false, false, false, false, false, false, false, false, false, true, true, true, false, false, false, false, false, false, false, false, false, false, false, false, false, false, false, false, false, false, false, false, false, false, false, false, false, false, false, false, false, false, false, false]
        (.seq (.ops [⟨.bin 17 .lss (.tmp 16) (.tmp 15), none, (some 17), false⟩])
         (.seq (.cond (.tmp 17)
           (.skip)
           (.exit 0))
          (.seq (.block 1 (.seq (.ops [⟨.iadd 18 14 3 (.tmp 16), none, (some 18), false⟩,
               ⟨.loadE 19 14 18 none true, none, (some 19), false⟩,
               ⟨.copy 5 (.tmp 19), none, (some 5), false⟩])
             (.seq (.ops [⟨.copy 20 (.tmp 3), none, (some 20), false⟩,
                ⟨.len 21 false (.tmp 20), none, (some 21), false⟩,
                ⟨.copy 6 (.tmp 21), none, (some 6), false⟩])
              (.seq (.block 2 (.loop [false, false, false, true, false, true, true, false, false, false, false, false, false, false, true, true, true, false, false, false, false, false, false, false, false, false, false, false, false, false, false, false, false, false, false, false, false, false, false, false, false, false, false, false, false, false, false, false, false]
                 (.seq (.seq (.ops [⟨.copy 22 (.tmp 6), none, (some 22), false⟩,
                     ⟨.bin 23 .gtr (.tmp 22) (.const (.int .i64 0)), none, (some 23), false⟩,
                     ⟨.copy 24 (.tmp 23), none, (some 24), false⟩,
                     ⟨.copy 25 (.tmp 3), (some (24, true)), (some 25), false⟩,
                     ⟨.copy 26 (.tmp 6), (some (24, true)), (some 26), true⟩,
                     ⟨.bin 27 .sub (.tmp 26) (.const (.int .i64 1)), (some (24, true)), (some 27), true⟩,
                     ⟨.iadd 28 25 3 (.tmp 27), (some (24, true)), (some 28), false⟩,
                     ⟨.loadE 29 25 28 none true, (some (24, true)), (some 29), true⟩,
                     ⟨.copy 30 (.tmp 5), (some (24, true)), (some 30), true⟩,
                     ⟨.bin 31 .gtr (.tmp 29) (.tmp 30), (some (24, true)), (some 31), true⟩,
                     ⟨.pick 32 (.tmp 24) (.tmp 31) (.const (.bool false)), none, (some 32), false⟩])
                   (.cond (.tmp 32)
                    (.skip)
                    (.exit 2)))
                  (.block 3 (.ops [⟨.copy 33 (.tmp 6), none, (some 33), false⟩,
                     ⟨.bin 34 .sub (.tmp 33) (.const (.int .i64 1)), none, (some 34), false⟩,
                     ⟨.copy 6 (.tmp 34), none, (some 6), false⟩])))))
               (.seq (.ops [⟨.copy 35 (.tmp 3), none, (some 35), false⟩,
                  ⟨.copy 36 (.tmp 6), none, (some 36), false⟩,
                  ⟨.sli 37 3 (.tmp 35) none (some (.tmp 36)) none, none, (some 37), false⟩,
                  ⟨.call (some 38) 85 sg85 [(.tmp 37)] [.none], none, (some 38), false⟩,
                  ⟨.copy 39 (.tmp 5), none, (some 39), false⟩,
                  ⟨.lit 40 3 1 [(.tmp 39)] [.none], none, (some 40), false⟩,
                  ⟨.app 41 3 8 true (.tmp 38) (.tmp 40) [(.slot 38), .none], none, (some 41), false⟩,
                  ⟨.take 7 (.tmp 41) (.slot 41), none, (some 7), false⟩])
                (.ops [⟨.copy 42 (.tmp 7), none, (some 42), false⟩,
                  ⟨.copy 43 (.tmp 3), none, (some 43), false⟩,
                  ⟨.copy 44 (.tmp 6), none, (some 44), false⟩,
                  ⟨.sli 45 3 (.tmp 43) (some (.tmp 44)) none none, none, (some 45), false⟩,
                  ⟨.app 46 3 8 true (.tmp 42) (.tmp 45) [(.slot 7), .none], none, (some 46), false⟩,
                  ⟨.take 3 (.tmp 46) (.slot 46), none, (some 3), false⟩]))))))
           (.ops [⟨.bin 47 .add (.tmp 16) (.const (.int .i64 1)), none, (some 47), false⟩,
             ⟨.copy 16 (.tmp 47), none, (some 16), false⟩])))))))
     (.seq (.ops [⟨.copy 48 (.tmp 3), none, (some 48), false⟩,
        ⟨.copy 2 (.tmp 48), none, (some 2), false⟩])
      (.ret [(.tmp 2)] [(.slot 3)]))))
theorem k88 (r85 : Rel) : compileFn (E88 r85) Try.f88 sg88 hs88 = some c88 := by kernel_rfl
/- loop.example/g01334/spec.neFits -/
noncomputable def l55 (r88 : Rel) : Deps := [(88, sg88, r88)]
noncomputable def E55 (r88 : Rel) : Env := mkE Try.prog [0, 1, 2, 3, 5, 6] [] (l55 r88) []
noncomputable def hs55 : HS := []
noncomputable def c55 : Cmd :=
  .seq (.ops [⟨.box 2 .own (.tmp 0) .none, none, (some 2), false⟩,
     ⟨.box 3 .own (.tmp 1) .none, none, (some 3), false⟩,
     ⟨.copy 4 (.const (.bool false)), none, (some 4), false⟩])
   (.seq (.ops [⟨.loadB 7 (.tmp 2) (some 3) true, none, (some 7), false⟩,
      ⟨.call (some 8) 88 sg88 [(.tmp 7)] [.none], none, (some 8), false⟩,
      ⟨.loadB 9 (.tmp 3) (some 3) true, none, (some 9), false⟩,
      ⟨.call (some 10) 88 sg88 [(.tmp 9)] [.none], none, (some 10), false⟩,
      ⟨.take 5 (.tmp 8) (.slot 8), none, (some 5), false⟩,
      ⟨.take 6 (.tmp 10) (.slot 10), none, (some 6), false⟩])
    (.seq (.ops [⟨.copy 11 (.tmp 5), none, (some 11), false⟩,
       ⟨.iadd 12 11 3 (.const (.int .i64 0)), none, (some 12), false⟩,
       ⟨.loadE 13 11 12 none true, none, (some 13), false⟩,
       ⟨.copy 14 (.tmp 6), none, (some 14), false⟩,
       ⟨.iadd 15 14 3 (.const (.int .i64 0)), none, (some 15), false⟩,
       ⟨.loadE 16 14 15 none true, none, (some 16), false⟩,
       ⟨.bin 17 .lss (.tmp 13) (.tmp 16), none, (some 17), false⟩,
       ⟨.copy 18 (.tmp 17), none, (some 18), false⟩,
       ⟨.copy 19 (.tmp 5), (some (18, true)), (some 19), false⟩,
       ⟨.iadd 20 19 3 (.const (.int .i64 1)), (some (18, true)), (some 20), false⟩,
       ⟨.loadE 21 19 20 none true, (some (18, true)), (some 21), true⟩,
       ⟨.copy 22 (.tmp 6), (some (18, true)), (some 22), false⟩,
       ⟨.iadd 23 22 3 (.const (.int .i64 1)), (some (18, true)), (some 23), false⟩,
       ⟨.loadE 24 22 23 none true, (some (18, true)), (some 24), true⟩,
       ⟨.bin 25 .lss (.tmp 21) (.tmp 24), (some (18, true)), (some 25), true⟩,
       ⟨.pick 26 (.tmp 18) (.tmp 25) (.const (.bool false)), none, (some 26), false⟩,
       ⟨.copy 27 (.tmp 26), none, (some 27), false⟩,
       ⟨.copy 28 (.tmp 5), (some (27, true)), (some 28), false⟩,
       ⟨.iadd 29 28 3 (.const (.int .i64 2)), (some (27, true)), (some 29), false⟩,
       ⟨.loadE 30 28 29 none true, (some (27, true)), (some 30), true⟩,
       ⟨.copy 31 (.tmp 6), (some (27, true)), (some 31), false⟩,
       ⟨.iadd 32 31 3 (.const (.int .i64 2)), (some (27, true)), (some 32), false⟩,
       ⟨.loadE 33 31 32 none true, (some (27, true)), (some 33), true⟩,
       ⟨.bin 34 .lss (.tmp 30) (.tmp 33), (some (27, true)), (some 34), true⟩,
       ⟨.pick 35 (.tmp 27) (.tmp 34) (.const (.bool false)), none, (some 35), false⟩,
       ⟨.copy 4 (.tmp 35), none, (some 4), false⟩])
     (.ret [(.tmp 4)] [.none])))
theorem k55 (r88 : Rel) : compileFn (E55 r88) Try.f55 sg55 hs55 = some c55 := by kernel_rfl
/- loop.example/g01334/spec.FitsTurned -/
noncomputable def l16 (r54 r55 : Rel) : Deps := [(54, sg54, r54), (55, sg55, r55)]
noncomputable def E16 (r54 r55 : Rel) : Env := mkE Try.prog [0, 1, 2, 3] [] (l16 r54 r55) []
noncomputable def hs16 : HS := []
noncomputable def c16 : Cmd :=
  .seq (.ops [⟨.box 2 .own (.tmp 0) .none, none, (some 2), false⟩,
     ⟨.box 3 .own (.tmp 1) .none, none, (some 3), false⟩,
     ⟨.copy 4 (.const (.bool false)), none, (some 4), false⟩,
     ⟨.copy 5 (.const (.bool false)), none, (some 5), false⟩])
   (.seq (.seq (.ops [⟨.loadB 6 (.tmp 2) (some 3) true, none, (some 6), false⟩,
       ⟨.call (some 7) 54 sg54 [(.tmp 6)] [.none], none, (some 7), false⟩,
       ⟨.un 8 .not (.tmp 7), none, (some 8), false⟩,
       ⟨.copy 9 (.tmp 8), none, (some 9), false⟩,
       ⟨.loadB 10 (.tmp 3) (some 3) true, (some (9, false)), (some 10), true⟩,
       ⟨.call (some 11) 54 sg54 [(.tmp 10)] [.none], (some (9, false)), (some 11), true⟩,
       ⟨.un 12 .not (.tmp 11), (some (9, false)), (some 12), true⟩,
       ⟨.pick 13 (.tmp 9) (.const (.bool true)) (.tmp 12), none, (some 13), false⟩])
     (.cond (.tmp 13)
      (.seq (.ops [⟨.copy 4 (.const (.bool false)), none, (some 4), false⟩,
         ⟨.copy 5 (.const (.bool false)), none, (some 5), false⟩])
       (.ret [(.tmp 4), (.tmp 5)] [.none, .none]))
      (.skip)))
    (.seq (.ops [⟨.loadB 14 (.tmp 2) (some 3) true, none, (some 14), false⟩,
       ⟨.loadB 15 (.tmp 3) (some 3) true, none, (some 15), false⟩,
       ⟨.call (some 16) 55 sg55 [(.tmp 14), (.tmp 15)] [.none, .none], none, (some 16), false⟩,
       ⟨.copy 4 (.tmp 16), none, (some 4), false⟩,
       ⟨.copy 5 (.const (.bool true)), none, (some 5), false⟩])
     (.ret [(.tmp 4), (.tmp 5)] [.none, .none])))
theorem k16 (r54 r55 : Rel) : compileFn (E16 r54 r55) Try.f16 sg16 hs16 = some c16 := by kernel_rfl
/- (loop.example/g01334/impl.Box).sides -/
noncomputable def l90 : Deps := []
noncomputable def E90 : Env := mkE Try.prog [0, 1] [] (l90) []
noncomputable def hs90 : HS := []
noncomputable def c90 : Cmd :=
  .seq (.ops [⟨.box 1 .own (.tmp 0) .none, none, (some 1), false⟩,
     ⟨.copy 2 (.const (.slice none 0 0)), none, (some 2), false⟩])
   (.seq (.ops [⟨.fadd 3 (.tmp 1) 0, none, (some 3), false⟩,
      ⟨.loadB 4 (.tmp 3) none true, none, (some 4), false⟩,
      ⟨.fadd 5 (.tmp 1) 1, none, (some 5), false⟩,
      ⟨.loadB 6 (.tmp 5) none true, none, (some 6), false⟩,
      ⟨.fadd 7 (.tmp 1) 2, none, (some 7), false⟩,
      ⟨.loadB 8 (.tmp 7) none true, none, (some 8), false⟩,
      ⟨.lit 9 3 1 [(.tmp 4), (.tmp 6), (.tmp 8)] [.none, .none, .none], none, (some 9), false⟩,
      ⟨.take 2 (.tmp 9) (.slot 9), none, (some 2), false⟩])
    (.ret [(.tmp 2)] [(.slot 2)]))
theorem k90 : compileFn (E90) Try.f90 sg90 hs90 = some c90 := by kernel_rfl
/- loop.example/g01334/impl.within -/
noncomputable def l83 : Deps := []
noncomputable def E83 : Env := mkE Try.prog [0, 1, 2, 3, 4, 5] [] (l83) []
noncomputable def hs83 : HS := []
noncomputable def c83 : Cmd :=
  .seq (.ops [⟨.copy 6 (.const (.bool false)), none, (some 6), false⟩])
   (.seq (.ops [⟨.copy 7 (.tmp 1), none, (some 7), false⟩,
      ⟨.copy 8 (.tmp 0), none, (some 8), false⟩,
      ⟨.bin 9 .leq (.tmp 7) (.tmp 8), none, (some 9), false⟩,
      ⟨.copy 10 (.tmp 9), none, (some 10), false⟩,
      ⟨.copy 11 (.tmp 0), (some (10, true)), (some 11), true⟩,
      ⟨.copy 12 (.tmp 2), (some (10, true)), (some 12), true⟩,
      ⟨.bin 13 .leq (.tmp 11) (.tmp 12), (some (10, true)), (some 13), true⟩,
      ⟨.pick 14 (.tmp 10) (.tmp 13) (.const (.bool false)), none, (some 14), false⟩,
      ⟨.copy 6 (.tmp 14), none, (some 6), false⟩])
    (.ret [(.tmp 6)] [.none]))
theorem k83 : compileFn (E83) Try.f83 sg83 hs83 = some c83 := by kernel_rfl
/- loop.example/g01334/impl.areWithin$1 -/
noncomputable def l100 (r83 : Rel) : Deps := [(83, sg83, r83)]
noncomputable def E100 (r83 : Rel) : Env := mkE Try.prog [0, 3] [] (l100 r83) []
noncomputable def hs100 : HS := []
noncomputable def c100 : Cmd :=
  .seq (.ops [⟨.copy 4 (.const (.bool false)), none, (some 4), false⟩])
   (.seq (.ops [⟨.copy 5 (.tmp 0), none, (some 5), false⟩,
      ⟨.loadB 6 (.tmp 1) none true, none, (some 6), false⟩,
      ⟨.loadB 7 (.tmp 2) none true, none, (some 7), false⟩,
      ⟨.call (some 8) 83 sg83 [(.tmp 5), (.tmp 6), (.tmp 7)] [.none, .none, .none], none, (some 8), false⟩,
      ⟨.un 9 .not (.tmp 8), none, (some 9), false⟩,
      ⟨.copy 4 (.tmp 9), none, (some 4), false⟩])
    (.ret [(.tmp 4)] [.none]))
theorem k100 (r83 : Rel) : compileFn (E100 r83) Try.f100 sg100 hs100 = some c100 := by kernel_rfl
/- slices.IndexFunc[[]int,int] -/
noncomputable def l97 (r100 : Rel) : Deps := [(100, sg100, r100)]
noncomputable def E97 (r100 : Rel) : Env := mkE Try.prog [0, 1, 2, 3, 5] [] (l97 r100) [(11, 100, 2)]
noncomputable def hs97 : HS := [[2, 3, 4, 5, 6, 9, 10, 11, 12, 13, 14, 15, 16, 17, 18]]
noncomputable def c97 : Cmd :=
  .seq (.ops [⟨.copy 4 (.const (.int .i64 0)), none, (some 4), false⟩])
   (.seq (.seq (.ops [⟨.copy 6 (.tmp 0), none, (some 6), false⟩,
       ⟨.len 7 false (.tmp 6), none, (some 7), false⟩,
       ⟨.copy 8 (.const (.int .i64 0)), none, (some 8), false⟩])
     (.block 0 (.loop [true, true, false, false, false, false, false, true, true, false, false, false, false, false, false, false, false, false, false]
       (.seq (.ops [⟨.bin 9 .lss (.tmp 8) (.tmp 7), none, (some 9), false⟩])
        (.seq (.cond (.tmp 9)
          (.skip)
          (.exit 0))
         (.seq (.block 1 (.seq (.ops [⟨.copy 10 (.tmp 8), none, (some 10), false⟩,
              ⟨.copy 5 (.tmp 10), none, (some 5), false⟩])
            (.seq (.ops [⟨.copy 11 (.tmp 1), none, (some 11), false⟩,
               ⟨.copy 12 (.tmp 0), none, (some 12), false⟩,
               ⟨.copy 13 (.tmp 5), none, (some 13), false⟩,
               ⟨.iadd 14 12 3 (.tmp 13), none, (some 14), false⟩,
               ⟨.loadE 15 12 14 none true, none, (some 15), false⟩,
               ⟨.callv (some 16) (.tmp 11) 100 2 sg100 [(.tmp 15)] [.none], none, (some 16), false⟩])
             (.cond (.tmp 16)
              (.seq (.ops [⟨.copy 17 (.tmp 5), none, (some 17), false⟩,
                 ⟨.copy 4 (.tmp 17), none, (some 4), false⟩])
               (.ret [(.tmp 4)] [.none]))
              (.skip)))))
          (.ops [⟨.bin 18 .add (.tmp 8) (.const (.int .i64 1)), none, (some 18), false⟩,
            ⟨.copy 8 (.tmp 18), none, (some 8), false⟩])))))))
    (.seq (.ops [⟨.copy 4 (.const (.int .i64 (-1))), none, (some 4), false⟩])
     (.ret [(.tmp 4)] [.none])))
theorem k97 (r100 : Rel) : compileFn (E97 r100) Try.f97 sg97 hs97 = some c97 := by kernel_rfl
/- slices.ContainsFunc[[]int,int] -/
noncomputable def l68 (r97 : Rel) : Deps := [(97, sg97, r97)]
noncomputable def E68 (r97 : Rel) : Env := mkE Try.prog [0, 1, 2, 3] [] (l68 r97) []
noncomputable def hs68 : HS := []
noncomputable def c68 : Cmd :=
  .seq (.ops [⟨.copy 4 (.const (.bool false)), none, (some 4), false⟩])
   (.seq (.ops [⟨.copy 5 (.tmp 0), none, (some 5), false⟩,
      ⟨.copy 6 (.tmp 1), none, (some 6), false⟩,
      ⟨.call (some 7) 97 sg97 [(.tmp 5), (.tmp 6)] [.none, .none], none, (some 7), false⟩,
      ⟨.bin 8 .geq (.tmp 7) (.const (.int .i64 0)), none, (some 8), false⟩,
      ⟨.copy 4 (.tmp 8), none, (some 4), false⟩])
    (.ret [(.tmp 4)] [.none]))
theorem k68 (r97 : Rel) : compileFn (E68 r97) Try.f68 sg68 hs68 = some c68 := by kernel_rfl
/- loop.example/g01334/impl.areWithin -/
noncomputable def l89 (r68 : Rel) : Deps := [(68, sg68, r68)]
noncomputable def E89 (r68 : Rel) : Env := mkE Try.prog [0, 1, 2, 3, 4, 5] [] (l89 r68) []
noncomputable def hs89 : HS := []
noncomputable def c89 : Cmd :=
  .seq (.ops [⟨.box 4 .own (.tmp 1) .none, none, (some 4), false⟩,
     ⟨.box 5 .own (.tmp 2) .none, none, (some 5), false⟩,
     ⟨.copy 6 (.const (.bool false)), none, (some 6), false⟩])
   (.seq (.ops [⟨.copy 7 (.tmp 0), none, (some 7), false⟩,
      ⟨.mkfn 8 100 [(.tmp 4), (.tmp 5)], none, (some 8), false⟩,
      ⟨.call (some 9) 68 sg68 [(.tmp 7), (.tmp 8)] [.none, .none], none, (some 9), false⟩,
      ⟨.un 10 .not (.tmp 9), none, (some 10), false⟩,
      ⟨.copy 6 (.tmp 10), none, (some 6), false⟩])
    (.ret [(.tmp 6)] [.none]))
theorem k89 (r68 : Rel) : compileFn (E89 r68) Try.f89 sg89 hs89 = some c89 := by kernel_rfl
/- loop.example/g01334/impl.isBox -/
noncomputable def l56 (r90 r89 : Rel) : Deps := [(90, sg90, r90), (89, sg89, r89)]
noncomputable def E56 (r90 r89 : Rel) : Env := mkE Try.prog [0, 1] [] (l56 r90 r89) []
noncomputable def hs56 : HS := []
noncomputable def c56 : Cmd :=
  .seq (.ops [⟨.box 1 .own (.tmp 0) .none, none, (some 1), false⟩,
     ⟨.copy 2 (.const (.bool false)), none, (some 2), false⟩])
   (.seq (.ops [⟨.loadB 3 (.tmp 1) (some 3) true, none, (some 3), false⟩,
      ⟨.call (some 4) 90 sg90 [(.tmp 3)] [.none], none, (some 4), false⟩,
      ⟨.call (some 5) 89 sg89 [(.tmp 4), (.const (.int .i64 1)), (.const (.int .i64 50))] [.none, .none, .none], none, (some 5), false⟩,
      ⟨.copy 2 (.tmp 5), none, (some 2), false⟩])
    (.ret [(.tmp 2)] [.none]))
theorem k56 (r90 r89 : Rel) : compileFn (E56 r90 r89) Try.f56 sg56 hs56 = some c56 := by kernel_rfl
/- loop.example/g01334/impl.FitsTurned -/
noncomputable def l18 (r56 r57 : Rel) : Deps := [(56, sg56, r56), (57, sg57, r57)]
noncomputable def E18 (r56 r57 : Rel) : Env := mkE Try.prog [0, 1, 2, 3] [] (l18 r56 r57) []
noncomputable def hs18 : HS := []
noncomputable def c18 : Cmd :=
  .seq (.ops [⟨.box 2 .own (.tmp 0) .none, none, (some 2), false⟩,
     ⟨.box 3 .own (.tmp 1) .none, none, (some 3), false⟩,
     ⟨.copy 4 (.const (.bool false)), none, (some 4), false⟩,
     ⟨.copy 5 (.const (.bool false)), none, (some 5), false⟩])
   (.seq (.seq (.ops [⟨.loadB 6 (.tmp 2) (some 3) true, none, (some 6), false⟩,
       ⟨.call (some 7) 56 sg56 [(.tmp 6)] [.none], none, (some 7), false⟩,
       ⟨.un 8 .not (.tmp 7), none, (some 8), false⟩,
       ⟨.copy 9 (.tmp 8), none, (some 9), false⟩,
       ⟨.loadB 10 (.tmp 3) (some 3) true, (some (9, false)), (some 10), true⟩,
       ⟨.call (some 11) 56 sg56 [(.tmp 10)] [.none], (some (9, false)), (some 11), true⟩,
       ⟨.un 12 .not (.tmp 11), (some (9, false)), (some 12), true⟩,
       ⟨.pick 13 (.tmp 9) (.const (.bool true)) (.tmp 12), none, (some 13), false⟩])
     (.cond (.tmp 13)
      (.seq (.ops [⟨.copy 4 (.const (.bool false)), none, (some 4), false⟩,
         ⟨.copy 5 (.const (.bool false)), none, (some 5), false⟩])
       (.ret [(.tmp 4), (.tmp 5)] [.none, .none]))
      (.skip)))
    (.seq (.ops [⟨.loadB 14 (.tmp 2) (some 3) true, none, (some 14), false⟩,
       ⟨.loadB 15 (.tmp 3) (some 3) true, none, (some 15), false⟩,
       ⟨.call (some 16) 57 sg57 [(.tmp 14), (.tmp 15)] [.none, .none], none, (some 16), false⟩,
       ⟨.copy 4 (.tmp 16), none, (some 4), false⟩,
       ⟨.copy 5 (.const (.bool true)), none, (some 5), false⟩])
     (.ret [(.tmp 4), (.tmp 5)] [.none, .none])))
theorem k18 (r56 r57 : Rel) : compileFn (E18 r56 r57) Try.f18 sg18 hs18 = some c18 := by kernel_rfl
/- loop.example/g01334/laws.FnExactFitsTurned -/
noncomputable def l3 (r17 r16 r18 : Rel) : Deps := [(17, sg17, r17), (16, sg16, r16), (18, sg18, r18)]
noncomputable def E3 (r17 r16 r18 : Rel) : Env := mkE Try.prog [0, 1, 2, 3, 5, 6, 7, 8] [] (l3 r17 r16 r18) []
noncomputable def hs3 : HS := []
noncomputable def c3 : Cmd :=
  .seq (.ops [⟨.box 2 .own (.tmp 0) .none, none, (some 2), false⟩,
     ⟨.box 3 .own (.tmp 1) .none, none, (some 3), false⟩,
     ⟨.copy 4 (.const (.bool false)), none, (some 4), false⟩])
   (.seq (.ops [⟨.loadB 10 (.tmp 2) (some 3) true, none, (some 10), false⟩,
      ⟨.call (some 11) 17 sg17 [(.tmp 10)] [.none], none, (some 11), false⟩,
      ⟨.loadB 12 (.tmp 3) (some 3) true, none, (some 12), false⟩,
      ⟨.call (some 13) 17 sg17 [(.tmp 12)] [.none], none, (some 13), false⟩,
      ⟨.call (some 14) 16 sg16 [(.tmp 11), (.tmp 13)] [.none, .none], none, (some 14), false⟩,
      ⟨.copy 9 (.tmp 14), none, (some 9), false⟩,
      ⟨.ext 15 9 0, none, (some 15), false⟩,
      ⟨.ext 16 9 1, none, (some 16), false⟩,
      ⟨.copy 5 (.tmp 15), none, (some 5), false⟩,
      ⟨.copy 6 (.tmp 16), none, (some 6), false⟩])
    (.seq (.ops [⟨.loadB 18 (.tmp 2) (some 3) true, none, (some 18), false⟩,
       ⟨.call (some 19) 17 sg17 [(.tmp 18)] [.none], none, (some 19), false⟩,
       ⟨.loadB 20 (.tmp 3) (some 3) true, none, (some 20), false⟩,
       ⟨.call (some 21) 17 sg17 [(.tmp 20)] [.none], none, (some 21), false⟩,
       ⟨.call (some 22) 18 sg18 [(.tmp 19), (.tmp 21)] [.none, .none], none, (some 22), false⟩,
       ⟨.copy 17 (.tmp 22), none, (some 17), false⟩,
       ⟨.ext 23 17 0, none, (some 23), false⟩,
       ⟨.ext 24 17 1, none, (some 24), false⟩,
       ⟨.copy 7 (.tmp 23), none, (some 7), false⟩,
       ⟨.copy 8 (.tmp 24), none, (some 8), false⟩])
     (.seq (.seq (.ops [⟨.copy 25 (.tmp 7), none, (some 25), false⟩,
         ⟨.copy 26 (.tmp 5), none, (some 26), false⟩,
         ⟨.beq 27 true (.tmp 25) (.tmp 26), none, (some 27), false⟩,
         ⟨.copy 28 (.tmp 27), none, (some 28), false⟩,
         ⟨.copy 29 (.tmp 8), (some (28, false)), (some 29), true⟩,
         ⟨.copy 30 (.tmp 6), (some (28, false)), (some 30), true⟩,
         ⟨.beq 31 true (.tmp 29) (.tmp 30), (some (28, false)), (some 31), true⟩,
         ⟨.pick 32 (.tmp 28) (.const (.bool true)) (.tmp 31), none, (some 32), false⟩])
       (.cond (.tmp 32)
        (.seq (.ops [⟨.copy 4 (.const (.bool false)), none, (some 4), false⟩])
         (.ret [(.tmp 4)] [.none]))
        (.skip)))
      (.seq (.ops [⟨.copy 4 (.const (.bool true)), none, (some 4), false⟩])
       (.ret [(.tmp 4)] [.none])))))
theorem k3 (r17 r16 r18 : Rel) : compileFn (E3 r17 r16 r18) Try.f3 sg3 hs3 = some c3 := by kernel_rfl
/- loop.example/g01334/impl.less -/
noncomputable def l91 : Deps := []
noncomputable def E91 : Env := mkE Try.prog [0, 1, 2, 3, 5] [] (l91) []
noncomputable def hs91 : HS := [[2, 3, 4, 5, 6, 9, 10, 11, 12, 13, 14, 15, 16, 17, 18, 19, 20]]
noncomputable def c91 : Cmd :=
  .seq (.ops [⟨.copy 4 (.const (.bool false)), none, (some 4), false⟩])
   (.seq (.seq (.ops [⟨.copy 6 (.tmp 0), none, (some 6), false⟩,
       ⟨.len 7 false (.tmp 6), none, (some 7), false⟩,
       ⟨.copy 8 (.const (.int .i64 0)), none, (some 8), false⟩])
     (.block 0 (.loop [true, true, false, false, false, false, false, true, true, false, false, false, false, false, false, false, false, false, false, false, false]
       (.seq (.ops [⟨.bin 9 .lss (.tmp 8) (.tmp 7), none, (some 9), false⟩])
        (.seq (.cond (.tmp 9)
          (.skip)
          (.exit 0))
         (.seq (.block 1 (.seq (.ops [⟨.copy 10 (.tmp 8), none, (some 10), false⟩,
              ⟨.copy 5 (.tmp 10), none, (some 5), false⟩])
            (.seq (.ops [⟨.copy 11 (.tmp 0), none, (some 11), false⟩,
               ⟨.copy 12 (.tmp 5), none, (some 12), false⟩,
               ⟨.iadd 13 11 3 (.tmp 12), none, (some 13), false⟩,
               ⟨.loadE 14 11 13 none true, none, (some 14), false⟩,
               ⟨.copy 15 (.tmp 1), none, (some 15), false⟩,
               ⟨.copy 16 (.tmp 5), none, (some 16), false⟩,
               ⟨.iadd 17 15 3 (.tmp 16), none, (some 17), false⟩,
               ⟨.loadE 18 15 17 none true, none, (some 18), false⟩,
               ⟨.bin 19 .geq (.tmp 14) (.tmp 18), none, (some 19), false⟩])
             (.cond (.tmp 19)
              (.seq (.ops [⟨.copy 4 (.const (.bool false)), none, (some 4), false⟩])
               (.ret [(.tmp 4)] [.none]))
              (.skip)))))
          (.ops [⟨.bin 20 .add (.tmp 8) (.const (.int .i64 1)), none, (some 20), false⟩,
            ⟨.copy 8 (.tmp 20), none, (some 8), false⟩])))))))
    (.seq (.ops [⟨.copy 4 (.const (.bool true)), none, (some 4), false⟩])
     (.ret [(.tmp 4)] [.none])))
theorem k91 : compileFn (E91) Try.f91 sg91 hs91 = some c91 := by kernel_rfl
end Go.Proofs.Ytnkjbncagnfnoaa
