/- The functions that the rows of nests reach, as commands, each checked by the kernel. Conditions: none. -/
import Derived.Test.YtnkjbncagnfnoaaDenC
import Derived.KernelRfl
import Derived.Test.YtnkjbncagnfnoaaProg
set_option linter.unusedVariables false
set_option linter.unusedSimpArgs false
set_option linter.unnecessarySimpa false
set_option autoImplicit false
set_option linter.unusedVariables false
set_option linter.unusedSimpArgs false
set_option linter.unnecessarySimpa false
namespace Go.Proofs.Ytnkjbncagnfnoaa
open Go.Den
abbrev sg3 : Sig := { ps := [.fl, .fl], rs := [.fl], pure := true }
abbrev sg4 : Sig := { ps := [.rd, .rd], rs := [.fl], pure := true }
abbrev sg7 : Sig := { ps := [.rd], rs := [.fl], pure := true }
abbrev sg10 : Sig := { ps := [.rd], rs := [.fl], pure := true }
abbrev sg11 : Sig := { ps := [.rd, .rd], rs := [.fl], pure := true }
abbrev sg12 : Sig := { ps := [.rd, .rd, .fl], rs := [.fl], pure := true }
abbrev sg13 : Sig := { ps := [.rd, .rd], rs := [.fl], pure := true }
abbrev sg14 : Sig := { ps := [.rd, .rd, .fl], rs := [.fl], pure := true }
abbrev sg16 : Sig := { ps := [.fl, .fl], rs := [.fl, .fl], pure := true }
abbrev sg17 : Sig := { ps := [.fl], rs := [.fl], pure := true }
abbrev sg18 : Sig := { ps := [.fl, .fl], rs := [.fl, .fl], pure := true }
abbrev sg19 : Sig := { ps := [.rd, .fl], rs := [.fl], pure := true }
abbrev sg20 : Sig := { ps := [.rd, .rd], rs := [.fl, .fl], pure := true }
abbrev sg21 : Sig := { ps := [.rd], rs := [.own], pure := true }
abbrev sg22 : Sig := { ps := [.rd], rs := [.own], pure := true }
abbrev sg23 : Sig := { ps := [.rd, .rd], rs := [.fl, .fl], pure := true }
abbrev sg24 : Sig := { ps := [.rd, .rd], rs := [.fl], pure := true }
abbrev sg25 : Sig := { ps := [.rd, .rd], rs := [.fl], pure := true }
abbrev sg28 : Sig := { ps := [.own, .fl], rs := [.fl], pure := true, mu := true }
abbrev sg29 : Sig := { ps := [.own, .fl], rs := [.fl], pure := true, mu := true }
abbrev sg30 : Sig := { ps := [.rd, .fl], rs := [.fl], pure := true }
abbrev sg33 : Sig := { ps := [.rd], rs := [.own, .fl], pure := true }
abbrev sg34 : Sig := { ps := [.rd], rs := [.own, .fl], pure := true }
abbrev sg35 : Sig := { ps := [.rd, .rd], rs := [.fl], pure := true }
abbrev sg36 : Sig := { ps := [.own, .fl], rs := [.fl], pure := true, mu := true }
abbrev sg37 : Sig := { ps := [.rd, .fl], rs := [.fl], pure := true }
abbrev sg42 : Sig := { ps := [.rd], rs := [.fl, .fl], pure := true }
abbrev sg43 : Sig := { ps := [.rd], rs := [.fl, .fl], pure := true }
abbrev sg44 : Sig := { ps := [.rd, .rd], rs := [.own, .fl], pure := true }
abbrev sg45 : Sig := { ps := [.rd, .rd], rs := [.own, .fl], pure := true }
abbrev sg46 : Sig := { ps := [.rd, .rd, .fl], rs := [.own, .fl], pure := true }
abbrev sg47 : Sig := { ps := [.rd, .rd, .fl], rs := [.own, .fl], pure := true }
abbrev sg48 : Sig := { ps := [.rd, .rd], rs := [.own, .fl], pure := true }
abbrev sg49 : Sig := { ps := [.rd, .rd], rs := [.own, .fl], pure := true }
abbrev sg50 : Sig := { ps := [.rd, .rd, .fl], rs := [.own, .fl], pure := true }
abbrev sg51 : Sig := { ps := [.rd, .rd, .fl], rs := [.own, .fl], pure := true }
abbrev sg54 : Sig := { ps := [.fl], rs := [.fl], pure := true }
abbrev sg55 : Sig := { ps := [.fl, .fl], rs := [.fl], pure := true }
abbrev sg56 : Sig := { ps := [.fl], rs := [.fl], pure := true }
abbrev sg57 : Sig := { ps := [.fl, .fl], rs := [.fl], pure := true }
abbrev sg58 : Sig := { ps := [.rd], rs := [.fl], pure := true }
abbrev sg59 : Sig := { ps := [.rd, .rd], rs := [.fl], pure := true }
abbrev sg60 : Sig := { ps := [.rd], rs := [.fl], pure := true }
abbrev sg61 : Sig := { ps := [.rd, .rd], rs := [.fl], pure := true }
abbrev sg62 : Sig := { ps := [.fl, .fl], rs := [.fl], pure := true }
abbrev sg65 : Sig := { ps := [.rd], rs := [.own], pure := true }
abbrev sg68 : Sig := { ps := [.rd, .fn], rs := [.fl], pure := true }
abbrev sg72 : Sig := { ps := [.rd], rs := [.own], pure := true }
abbrev sg73 : Sig := { ps := [.rd, .rd], rs := [.own], pure := true }
abbrev sg74 : Sig := { ps := [.fl], rs := [.fl], pure := true }
abbrev sg75 : Sig := { ps := [.rd, .fn], rs := [.own, .fl, .fl], pure := true }
abbrev sg76 : Sig := { ps := [.rd, .ptr .sh], rs := [.fl], pure := true }
abbrev sg77 : Sig := { ps := [.rd], rs := [.own], pure := true }
abbrev sg78 : Sig := { ps := [.fl], rs := [.fl], pure := true }
abbrev sg79 : Sig := { ps := [.rd, .rd], rs := [.fl], pure := true }
abbrev sg80 : Sig := { ps := [.rd, .rd], rs := [.fl], pure := true }
abbrev sg81 : Sig := { ps := [.fl, .fl, .fl], rs := [.fl], pure := true }
abbrev sg82 : Sig := { ps := [.rd, .fl], rs := [.fl], pure := true }
abbrev sg83 : Sig := { ps := [.fl, .fl, .fl], rs := [.fl], pure := true }
abbrev sg84 : Sig := { ps := [.rd, .fl], rs := [.fl], pure := true }
abbrev sg85 : Sig := { ps := [.rd], rs := [.own], pure := true }
abbrev sg86 : Sig := { ps := [.rd, .fl], rs := [.fl], pure := true }
abbrev sg87 : Sig := { ps := [.rd, .fl, .fl], rs := [.fl], pure := true }
abbrev sg88 : Sig := { ps := [.fl], rs := [.own], pure := true }
abbrev sg89 : Sig := { ps := [.rd, .fl, .fl], rs := [.fl], pure := true }
abbrev sg90 : Sig := { ps := [.fl], rs := [.own], pure := true }
abbrev sg91 : Sig := { ps := [.rd, .rd], rs := [.fl], pure := true }
abbrev sg94 : Sig := { ps := [.rd, .rd, .fl, .fl], rs := [.fl], pure := true }
abbrev sg95 : Sig := { ps := [.rd, .fn], rs := [.fl], pure := true }
abbrev sg96 : Sig := { ps := [.fl], rs := [.fl], pure := true }
abbrev sg97 : Sig := { ps := [.rd, .fn], rs := [.fl], pure := true }
abbrev sg99 : Sig := { ps := [.own, .ptr .sh, .ptr .fn, .ptr .own, .ptr .own, .ptr .own, .ptr .fn], rs := [], pure := false }
abbrev sg100 : Sig := { ps := [.fl, .ptr .sh, .ptr .sh], rs := [.fl], pure := true }
abbrev sg104 : Sig := { ps := [.rd, .fl], rs := [.fl], pure := true }
abbrev sg105 : Sig := { ps := [.rd, .fn], rs := [.fl], pure := true }
/- loop.example/g01334/laws.toBox -/
noncomputable def l17 : Deps := []
noncomputable def E17 : Env := mkE Try.prog [0, 1, 3] [] (l17) []
noncomputable def hs17 : HS := []
noncomputable def c17 : Cmd :=
  .seq (.ops [⟨.box 1 .own (.tmp 0) .none, none, (some 1), false⟩,
     ⟨.alloc 2 .own [(.int .i64 0), (.int .i64 0), (.int .i64 0)], none, (some 2), false⟩])
   (.seq (.ops [⟨.alloc 3 .own [(.int .i64 0), (.int .i64 0), (.int .i64 0)], none, (some 3), false⟩])
    (.seq (.ops [⟨.fadd 4 (.tmp 1) 0, none, (some 4), false⟩,
       ⟨.loadB 5 (.tmp 4) none true, none, (some 5), false⟩,
       ⟨.fadd 6 (.tmp 3) 0, none, (some 6), false⟩,
       ⟨.storeB (.tmp 6) (.tmp 5) none .none, none, none, false⟩])
     (.seq (.ops [⟨.fadd 7 (.tmp 1) 1, none, (some 7), false⟩,
        ⟨.loadB 8 (.tmp 7) none true, none, (some 8), false⟩,
        ⟨.fadd 9 (.tmp 3) 1, none, (some 9), false⟩,
        ⟨.storeB (.tmp 9) (.tmp 8) none .none, none, none, false⟩])
      (.seq (.ops [⟨.fadd 10 (.tmp 1) 2, none, (some 10), false⟩,
         ⟨.loadB 11 (.tmp 10) none true, none, (some 11), false⟩,
         ⟨.fadd 12 (.tmp 3) 2, none, (some 12), false⟩,
         ⟨.storeB (.tmp 12) (.tmp 11) none .none, none, none, false⟩])
       (.seq (.ops [⟨.loadB 13 (.tmp 3) (some 3) true, none, (some 13), false⟩,
          ⟨.storeB (.tmp 2) (.tmp 13) (some 3) .none, none, none, false⟩])
        (.ret [(.cell 2 (some 3) true)] [.none]))))))
theorem k17 : compileFn (E17) Try.f17 sg17 hs17 = some c17 := by kernel_rfl
/- loop.example/g01334/spec.l1In -/
noncomputable def l81 : Deps := []
noncomputable def E81 : Env := mkE Try.prog [0, 1, 2, 3, 4, 5] [] (l81) []
noncomputable def hs81 : HS := []
noncomputable def c81 : Cmd :=
  .seq (.ops [⟨.copy 6 (.const (.bool false)), none, (some 6), false⟩])
   (.seq (.ops [⟨.copy 7 (.tmp 0), none, (some 7), false⟩,
      ⟨.copy 8 (.tmp 1), none, (some 8), false⟩,
      ⟨.bin 9 .geq (.tmp 7) (.tmp 8), none, (some 9), false⟩,
      ⟨.copy 10 (.tmp 9), none, (some 10), false⟩,
      ⟨.copy 11 (.tmp 0), (some (10, true)), (some 11), true⟩,
      ⟨.copy 12 (.tmp 2), (some (10, true)), (some 12), true⟩,
      ⟨.bin 13 .leq (.tmp 11) (.tmp 12), (some (10, true)), (some 13), true⟩,
      ⟨.pick 14 (.tmp 10) (.tmp 13) (.const (.bool false)), none, (some 14), false⟩,
      ⟨.copy 6 (.tmp 14), none, (some 6), false⟩])
    (.ret [(.tmp 6)] [.none]))
theorem k81 : compileFn (E81) Try.f81 sg81 hs81 = some c81 := by kernel_rfl
/- loop.example/g01334/spec.l1All -/
noncomputable def l87 (r81 : Rel) : Deps := [(81, sg81, r81)]
noncomputable def E87 (r81 : Rel) : Env := mkE Try.prog [0, 1, 2, 3, 4, 5, 7, 8] [] (l87 r81) []
noncomputable def hs87 : HS := [[0, 3, 4, 5, 6, 7, 8, 12, 13, 14, 15, 16, 17, 18, 19, 20]]
noncomputable def c87 : Cmd :=
  .seq (.ops [⟨.copy 6 (.const (.bool false)), none, (some 6), false⟩])
   (.seq (.seq (.ops [⟨.copy 9 (.tmp 0), none, (some 9), false⟩,
       ⟨.len 10 false (.tmp 9), none, (some 10), false⟩,
       ⟨.copy 11 (.const (.int .i64 0)), none, (some 11), false⟩])
     (.block 0 (.loop [false, true, true, false, false, false, false, false, false, true, true, true, false, false, false, false, false, false, false, false, false]
       (.seq (.ops [⟨.bin 12 .lss (.tmp 11) (.tmp 10), none, (some 12), false⟩])
        (.seq (.cond (.tmp 12)
          (.skip)
          (.exit 0))
         (.seq (.block 1 (.seq (.ops [⟨.iadd 13 9 3 (.tmp 11), none, (some 13), false⟩,
              ⟨.loadE 14 9 13 none true, none, (some 14), false⟩,
              ⟨.copy 8 (.tmp 14), none, (some 8), false⟩])
            (.seq (.ops [⟨.copy 15 (.tmp 8), none, (some 15), false⟩,
               ⟨.copy 16 (.tmp 1), none, (some 16), false⟩,
               ⟨.copy 17 (.tmp 2), none, (some 17), false⟩,
               ⟨.call (some 18) 81 sg81 [(.tmp 15), (.tmp 16), (.tmp 17)] [.none, .none, .none], none, (some 18), false⟩,
               ⟨.un 19 .not (.tmp 18), none, (some 19), false⟩])
             (.cond (.tmp 19)
              (.seq (.ops [⟨.copy 6 (.const (.bool false)), none, (some 6), false⟩])
               (.ret [(.tmp 6)] [.none]))
              (.skip)))))
          (.ops [⟨.bin 20 .add (.tmp 11) (.const (.int .i64 1)), none, (some 20), false⟩,
            ⟨.copy 11 (.tmp 20), none, (some 11), false⟩])))))))
    (.seq (.ops [⟨.copy 6 (.const (.bool true)), none, (some 6), false⟩])
     (.ret [(.tmp 6)] [.none])))
theorem k87 (r81 : Rel) : compileFn (E87 r81) Try.f87 sg87 hs87 = some c87 := by kernel_rfl
/- loop.example/g01334/spec.neGood -/
noncomputable def l54 (r87 : Rel) : Deps := [(87, sg87, r87)]
noncomputable def E54 (r87 : Rel) : Env := mkE Try.prog [0, 1] [] (l54 r87) []
noncomputable def hs54 : HS := []
noncomputable def c54 : Cmd :=
  .seq (.ops [⟨.box 1 .own (.tmp 0) .none, none, (some 1), false⟩,
     ⟨.copy 2 (.const (.bool false)), none, (some 2), false⟩])
   (.seq (.ops [⟨.fadd 3 (.tmp 1) 0, none, (some 3), false⟩,
      ⟨.loadB 4 (.tmp 3) none true, none, (some 4), false⟩,
      ⟨.fadd 5 (.tmp 1) 1, none, (some 5), false⟩,
      ⟨.loadB 6 (.tmp 5) none true, none, (some 6), false⟩,
      ⟨.fadd 7 (.tmp 1) 2, none, (some 7), false⟩,
      ⟨.loadB 8 (.tmp 7) none true, none, (some 8), false⟩,
      ⟨.lit 9 3 1 [(.tmp 4), (.tmp 6), (.tmp 8)] [.none, .none, .none], none, (some 9), false⟩,
      ⟨.call (some 10) 87 sg87 [(.tmp 9), (.const (.int .i64 1)), (.const (.int .i64 50))] [.none, .none, .none], none, (some 10), false⟩,
      ⟨.copy 2 (.tmp 10), none, (some 2), false⟩])
    (.ret [(.tmp 2)] [.none]))
theorem k54 (r87 : Rel) : compileFn (E54 r87) Try.f54 sg54 hs54 = some c54 := by kernel_rfl
/- loop.example/g01334/spec.l1Own -/
noncomputable def l85 : Deps := []
noncomputable def E85 : Env := mkE Try.prog [0, 1] [] (l85) []
noncomputable def hs85 : HS := []
noncomputable def c85 : Cmd :=
  .seq (.ops [⟨.copy 2 (.const (.slice none 0 0)), none, (some 2), false⟩])
   (.seq (.ops [⟨.lit 3 3 1 [] [], none, (some 3), false⟩,
      ⟨.copy 4 (.tmp 0), none, (some 4), false⟩,
      ⟨.app 5 3 8 true (.tmp 3) (.tmp 4) [(.slot 3), .none], none, (some 5), false⟩,
      ⟨.take 2 (.tmp 5) (.slot 5), none, (some 2), false⟩])
    (.ret [(.tmp 2)] [(.slot 2)]))
theorem k85 : compileFn (E85) Try.f85 sg85 hs85 = some c85 := by kernel_rfl
/- loop.example/g01334/spec.neSides -/
noncomputable def l88 (r85 : Rel) : Deps := [(85, sg85, r85)]
noncomputable def E88 (r85 : Rel) : Env := mkE Try.prog [0, 1, 3, 4, 5, 6, 7] [] (l88 r85) []
noncomputable def hs88 : HS := [[0, 1, 2, 4, 5, 6, 7, 8, 9, 10, 11, 12, 13, 17, 18, 19, 20, 21, 22, 23, 24, 32, 33, 34, 35, 36, 37, 38, 39, 40, 41, 42, 43, 44, 45, 46, 47, 48], [0, 1, 2, 4, 7, 8, 9, 10, 11, 12, 13, 17, 18, 19, 20, 21, 22, 23, 24, 32, 33, 34, 35, 36, 37, 38, 39, 40, 41, 42, 43, 44, 45, 46, 47, 48]]
noncomputable def c88 : Cmd :=
  .seq (.ops [⟨.box 1 .own (.tmp 0) .none, none, (some 1), false⟩,
     ⟨.copy 2 (.const (.slice none 0 0)), none, (some 2), false⟩])
   (.seq (.ops [⟨.copy 3 (.const (.slice none 0 0)), none, (some 3), false⟩])
    (.seq (.seq (.ops [⟨.fadd 8 (.tmp 1) 0, none, (some 8), false⟩,
        ⟨.loadB 9 (.tmp 8) none true, none, (some 9), false⟩,
        ⟨.fadd 10 (.tmp 1) 1, none, (some 10), false⟩,
        ⟨.loadB 11 (.tmp 10) none true, none, (some 11), false⟩,
        ⟨.fadd 12 (.tmp 1) 2, none, (some 12), false⟩,
        ⟨.loadB 13 (.tmp 12) none true, none, (some 13), false⟩,
        ⟨.lit 14 3 1 [(.tmp 9), (.tmp 11), (.tmp 13)] [.none, .none, .none], none, (some 14), false⟩,
        ⟨.len 15 false (.tmp 14), none, (some 15), false⟩,
        ⟨.copy 16 (.const (.int .i64 0)), none, (some 16), false⟩])
      (.block 0 (.loop [false, false, false, true, false, false, false, false, false, false, false, false, false, false, true, true, true, false, false, false, false, false, false, false, false, false, false, false, false, false, false, false, false, false, false, false, false, false, false, false, false, false, false, false, false, false, false, false, false]
        (.seq (.ops [⟨.bin 17 .lss (.tmp 16) (.tmp 15), none, (some 17), false⟩])
         (.seq (.cond (.tmp 17)
           (.skip)
           (.exit 0))
          (.seq (.block 1 (.seq (.ops [⟨.iadd 18 14 3 (.tmp 16), none, (some 18), false⟩,
               ⟨.loadE 19 14 18 none true, none, (some 19), false⟩,
               ⟨.copy 5 (.tmp 19), none, (some 5), false⟩])
             (.seq (.ops [⟨.copy 20 (.tmp 3), none, (some 20), false⟩,
                ⟨.len 21 false (.tmp 20), none, (some 21), false⟩,
                ⟨.copy 6 (.tmp 21), none, (some 6), false⟩])
              (.seq (.block 2 (.loop [false, false, false, true, false, true, true, false, false, false, false, false, false, false, true, true, true, false, false, false, false, false, false, false, false, false, false, false, false, false, false, false, false, false, false, false, false, false, false, false, false, false, false, false, false, false, false, false, false]
                 (.seq (.seq (.ops [⟨.copy 22 (.tmp 6), none, (some 22), false⟩,
                     ⟨.bin 23 .gtr (.tmp 22) (.const (.int .i64 0)), none, (some 23), false⟩,
                     ⟨.copy 24 (.tmp 23), none, (some 24), false⟩,
                     ⟨.copy 25 (.tmp 3), (some (24, true)), (some 25), false⟩,
                     ⟨.copy 26 (.tmp 6), (some (24, true)), (some 26), true⟩,
                     ⟨.bin 27 .sub (.tmp 26) (.const (.int .i64 1)), (some (24, true)), (some 27), true⟩,
                     ⟨.iadd 28 25 3 (.tmp 27), (some (24, true)), (some 28), false⟩,
                     ⟨.loadE 29 25 28 none true, (some (24, true)), (some 29), true⟩,
                     ⟨.copy 30 (.tmp 5), (some (24, true)), (some 30), true⟩,
                     ⟨.bin 31 .gtr (.tmp 29) (.tmp 30), (some (24, true)), (some 31), true⟩,
                     ⟨.pick 32 (.tmp 24) (.tmp 31) (.const (.bool false)), none, (some 32), false⟩])
                   (.cond (.tmp 32)
                    (.skip)
                    (.exit 2)))
                  (.block 3 (.ops [⟨.copy 33 (.tmp 6), none, (some 33), false⟩,
                     ⟨.bin 34 .sub (.tmp 33) (.const (.int .i64 1)), none, (some 34), false⟩,
                     ⟨.copy 6 (.tmp 34), none, (some 6), false⟩])))))
               (.seq (.ops [⟨.copy 35 (.tmp 3), none, (some 35), false⟩,
                  ⟨.copy 36 (.tmp 6), none, (some 36), false⟩,
                  ⟨.sli 37 3 (.tmp 35) none (some (.tmp 36)) none, none, (some 37), false⟩,
                  ⟨.call (some 38) 85 sg85 [(.tmp 37)] [.none], none, (some 38), false⟩,
                  ⟨.copy 39 (.tmp 5), none, (some 39), false⟩,
                  ⟨.lit 40 3 1 [(.tmp 39)] [.none], none, (some 40), false⟩,
                  ⟨.app 41 3 8 true (.tmp 38) (.tmp 40) [(.slot 38), .none], none, (some 41), false⟩,
                  ⟨.take 7 (.tmp 41) (.slot 41), none, (some 7), false⟩])
                (.ops [⟨.copy 42 (.tmp 7), none, (some 42), false⟩,
                  ⟨.copy 43 (.tmp 3), none, (some 43), false⟩,
                  ⟨.copy 44 (.tmp 6), none, (some 44), false⟩,
                  ⟨.sli 45 3 (.tmp 43) (some (.tmp 44)) none none, none, (some 45), false⟩,
                  ⟨.app 46 3 8 true (.tmp 42) (.tmp 45) [(.slot 7), .none], none, (some 46), false⟩,
                  ⟨.take 3 (.tmp 46) (.slot 46), none, (some 3), false⟩]))))))
           (.ops [⟨.bin 47 .add (.tmp 16) (.const (.int .i64 1)), none, (some 47), false⟩,
             ⟨.copy 16 (.tmp 47), none, (some 16), false⟩])))))))
     (.seq (.ops [⟨.copy 48 (.tmp 3), none, (some 48), false⟩,
        ⟨.copy 2 (.tmp 48), none, (some 2), false⟩])
      (.ret [(.tmp 2)] [(.slot 3)]))))
theorem k88 (r85 : Rel) : compileFn (E88 r85) Try.f88 sg88 hs88 = some c88 := by kernel_rfl
/- loop.example/g01334/spec.neFits -/
noncomputable def l55 (r88 : Rel) : Deps := [(88, sg88, r88)]
noncomputable def E55 (r88 : Rel) : Env := mkE Try.prog [0, 1, 2, 3, 5, 6] [] (l55 r88) []
noncomputable def hs55 : HS := []
noncomputable def c55 : Cmd :=
  .seq (.ops [⟨.box 2 .own (.tmp 0) .none, none, (some 2), false⟩,
     ⟨.box 3 .own (.tmp 1) .none, none, (some 3), false⟩,
     ⟨.copy 4 (.const (.bool false)), none, (some 4), false⟩])
   (.seq (.ops [⟨.loadB 7 (.tmp 2) (some 3) true, none, (some 7), false⟩,
      ⟨.call (some 8) 88 sg88 [(.tmp 7)] [.none], none, (some 8), false⟩,
      ⟨.loadB 9 (.tmp 3) (some 3) true, none, (some 9), false⟩,
      ⟨.call (some 10) 88 sg88 [(.tmp 9)] [.none], none, (some 10), false⟩,
      ⟨.take 5 (.tmp 8) (.slot 8), none, (some 5), false⟩,
      ⟨.take 6 (.tmp 10) (.slot 10), none, (some 6), false⟩])
    (.seq (.ops [⟨.copy 11 (.tmp 5), none, (some 11), false⟩,
       ⟨.iadd 12 11 3 (.const (.int .i64 0)), none, (some 12), false⟩,
       ⟨.loadE 13 11 12 none true, none, (some 13), false⟩,
       ⟨.copy 14 (.tmp 6), none, (some 14), false⟩,
       ⟨.iadd 15 14 3 (.const (.int .i64 0)), none, (some 15), false⟩,
       ⟨.loadE 16 14 15 none true, none, (some 16), false⟩,
       ⟨.bin 17 .lss (.tmp 13) (.tmp 16), none, (some 17), false⟩,
       ⟨.copy 18 (.tmp 17), none, (some 18), false⟩,
       ⟨.copy 19 (.tmp 5), (some (18, true)), (some 19), false⟩,
       ⟨.iadd 20 19 3 (.const (.int .i64 1)), (some (18, true)), (some 20), false⟩,
       ⟨.loadE 21 19 20 none true, (some (18, true)), (some 21), true⟩,
       ⟨.copy 22 (.tmp 6), (some (18, true)), (some 22), false⟩,
       ⟨.iadd 23 22 3 (.const (.int .i64 1)), (some (18, true)), (some 23), false⟩,
       ⟨.loadE 24 22 23 none true, (some (18, true)), (some 24), true⟩,
       ⟨.bin 25 .lss (.tmp 21) (.tmp 24), (some (18, true)), (some 25), true⟩,
       ⟨.pick 26 (.tmp 18) (.tmp 25) (.const (.bool false)), none, (some 26), false⟩,
       ⟨.copy 27 (.tmp 26), none, (some 27), false⟩,
       ⟨.copy 28 (.tmp 5), (some (27, true)), (some 28), false⟩,
       ⟨.iadd 29 28 3 (.const (.int .i64 2)), (some (27, true)), (some 29), false⟩,
       ⟨.loadE 30 28 29 none true, (some (27, true)), (some 30), true⟩,
       ⟨.copy 31 (.tmp 6), (some (27, true)), (some 31), false⟩,
       ⟨.iadd 32 31 3 (.const (.int .i64 2)), (some (27, true)), (some 32), false⟩,
       ⟨.loadE 33 31 32 none true, (some (27, true)), (some 33), true⟩,
       ⟨.bin 34 .lss (.tmp 30) (.tmp 33), (some (27, true)), (some 34), true⟩,
       ⟨.pick 35 (.tmp 27) (.tmp 34) (.const (.bool false)), none, (some 35), false⟩,
       ⟨.copy 4 (.tmp 35), none, (some 4), false⟩])
     (.ret [(.tmp 4)] [.none])))
theorem k55 (r88 : Rel) : compileFn (E55 r88) Try.f55 sg55 hs55 = some c55 := by kernel_rfl
/- loop.example/g01334/spec.FitsTurned -/
noncomputable def l16 (r54 r55 : Rel) : Deps := [(54, sg54, r54), (55, sg55, r55)]
noncomputable def E16 (r54 r55 : Rel) : Env := mkE Try.prog [0, 1, 2, 3] [] (l16 r54 r55) []
noncomputable def hs16 : HS := []
noncomputable def c16 : Cmd :=
  .seq (.ops [⟨.box 2 .own (.tmp 0) .none, none, (some 2), false⟩,
     ⟨.box 3 .own (.tmp 1) .none, none, (some 3), false⟩,
     ⟨.copy 4 (.const (.bool false)), none, (some 4), false⟩,
     ⟨.copy 5 (.const (.bool false)), none, (some 5), false⟩])
   (.seq (.seq (.ops [⟨.loadB 6 (.tmp 2) (some 3) true, none, (some 6), false⟩,
       ⟨.call (some 7) 54 sg54 [(.tmp 6)] [.none], none, (some 7), false⟩,
       ⟨.un 8 .not (.tmp 7), none, (some 8), false⟩,
       ⟨.copy 9 (.tmp 8), none, (some 9), false⟩,
       ⟨.loadB 10 (.tmp 3) (some 3) true, (some (9, false)), (some 10), true⟩,
       ⟨.call (some 11) 54 sg54 [(.tmp 10)] [.none], (some (9, false)), (some 11), true⟩,
       ⟨.un 12 .not (.tmp 11), (some (9, false)), (some 12), true⟩,
       ⟨.pick 13 (.tmp 9) (.const (.bool true)) (.tmp 12), none, (some 13), false⟩])
     (.cond (.tmp 13)
      (.seq (.ops [⟨.copy 4 (.const (.bool false)), none, (some 4), false⟩,
         ⟨.copy 5 (.const (.bool false)), none, (some 5), false⟩])
       (.ret [(.tmp 4), (.tmp 5)] [.none, .none]))
      (.skip)))
    (.seq (.ops [⟨.loadB 14 (.tmp 2) (some 3) true, none, (some 14), false⟩,
       ⟨.loadB 15 (.tmp 3) (some 3) true, none, (some 15), false⟩,
       ⟨.call (some 16) 55 sg55 [(.tmp 14), (.tmp 15)] [.none, .none], none, (some 16), false⟩,
       ⟨.copy 4 (.tmp 16), none, (some 4), false⟩,
       ⟨.copy 5 (.const (.bool true)), none, (some 5), false⟩])
     (.ret [(.tmp 4), (.tmp 5)] [.none, .none])))
theorem k16 (r54 r55 : Rel) : compileFn (E16 r54 r55) Try.f16 sg16 hs16 = some c16 := by kernel_rfl
/- (loop.example/g01334/impl.Box).sides -/
noncomputable def l90 : Deps := []
noncomputable def E90 : Env := mkE Try.prog [0, 1] [] (l90) []
noncomputable def hs90 : HS := []
noncomputable def c90 : Cmd :=
  .seq (.ops [⟨.box 1 .own (.tmp 0) .none, none, (some 1), false⟩,
     ⟨.copy 2 (.const (.slice none 0 0)), none, (some 2), false⟩])
   (.seq (.ops [⟨.fadd 3 (.tmp 1) 0, none, (some 3), false⟩,
      ⟨.loadB 4 (.tmp 3) none true, none, (some 4), false⟩,
      ⟨.fadd 5 (.tmp 1) 1, none, (some 5), false⟩,
      ⟨.loadB 6 (.tmp 5) none true, none, (some 6), false⟩,
      ⟨.fadd 7 (.tmp 1) 2, none, (some 7), false⟩,
      ⟨.loadB 8 (.tmp 7) none true, none, (some 8), false⟩,
      ⟨.lit 9 3 1 [(.tmp 4), (.tmp 6), (.tmp 8)] [.none, .none, .none], none, (some 9), false⟩,
      ⟨.take 2 (.tmp 9) (.slot 9), none, (some 2), false⟩])
    (.ret [(.tmp 2)] [(.slot 2)]))
theorem k90 : compileFn (E90) Try.f90 sg90 hs90 = some c90 := by kernel_rfl
/- loop.example/g01334/impl.within -/
noncomputable def l83 : Deps := []
noncomputable def E83 : Env := mkE Try.prog [0, 1, 2, 3, 4, 5] [] (l83) []
noncomputable def hs83 : HS := []
noncomputable def c83 : Cmd :=
  .seq (.ops [⟨.copy 6 (.const (.bool false)), none, (some 6), false⟩])
   (.seq (.ops [⟨.copy 7 (.tmp 1), none, (some 7), false⟩,
      ⟨.copy 8 (.tmp 0), none, (some 8), false⟩,
      ⟨.bin 9 .leq (.tmp 7) (.tmp 8), none, (some 9), false⟩,
      ⟨.copy 10 (.tmp 9), none, (some 10), false⟩,
      ⟨.copy 11 (.tmp 0), (some (10, true)), (some 11), true⟩,
      ⟨.copy 12 (.tmp 2), (some (10, true)), (some 12), true⟩,
      ⟨.bin 13 .leq (.tmp 11) (.tmp 12), (some (10, true)), (some 13), true⟩,
      ⟨.pick 14 (.tmp 10) (.tmp 13) (.const (.bool false)), none, (some 14), false⟩,
      ⟨.copy 6 (.tmp 14), none, (some 6), false⟩])
    (.ret [(.tmp 6)] [.none]))
theorem k83 : compileFn (E83) Try.f83 sg83 hs83 = some c83 := by kernel_rfl
/- loop.example/g01334/impl.areWithin$1 -/
noncomputable def l100 (r83 : Rel) : Deps := [(83, sg83, r83)]
noncomputable def E100 (r83 : Rel) : Env := mkE Try.prog [0, 3] [] (l100 r83) []
noncomputable def hs100 : HS := []
noncomputable def c100 : Cmd :=
  .seq (.ops [⟨.copy 4 (.const (.bool false)), none, (some 4), false⟩])
   (.seq (.ops [⟨.copy 5 (.tmp 0), none, (some 5), false⟩,
      ⟨.loadB 6 (.tmp 1) none true, none, (some 6), false⟩,
      ⟨.loadB 7 (.tmp 2) none true, none, (some 7), false⟩,
      ⟨.call (some 8) 83 sg83 [(.tmp 5), (.tmp 6), (.tmp 7)] [.none, .none, .none], none, (some 8), false⟩,
      ⟨.un 9 .not (.tmp 8), none, (some 9), false⟩,
      ⟨.copy 4 (.tmp 9), none, (some 4), false⟩])
    (.ret [(.tmp 4)] [.none]))
theorem k100 (r83 : Rel) : compileFn (E100 r83) Try.f100 sg100 hs100 = some c100 := by kernel_rfl
/- slices.IndexFunc[[]int,int] -/
noncomputable def l97a (r100 : Rel) : Deps := [(100, sg100, r100)]
noncomputable def E97a (r100 : Rel) : Env := mkE Try.prog [0, 1, 2, 3, 5] [] (l97a r100) [(11, 100, 2)]
noncomputable def hs97a : HS := [[2, 3, 4, 5, 6, 9, 10, 11, 12, 13, 14, 15, 16, 17, 18]]
noncomputable def c97a : Cmd :=
  .seq (.ops [⟨.copy 4 (.const (.int .i64 0)), none, (some 4), false⟩])
   (.seq (.seq (.ops [⟨.copy 6 (.tmp 0), none, (some 6), false⟩,
       ⟨.len 7 false (.tmp 6), none, (some 7), false⟩,
       ⟨.copy 8 (.const (.int .i64 0)), none, (some 8), false⟩])
     (.block 0 (.loop [true, true, false, false, false, false, false, true, true, false, false, false, false, false, false, false, false, false, false]
       (.seq (.ops [⟨.bin 9 .lss (.tmp 8) (.tmp 7), none, (some 9), false⟩])
        (.seq (.cond (.tmp 9)
          (.skip)
          (.exit 0))
         (.seq (.block 1 (.seq (.ops [⟨.copy 10 (.tmp 8), none, (some 10), false⟩,
              ⟨.copy 5 (.tmp 10), none, (some 5), false⟩])
            (.seq (.ops [⟨.copy 11 (.tmp 1), none, (some 11), false⟩,
               ⟨.copy 12 (.tmp 0), none, (some 12), false⟩,
               ⟨.copy 13 (.tmp 5), none, (some 13), false⟩,
               ⟨.iadd 14 12 3 (.tmp 13), none, (some 14), false⟩,
               ⟨.loadE 15 12 14 none true, none, (some 15), false⟩,
               ⟨.callv (some 16) (.tmp 11) 100 2 sg100 [(.tmp 15)] [.none], none, (some 16), false⟩])
             (.cond (.tmp 16)
              (.seq (.ops [⟨.copy 17 (.tmp 5), none, (some 17), false⟩,
                 ⟨.copy 4 (.tmp 17), none, (some 4), false⟩])
               (.ret [(.tmp 4)] [.none]))
              (.skip)))))
          (.ops [⟨.bin 18 .add (.tmp 8) (.const (.int .i64 1)), none, (some 18), false⟩,
            ⟨.copy 8 (.tmp 18), none, (some 8), false⟩])))))))
    (.seq (.ops [⟨.copy 4 (.const (.int .i64 (-1))), none, (some 4), false⟩])
     (.ret [(.tmp 4)] [.none])))
theorem k97a (r100 : Rel) : compileFn (E97a r100) Try.f97 sg97 hs97a = some c97a := by kernel_rfl
/- slices.ContainsFunc[[]int,int] -/
noncomputable def l68a (r97 : Rel) : Deps := [(97, sg97, r97)]
noncomputable def E68a (r97 : Rel) : Env := mkE Try.prog [0, 1, 2, 3] [] (l68a r97) []
noncomputable def hs68a : HS := []
noncomputable def c68a : Cmd :=
  .seq (.ops [⟨.copy 4 (.const (.bool false)), none, (some 4), false⟩])
   (.seq (.ops [⟨.copy 5 (.tmp 0), none, (some 5), false⟩,
      ⟨.copy 6 (.tmp 1), none, (some 6), false⟩,
      ⟨.call (some 7) 97 sg97 [(.tmp 5), (.tmp 6)] [.none, .none], none, (some 7), false⟩,
      ⟨.bin 8 .geq (.tmp 7) (.const (.int .i64 0)), none, (some 8), false⟩,
      ⟨.copy 4 (.tmp 8), none, (some 4), false⟩])
    (.ret [(.tmp 4)] [.none]))
theorem k68a (r97 : Rel) : compileFn (E68a r97) Try.f68 sg68 hs68a = some c68a := by kernel_rfl
/- loop.example/g01334/impl.areWithin -/
noncomputable def l89 (r68 : Rel) : Deps := [(68, sg68, r68)]
noncomputable def E89 (r68 : Rel) : Env := mkE Try.prog [0, 1, 2, 3, 4, 5] [] (l89 r68) []
noncomputable def hs89 : HS := []
noncomputable def c89 : Cmd :=
  .seq (.ops [⟨.box 4 .own (.tmp 1) .none, none, (some 4), false⟩,
     ⟨.box 5 .own (.tmp 2) .none, none, (some 5), false⟩,
     ⟨.copy 6 (.const (.bool false)), none, (some 6), false⟩])
   (.seq (.ops [⟨.copy 7 (.tmp 0), none, (some 7), false⟩,
      ⟨.mkfn 8 100 [(.tmp 4), (.tmp 5)], none, (some 8), false⟩,
      ⟨.call (some 9) 68 sg68 [(.tmp 7), (.tmp 8)] [.none, .none], none, (some 9), false⟩,
      ⟨.un 10 .not (.tmp 9), none, (some 10), false⟩,
      ⟨.copy 6 (.tmp 10), none, (some 6), false⟩])
    (.ret [(.tmp 6)] [.none]))
theorem k89 (r68 : Rel) : compileFn (E89 r68) Try.f89 sg89 hs89 = some c89 := by kernel_rfl
/- loop.example/g01334/impl.isBox -/
noncomputable def l56 (r90 r89 : Rel) : Deps := [(90, sg90, r90), (89, sg89, r89)]
noncomputable def E56 (r90 r89 : Rel) : Env := mkE Try.prog [0, 1] [] (l56 r90 r89) []
noncomputable def hs56 : HS := []
noncomputable def c56 : Cmd :=
  .seq (.ops [⟨.box 1 .own (.tmp 0) .none, none, (some 1), false⟩,
     ⟨.copy 2 (.const (.bool false)), none, (some 2), false⟩])
   (.seq (.ops [⟨.loadB 3 (.tmp 1) (some 3) true, none, (some 3), false⟩,
      ⟨.call (some 4) 90 sg90 [(.tmp 3)] [.none], none, (some 4), false⟩,
      ⟨.call (some 5) 89 sg89 [(.tmp 4), (.const (.int .i64 1)), (.const (.int .i64 50))] [.none, .none, .none], none, (some 5), false⟩,
      ⟨.copy 2 (.tmp 5), none, (some 2), false⟩])
    (.ret [(.tmp 2)] [.none]))
theorem k56 (r90 r89 : Rel) : compileFn (E56 r90 r89) Try.f56 sg56 hs56 = some c56 := by kernel_rfl
/- loop.example/g01334/impl.FitsTurned -/
noncomputable def l18 (r56 r57 : Rel) : Deps := [(56, sg56, r56), (57, sg57, r57)]
noncomputable def E18 (r56 r57 : Rel) : Env := mkE Try.prog [0, 1, 2, 3] [] (l18 r56 r57) []
noncomputable def hs18 : HS := []
noncomputable def c18 : Cmd :=
  .seq (.ops [⟨.box 2 .own (.tmp 0) .none, none, (some 2), false⟩,
     ⟨.box 3 .own (.tmp 1) .none, none, (some 3), false⟩,
     ⟨.copy 4 (.const (.bool false)), none, (some 4), false⟩,
     ⟨.copy 5 (.const (.bool false)), none, (some 5), false⟩])
   (.seq (.seq (.ops [⟨.loadB 6 (.tmp 2) (some 3) true, none, (some 6), false⟩,
       ⟨.call (some 7) 56 sg56 [(.tmp 6)] [.none], none, (some 7), false⟩,
       ⟨.un 8 .not (.tmp 7), none, (some 8), false⟩,
       ⟨.copy 9 (.tmp 8), none, (some 9), false⟩,
       ⟨.loadB 10 (.tmp 3) (some 3) true, (some (9, false)), (some 10), true⟩,
       ⟨.call (some 11) 56 sg56 [(.tmp 10)] [.none], (some (9, false)), (some 11), true⟩,
       ⟨.un 12 .not (.tmp 11), (some (9, false)), (some 12), true⟩,
       ⟨.pick 13 (.tmp 9) (.const (.bool true)) (.tmp 12), none, (some 13), false⟩])
     (.cond (.tmp 13)
      (.seq (.ops [⟨.copy 4 (.const (.bool false)), none, (some 4), false⟩,
         ⟨.copy 5 (.const (.bool false)), none, (some 5), false⟩])
       (.ret [(.tmp 4), (.tmp 5)] [.none, .none]))
      (.skip)))
    (.seq (.ops [⟨.loadB 14 (.tmp 2) (some 3) true, none, (some 14), false⟩,
       ⟨.loadB 15 (.tmp 3) (some 3) true, none, (some 15), false⟩,
       ⟨.call (some 16) 57 sg57 [(.tmp 14), (.tmp 15)] [.none, .none], none, (some 16), false⟩,
       ⟨.copy 4 (.tmp 16), none, (some 4), false⟩,
       ⟨.copy 5 (.const (.bool true)), none, (some 5), false⟩])
     (.ret [(.tmp 4), (.tmp 5)] [.none, .none])))
theorem k18 (r56 r57 : Rel) : compileFn (E18 r56 r57) Try.f18 sg18 hs18 = some c18 := by kernel_rfl
/- loop.example/g01334/laws.FnExactFitsTurned -/
noncomputable def l3 (r17 r16 r18 : Rel) : Deps := [(17, sg17, r17), (16, sg16, r16), (18, sg18, r18)]
noncomputable def E3 (r17 r16 r18 : Rel) : Env := mkE Try.prog [0, 1, 2, 3, 5, 6, 7, 8] [] (l3 r17 r16 r18) []
noncomputable def hs3 : HS := []
noncomputable def c3 : Cmd :=
  .seq (.ops [⟨.box 2 .own (.tmp 0) .none, none, (some 2), false⟩,
     ⟨.box 3 .own (.tmp 1) .none, none, (some 3), false⟩,
     ⟨.copy 4 (.const (.bool false)), none, (some 4), false⟩])
   (.seq (.ops [⟨.loadB 10 (.tmp 2) (some 3) true, none, (some 10), false⟩,
      ⟨.call (some 11) 17 sg17 [(.tmp 10)] [.none], none, (some 11), false⟩,
      ⟨.loadB 12 (.tmp 3) (some 3) true, none, (some 12), false⟩,
      ⟨.call (some 13) 17 sg17 [(.tmp 12)] [.none], none, (some 13), false⟩,
      ⟨.call (some 14) 16 sg16 [(.tmp 11), (.tmp 13)] [.none, .none], none, (some 14), false⟩,
      ⟨.copy 9 (.tmp 14), none, (some 9), false⟩,
      ⟨.ext 15 9 0, none, (some 15), false⟩,
      ⟨.ext 16 9 1, none, (some 16), false⟩,
      ⟨.copy 5 (.tmp 15), none, (some 5), false⟩,
      ⟨.copy 6 (.tmp 16), none, (some 6), false⟩])
    (.seq (.ops [⟨.loadB 18 (.tmp 2) (some 3) true, none, (some 18), false⟩,
       ⟨.call (some 19) 17 sg17 [(.tmp 18)] [.none], none, (some 19), false⟩,
       ⟨.loadB 20 (.tmp 3) (some 3) true, none, (some 20), false⟩,
       ⟨.call (some 21) 17 sg17 [(.tmp 20)] [.none], none, (some 21), false⟩,
       ⟨.call (some 22) 18 sg18 [(.tmp 19), (.tmp 21)] [.none, .none], none, (some 22), false⟩,
       ⟨.copy 17 (.tmp 22), none, (some 17), false⟩,
       ⟨.ext 23 17 0, none, (some 23), false⟩,
       ⟨.ext 24 17 1, none, (some 24), false⟩,
       ⟨.copy 7 (.tmp 23), none, (some 7), false⟩,
       ⟨.copy 8 (.tmp 24), none, (some 8), false⟩])
     (.seq (.seq (.ops [⟨.copy 25 (.tmp 7), none, (some 25), false⟩,
         ⟨.copy 26 (.tmp 5), none, (some 26), false⟩,
         ⟨.beq 27 true (.tmp 25) (.tmp 26), none, (some 27), false⟩,
         ⟨.copy 28 (.tmp 27), none, (some 28), false⟩,
         ⟨.copy 29 (.tmp 8), (some (28, false)), (some 29), true⟩,
         ⟨.copy 30 (.tmp 6), (some (28, false)), (some 30), true⟩,
         ⟨.beq 31 true (.tmp 29) (.tmp 30), (some (28, false)), (some 31), true⟩,
         ⟨.pick 32 (.tmp 28) (.const (.bool true)) (.tmp 31), none, (some 32), false⟩])
       (.cond (.tmp 32)
        (.seq (.ops [⟨.copy 4 (.const (.bool false)), none, (some 4), false⟩])
         (.ret [(.tmp 4)] [.none]))
        (.skip)))
      (.seq (.ops [⟨.copy 4 (.const (.bool true)), none, (some 4), false⟩])
       (.ret [(.tmp 4)] [.none])))))
theorem k3 (r17 r16 r18 : Rel) : compileFn (E3 r17 r16 r18) Try.f3 sg3 hs3 = some c3 := by kernel_rfl
/- loop.example/g01334/impl.less -/
noncomputable def l91 : Deps := []
noncomputable def E91 : Env := mkE Try.prog [0, 1, 2, 3, 5] [] (l91) []
noncomputable def hs91 : HS := [[2, 3, 4, 5, 6, 9, 10, 11, 12, 13, 14, 15, 16, 17, 18, 19, 20]]
noncomputable def c91 : Cmd :=
  .seq (.ops [⟨.copy 4 (.const (.bool false)), none, (some 4), false⟩])
   (.seq (.seq (.ops [⟨.copy 6 (.tmp 0), none, (some 6), false⟩,
       ⟨.len 7 false (.tmp 6), none, (some 7), false⟩,
       ⟨.copy 8 (.const (.int .i64 0)), none, (some 8), false⟩])
     (.block 0 (.loop [true, true, false, false, false, false, false, true, true, false, false, false, false, false, false, false, false, false, false, false, false]
       (.seq (.ops [⟨.bin 9 .lss (.tmp 8) (.tmp 7), none, (some 9), false⟩])
        (.seq (.cond (.tmp 9)
          (.skip)
          (.exit 0))
         (.seq (.block 1 (.seq (.ops [⟨.copy 10 (.tmp 8), none, (some 10), false⟩,
              ⟨.copy 5 (.tmp 10), none, (some 5), false⟩])
            (.seq (.ops [⟨.copy 11 (.tmp 0), none, (some 11), false⟩,
               ⟨.copy 12 (.tmp 5), none, (some 12), false⟩,
               ⟨.iadd 13 11 3 (.tmp 12), none, (some 13), false⟩,
               ⟨.loadE 14 11 13 none true, none, (some 14), false⟩,
               ⟨.copy 15 (.tmp 1), none, (some 15), false⟩,
               ⟨.copy 16 (.tmp 5), none, (some 16), false⟩,
               ⟨.iadd 17 15 3 (.tmp 16), none, (some 17), false⟩,
               ⟨.loadE 18 15 17 none true, none, (some 18), false⟩,
               ⟨.bin 19 .geq (.tmp 14) (.tmp 18), none, (some 19), false⟩])
             (.cond (.tmp 19)
              (.seq (.ops [⟨.copy 4 (.const (.bool false)), none, (some 4), false⟩])
               (.ret [(.tmp 4)] [.none]))
              (.skip)))))
          (.ops [⟨.bin 20 .add (.tmp 8) (.const (.int .i64 1)), none, (some 20), false⟩,
            ⟨.copy 8 (.tmp 20), none, (some 8), false⟩])))))))
    (.seq (.ops [⟨.copy 4 (.const (.bool true)), none, (some 4), false⟩])
     (.ret [(.tmp 4)] [.none])))
theorem k91 : compileFn (E91) Try.f91 sg91 hs91 = some c91 := by kernel_rfl
/- loop.example/g01334/laws.szBoxS -/
noncomputable def l19 : Deps := []
noncomputable def E19 : Env := mkE Try.prog [0, 1, 2, 3] [] (l19) []
noncomputable def hs19 : HS := []
noncomputable def c19 : Cmd :=
  .seq (.ops [⟨.copy 4 (.const (.int .i64 0)), none, (some 4), false⟩])
   (.seq (.ops [⟨.copy 5 (.tmp 1), none, (some 5), false⟩,
      ⟨.copy 6 (.tmp 0), none, (some 6), false⟩,
      ⟨.len 7 false (.tmp 6), none, (some 7), false⟩,
      ⟨.bin 8 .sub (.tmp 5) (.tmp 7), none, (some 8), false⟩,
      ⟨.copy 1 (.tmp 8), none, (some 1), false⟩])
    (.seq (.seq (.ops [⟨.copy 9 (.tmp 1), none, (some 9), false⟩,
        ⟨.bin 10 .lss (.tmp 9) (.const (.int .i64 0)), none, (some 10), false⟩])
      (.cond (.tmp 10)
       (.seq (.ops [⟨.copy 4 (.const (.int .i64 (-1))), none, (some 4), false⟩])
        (.ret [(.tmp 4)] [.none]))
       (.skip)))
     (.seq (.ops [⟨.copy 11 (.tmp 1), none, (some 11), false⟩,
        ⟨.copy 4 (.tmp 11), none, (some 4), false⟩])
      (.ret [(.tmp 4)] [.none]))))
theorem k19 : compileFn (E19) Try.f19 sg19 hs19 = some c19 := by kernel_rfl
/- loop.example/g01334/laws.toBoxS -/
noncomputable def l21 (r17 : Rel) : Deps := [(17, sg17, r17)]
noncomputable def E21 (r17 : Rel) : Env := mkE Try.prog [0, 1, 3, 4] [] (l21 r17) []
noncomputable def hs21 : HS := [[1, 2, 5, 6, 7, 8, 9, 10, 11, 12, 13, 14, 15, 16, 17, 18, 19, 20, 21, 22]]
noncomputable def c21 : Cmd :=
  .seq (.ops [⟨.copy 2 (.const (.slice none 0 0)), none, (some 2), false⟩])
   (.seq (.ops [⟨.copy 5 (.tmp 0), none, (some 5), false⟩,
      ⟨.len 6 false (.tmp 5), none, (some 6), false⟩,
      ⟨.mks 7 26 24 (.agg [(.int .i64 0), (.int .i64 0), (.int .i64 0)]) (.tmp 6) (.tmp 6), none, (some 7), false⟩,
      ⟨.take 3 (.tmp 7) (.slot 7), none, (some 3), false⟩])
    (.seq (.seq (.ops [⟨.copy 4 (.const (.int .i64 0)), none, (some 4), false⟩])
      (.block 0 (.loop [true, false, false, true, true, false, false, false, false, false, false, false, false, false, false, false, false, false, false, false, false, false, false]
        (.seq (.seq (.ops [⟨.copy 8 (.tmp 4), none, (some 8), false⟩,
            ⟨.copy 9 (.tmp 0), none, (some 9), false⟩,
            ⟨.len 10 false (.tmp 9), none, (some 10), false⟩,
            ⟨.bin 11 .lss (.tmp 8) (.tmp 10), none, (some 11), false⟩])
          (.cond (.tmp 11)
           (.skip)
           (.exit 0)))
         (.seq (.block 1 (.ops [⟨.copy 14 (.tmp 3), none, (some 14), false⟩,
             ⟨.copy 15 (.tmp 4), none, (some 15), false⟩,
             ⟨.copy 16 (.tmp 0), none, (some 16), false⟩,
             ⟨.copy 17 (.tmp 4), none, (some 17), false⟩,
             ⟨.iadd 18 16 23 (.tmp 17), none, (some 18), false⟩,
             ⟨.loadE 19 16 18 (some 3) true, none, (some 19), false⟩,
             ⟨.call (some 20) 17 sg17 [(.tmp 19)] [.none], none, (some 20), false⟩,
             ⟨.iadd 21 14 26 (.tmp 15), none, (some 21), false⟩,
             ⟨.storeE 3 21 (some 3) (.tmp 20), none, none, false⟩]))
          (.ops [⟨.copy 12 (.tmp 4), none, (some 12), false⟩,
            ⟨.bin 13 .add (.tmp 12) (.const (.int .i64 1)), none, (some 13), false⟩,
            ⟨.copy 4 (.tmp 13), none, (some 4), false⟩]))))))
     (.seq (.ops [⟨.copy 22 (.tmp 3), none, (some 22), false⟩,
        ⟨.copy 2 (.tmp 22), none, (some 2), false⟩])
      (.ret [(.tmp 2)] [(.slot 3)]))))
theorem k21 (r17 : Rel) : compileFn (E21 r17) Try.f21 sg21 hs21 = some c21 := by kernel_rfl
/- loop.example/g01334/laws.toIntS -/
noncomputable def l22 : Deps := []
noncomputable def E22 : Env := mkE Try.prog [0, 1, 3, 4] [] (l22) []
noncomputable def hs22 : HS := [[1, 2, 5, 6, 7, 8, 9, 10, 11, 12, 13, 14, 15, 16, 17, 18, 19, 20, 21]]
noncomputable def c22 : Cmd :=
  .seq (.ops [⟨.copy 2 (.const (.slice none 0 0)), none, (some 2), false⟩])
   (.seq (.ops [⟨.copy 5 (.tmp 0), none, (some 5), false⟩,
      ⟨.len 6 false (.tmp 5), none, (some 6), false⟩,
      ⟨.mks 7 3 8 (.int .i64 0) (.tmp 6) (.tmp 6), none, (some 7), false⟩,
      ⟨.take 3 (.tmp 7) (.slot 7), none, (some 3), false⟩])
    (.seq (.seq (.ops [⟨.copy 4 (.const (.int .i64 0)), none, (some 4), false⟩])
      (.block 0 (.loop [true, false, false, true, true, false, false, false, false, false, false, false, false, false, false, false, false, false, false, false, false, false]
        (.seq (.seq (.ops [⟨.copy 8 (.tmp 4), none, (some 8), false⟩,
            ⟨.copy 9 (.tmp 0), none, (some 9), false⟩,
            ⟨.len 10 false (.tmp 9), none, (some 10), false⟩,
            ⟨.bin 11 .lss (.tmp 8) (.tmp 10), none, (some 11), false⟩])
          (.cond (.tmp 11)
           (.skip)
           (.exit 0)))
         (.seq (.block 1 (.ops [⟨.copy 14 (.tmp 3), none, (some 14), false⟩,
             ⟨.copy 15 (.tmp 4), none, (some 15), false⟩,
             ⟨.copy 16 (.tmp 0), none, (some 16), false⟩,
             ⟨.copy 17 (.tmp 4), none, (some 17), false⟩,
             ⟨.iadd 18 16 3 (.tmp 17), none, (some 18), false⟩,
             ⟨.loadE 19 16 18 none true, none, (some 19), false⟩,
             ⟨.iadd 20 14 3 (.tmp 15), none, (some 20), false⟩,
             ⟨.storeE 3 20 none (.tmp 19), none, none, false⟩]))
          (.ops [⟨.copy 12 (.tmp 4), none, (some 12), false⟩,
            ⟨.bin 13 .add (.tmp 12) (.const (.int .i64 1)), none, (some 13), false⟩,
            ⟨.copy 4 (.tmp 13), none, (some 4), false⟩]))))))
     (.seq (.ops [⟨.copy 21 (.tmp 3), none, (some 21), false⟩,
        ⟨.copy 2 (.tmp 21), none, (some 2), false⟩])
      (.ret [(.tmp 2)] [(.slot 3)]))))
theorem k22 : compileFn (E22) Try.f22 sg22 hs22 = some c22 := by kernel_rfl
/- loop.example/g01334/spec.neAll -/
noncomputable def l58 (r81 r54 : Rel) : Deps := [(81, sg81, r81), (54, sg54, r54)]
noncomputable def E58 (r81 r54 : Rel) : Env := mkE Try.prog [0, 1, 3, 4] [] (l58 r81 r54) []
noncomputable def hs58 : HS := [[0, 1, 2, 3, 4, 5, 6, 7, 8, 12, 13, 14, 15, 16, 17, 18]]
noncomputable def c58 : Cmd :=
  .seq (.ops [⟨.copy 2 (.const (.bool false)), none, (some 2), false⟩])
   (.seq (.seq (.ops [⟨.copy 5 (.tmp 0), none, (some 5), false⟩,
       ⟨.len 6 false (.tmp 5), none, (some 6), false⟩,
       ⟨.call (some 7) 81 sg81 [(.tmp 6), (.const (.int .i64 1)), (.const (.int .i64 7))] [.none, .none, .none], none, (some 7), false⟩,
       ⟨.un 8 .not (.tmp 7), none, (some 8), false⟩])
     (.cond (.tmp 8)
      (.seq (.ops [⟨.copy 2 (.const (.bool false)), none, (some 2), false⟩])
       (.ret [(.tmp 2)] [.none]))
      (.skip)))
    (.seq (.seq (.ops [⟨.copy 9 (.tmp 0), none, (some 9), false⟩,
        ⟨.len 10 false (.tmp 9), none, (some 10), false⟩,
        ⟨.copy 11 (.const (.int .i64 0)), none, (some 11), false⟩])
      (.block 0 (.loop [false, false, false, false, false, false, false, false, false, true, true, true, false, false, false, false, false, false, false]
        (.seq (.ops [⟨.bin 12 .lss (.tmp 11) (.tmp 10), none, (some 12), false⟩])
         (.seq (.cond (.tmp 12)
           (.skip)
           (.exit 0))
          (.seq (.block 1 (.seq (.ops [⟨.iadd 13 9 26 (.tmp 11), none, (some 13), false⟩,
               ⟨.loadE 14 9 13 (some 3) true, none, (some 14), false⟩,
               ⟨.alloc 4 .own [(.int .i64 0), (.int .i64 0), (.int .i64 0)], none, (some 4), false⟩,
               ⟨.storeB (.tmp 4) (.tmp 14) (some 3) .none, none, none, false⟩])
             (.seq (.ops [⟨.loadB 15 (.tmp 4) (some 3) true, none, (some 15), false⟩,
                ⟨.call (some 16) 54 sg54 [(.tmp 15)] [.none], none, (some 16), false⟩,
                ⟨.un 17 .not (.tmp 16), none, (some 17), false⟩])
              (.cond (.tmp 17)
               (.seq (.ops [⟨.copy 2 (.const (.bool false)), none, (some 2), false⟩])
                (.ret [(.tmp 2)] [.none]))
               (.skip)))))
           (.ops [⟨.bin 18 .add (.tmp 11) (.const (.int .i64 1)), none, (some 18), false⟩,
             ⟨.copy 11 (.tmp 18), none, (some 11), false⟩])))))))
     (.seq (.ops [⟨.copy 2 (.const (.bool true)), none, (some 2), false⟩])
      (.ret [(.tmp 2)] [.none]))))
theorem k58 (r81 r54 : Rel) : compileFn (E58 r81 r54) Try.f58 sg58 hs58 = some c58 := by kernel_rfl
/- loop.example/g01334/spec.l1Has -/
noncomputable def l104 : Deps := []
noncomputable def E104 : Env := mkE Try.prog [0, 1, 2, 3, 5, 6] [] (l104) []
noncomputable def hs104 : HS := [[0, 2, 3, 4, 5, 6, 10, 11, 12, 13, 14, 15, 16]]
noncomputable def c104 : Cmd :=
  .seq (.ops [⟨.copy 4 (.const (.bool false)), none, (some 4), false⟩])
   (.seq (.seq (.ops [⟨.copy 7 (.tmp 0), none, (some 7), false⟩,
       ⟨.len 8 false (.tmp 7), none, (some 8), false⟩,
       ⟨.copy 9 (.const (.int .i64 0)), none, (some 9), false⟩])
     (.block 0 (.loop [false, true, false, false, false, false, false, true, true, true, false, false, false, false, false, false, false]
       (.seq (.ops [⟨.bin 10 .lss (.tmp 9) (.tmp 8), none, (some 10), false⟩])
        (.seq (.cond (.tmp 10)
          (.skip)
          (.exit 0))
         (.seq (.block 1 (.seq (.ops [⟨.iadd 11 7 3 (.tmp 9), none, (some 11), false⟩,
              ⟨.loadE 12 7 11 none true, none, (some 12), false⟩,
              ⟨.copy 6 (.tmp 12), none, (some 6), false⟩])
            (.seq (.ops [⟨.copy 13 (.tmp 6), none, (some 13), false⟩,
               ⟨.copy 14 (.tmp 1), none, (some 14), false⟩,
               ⟨.bin 15 .eql (.tmp 13) (.tmp 14), none, (some 15), false⟩])
             (.cond (.tmp 15)
              (.seq (.ops [⟨.copy 4 (.const (.bool true)), none, (some 4), false⟩])
               (.ret [(.tmp 4)] [.none]))
              (.skip)))))
          (.ops [⟨.bin 16 .add (.tmp 9) (.const (.int .i64 1)), none, (some 16), false⟩,
            ⟨.copy 9 (.tmp 16), none, (some 9), false⟩])))))))
    (.seq (.ops [⟨.copy 4 (.const (.bool false)), none, (some 4), false⟩])
     (.ret [(.tmp 4)] [.none])))
theorem k104 : compileFn (E104) Try.f104 sg104 hs104 = some c104 := by kernel_rfl
/- loop.example/g01334/spec.neFree -/
noncomputable def l94 (r55 r104 : Rel) : Deps := [(55, sg55, r55), (104, sg104, r104)]
noncomputable def E94 (r55 r104 : Rel) : Env := mkE Try.prog [0, 1, 2, 3, 4, 5, 6, 7] [] (l94 r55 r104) []
noncomputable def hs94 : HS := []
noncomputable def c94 : Cmd :=
  .seq (.ops [⟨.copy 8 (.const (.bool false)), none, (some 8), false⟩])
   (.seq (.ops [⟨.copy 9 (.tmp 3), none, (some 9), false⟩,
      ⟨.bin 10 .lss (.tmp 9) (.const (.int .i64 0)), none, (some 10), false⟩,
      ⟨.copy 11 (.tmp 10), none, (some 11), false⟩,
      ⟨.copy 12 (.tmp 0), (some (11, false)), (some 12), false⟩,
      ⟨.copy 13 (.tmp 2), (some (11, false)), (some 13), true⟩,
      ⟨.iadd 14 12 26 (.tmp 13), (some (11, false)), (some 14), false⟩,
      ⟨.loadE 15 12 14 (some 3) true, (some (11, false)), (some 15), true⟩,
      ⟨.copy 16 (.tmp 0), (some (11, false)), (some 16), false⟩,
      ⟨.copy 17 (.tmp 3), (some (11, false)), (some 17), true⟩,
      ⟨.iadd 18 16 26 (.tmp 17), (some (11, false)), (some 18), false⟩,
      ⟨.loadE 19 16 18 (some 3) true, (some (11, false)), (some 19), true⟩,
      ⟨.call (some 20) 55 sg55 [(.tmp 15), (.tmp 19)] [.none, .none], (some (11, false)), (some 20), true⟩,
      ⟨.copy 21 (.tmp 20), (some (11, false)), (some 21), true⟩,
      ⟨.copy 22 (.tmp 1), (some (21, true)), (some 22), false⟩,
      ⟨.copy 23 (.tmp 3), (some (21, true)), (some 23), true⟩,
      ⟨.call (some 24) 104 sg104 [(.tmp 22), (.tmp 23)] [.none, .none], (some (21, true)), (some 24), true⟩,
      ⟨.un 25 .not (.tmp 24), (some (21, true)), (some 25), true⟩,
      ⟨.pick 26 (.tmp 21) (.tmp 25) (.const (.bool false)), (some (11, false)), (some 26), true⟩,
      ⟨.pick 27 (.tmp 11) (.const (.bool true)) (.tmp 26), none, (some 27), false⟩,
      ⟨.copy 8 (.tmp 27), none, (some 8), false⟩])
    (.ret [(.tmp 8)] [.none]))
theorem k94 (r55 r104 : Rel) : compileFn (E94 r55 r104) Try.f94 sg94 hs94 = some c94 := by kernel_rfl
/- loop.example/g01334/spec.neIs -/
noncomputable def l59 (r81 r94 : Rel) : Deps := [(81, sg81, r81), (94, sg94, r94)]
noncomputable def E59 (r81 r94 : Rel) : Env := mkE Try.prog [0, 1, 2, 3, 5, 6] [] (l59 r81 r94) []
noncomputable def hs59 : HS := [[2, 3, 4, 5, 6, 7, 8, 9, 10, 11, 15, 16, 17, 18, 19, 20, 21, 22, 23, 24, 25, 34, 35]]
noncomputable def c59 : Cmd :=
  .seq (.ops [⟨.copy 4 (.const (.bool false)), none, (some 4), false⟩])
   (.seq (.seq (.ops [⟨.copy 7 (.tmp 1), none, (some 7), false⟩,
       ⟨.len 8 false (.tmp 7), none, (some 8), false⟩,
       ⟨.copy 9 (.tmp 0), none, (some 9), false⟩,
       ⟨.len 10 false (.tmp 9), none, (some 10), false⟩,
       ⟨.bin 11 .neq (.tmp 8) (.tmp 10), none, (some 11), false⟩])
     (.cond (.tmp 11)
      (.seq (.ops [⟨.copy 4 (.const (.bool false)), none, (some 4), false⟩])
       (.ret [(.tmp 4)] [.none]))
      (.skip)))
    (.seq (.seq (.ops [⟨.copy 12 (.tmp 1), none, (some 12), false⟩,
        ⟨.len 13 false (.tmp 12), none, (some 13), false⟩,
        ⟨.copy 14 (.const (.int .i64 0)), none, (some 14), false⟩])
      (.block 0 (.loop [true, true, false, false, false, false, false, false, false, false, false, false, true, true, true, false, false, false, false, false, false, false, false, false, false, false, false, false, false, false, false, false, false, false, false, false]
        (.seq (.ops [⟨.bin 15 .lss (.tmp 14) (.tmp 13), none, (some 15), false⟩])
         (.seq (.cond (.tmp 15)
           (.skip)
           (.exit 0))
          (.seq (.block 1 (.seq (.ops [⟨.copy 16 (.tmp 14), none, (some 16), false⟩,
               ⟨.iadd 17 12 3 (.tmp 14), none, (some 17), false⟩,
               ⟨.loadE 18 12 17 none true, none, (some 18), false⟩,
               ⟨.copy 5 (.tmp 16), none, (some 5), false⟩,
               ⟨.copy 6 (.tmp 18), none, (some 6), false⟩])
             (.seq (.ops [⟨.copy 19 (.tmp 6), none, (some 19), false⟩,
                ⟨.copy 20 (.tmp 0), none, (some 20), false⟩,
                ⟨.len 21 false (.tmp 20), none, (some 21), false⟩,
                ⟨.bin 22 .sub (.tmp 21) (.const (.int .i64 1)), none, (some 22), false⟩,
                ⟨.call (some 23) 81 sg81 [(.tmp 19), (.const (.int .i64 (-1))), (.tmp 22)] [.none, .none, .none], none, (some 23), false⟩,
                ⟨.un 24 .not (.tmp 23), none, (some 24), false⟩,
                ⟨.copy 25 (.tmp 24), none, (some 25), false⟩,
                ⟨.copy 26 (.tmp 0), (some (25, false)), (some 26), false⟩,
                ⟨.copy 27 (.tmp 1), (some (25, false)), (some 27), false⟩,
                ⟨.copy 28 (.tmp 5), (some (25, false)), (some 28), true⟩,
                ⟨.sli 29 3 (.tmp 27) none (some (.tmp 28)) none, (some (25, false)), (some 29), false⟩,
                ⟨.copy 30 (.tmp 5), (some (25, false)), (some 30), true⟩,
                ⟨.copy 31 (.tmp 6), (some (25, false)), (some 31), true⟩,
                ⟨.call (some 32) 94 sg94 [(.tmp 26), (.tmp 29), (.tmp 30), (.tmp 31)] [.none, .none, .none, .none], (some (25, false)), (some 32), true⟩,
                ⟨.un 33 .not (.tmp 32), (some (25, false)), (some 33), true⟩,
                ⟨.pick 34 (.tmp 25) (.const (.bool true)) (.tmp 33), none, (some 34), false⟩])
              (.cond (.tmp 34)
               (.seq (.ops [⟨.copy 4 (.const (.bool false)), none, (some 4), false⟩])
                (.ret [(.tmp 4)] [.none]))
               (.skip)))))
           (.ops [⟨.bin 35 .add (.tmp 14) (.const (.int .i64 1)), none, (some 35), false⟩,
             ⟨.copy 14 (.tmp 35), none, (some 14), false⟩])))))))
     (.seq (.ops [⟨.copy 4 (.const (.bool true)), none, (some 4), false⟩])
      (.ret [(.tmp 4)] [.none]))))
theorem k59 (r81 r94 : Rel) : compileFn (E59 r81 r94) Try.f59 sg59 hs59 = some c59 := by kernel_rfl
/- loop.example/g01334/spec.IsNesting -/
noncomputable def l20 (r58 r59 : Rel) : Deps := [(58, sg58, r58), (59, sg59, r59)]
noncomputable def E20 (r58 r59 : Rel) : Env := mkE Try.prog [0, 1, 2, 3] [] (l20 r58 r59) []
noncomputable def hs20 : HS := []
noncomputable def c20 : Cmd :=
  .seq (.ops [⟨.copy 4 (.const (.bool false)), none, (some 4), false⟩,
     ⟨.copy 5 (.const (.bool false)), none, (some 5), false⟩])
   (.seq (.seq (.ops [⟨.copy 6 (.tmp 0), none, (some 6), false⟩,
       ⟨.call (some 7) 58 sg58 [(.tmp 6)] [.none], none, (some 7), false⟩,
       ⟨.un 8 .not (.tmp 7), none, (some 8), false⟩])
     (.cond (.tmp 8)
      (.seq (.ops [⟨.copy 4 (.const (.bool false)), none, (some 4), false⟩,
         ⟨.copy 5 (.const (.bool false)), none, (some 5), false⟩])
       (.ret [(.tmp 4), (.tmp 5)] [.none, .none]))
      (.skip)))
    (.seq (.ops [⟨.copy 9 (.tmp 0), none, (some 9), false⟩,
       ⟨.copy 10 (.tmp 1), none, (some 10), false⟩,
       ⟨.call (some 11) 59 sg59 [(.tmp 9), (.tmp 10)] [.none, .none], none, (some 11), false⟩,
       ⟨.copy 4 (.tmp 11), none, (some 4), false⟩,
       ⟨.copy 5 (.const (.bool true)), none, (some 5), false⟩])
     (.ret [(.tmp 4), (.tmp 5)] [.none, .none])))
theorem k20 (r58 r59 : Rel) : compileFn (E20 r58 r59) Try.f20 sg20 hs20 = some c20 := by kernel_rfl
/- loop.example/g01334/impl.AreBoxes$1 -/
noncomputable def l96 (r56 : Rel) : Deps := [(56, sg56, r56)]
noncomputable def E96 (r56 : Rel) : Env := mkE Try.prog [0, 1] [] (l96 r56) []
noncomputable def hs96 : HS := []
noncomputable def c96 : Cmd :=
  .seq (.ops [⟨.box 1 .own (.tmp 0) .none, none, (some 1), false⟩,
     ⟨.copy 2 (.const (.bool false)), none, (some 2), false⟩])
   (.seq (.ops [⟨.loadB 3 (.tmp 1) (some 3) true, none, (some 3), false⟩,
      ⟨.call (some 4) 56 sg56 [(.tmp 3)] [.none], none, (some 4), false⟩,
      ⟨.un 5 .not (.tmp 4), none, (some 5), false⟩,
      ⟨.copy 2 (.tmp 5), none, (some 2), false⟩])
    (.ret [(.tmp 2)] [.none]))
theorem k96 (r56 : Rel) : compileFn (E96 r56) Try.f96 sg96 hs96 = some c96 := by kernel_rfl
/- slices.IndexFunc[[]loop.example/g01334/impl.Box,loop.example/g01334/impl.Box] -/
noncomputable def l105 (r96 : Rel) : Deps := [(96, sg96, r96)]
noncomputable def E105 (r96 : Rel) : Env := mkE Try.prog [0, 1, 2, 3, 5] [] (l105 r96) [(11, 96, 0)]
noncomputable def hs105 : HS := [[2, 3, 4, 5, 6, 9, 10, 11, 12, 13, 14, 15, 16, 17, 18]]
noncomputable def c105 : Cmd :=
  .seq (.ops [⟨.copy 4 (.const (.int .i64 0)), none, (some 4), false⟩])
   (.seq (.seq (.ops [⟨.copy 6 (.tmp 0), none, (some 6), false⟩,
       ⟨.len 7 false (.tmp 6), none, (some 7), false⟩,
       ⟨.copy 8 (.const (.int .i64 0)), none, (some 8), false⟩])
     (.block 0 (.loop [true, true, false, false, false, false, false, true, true, false, false, false, false, false, false, false, false, false, false]
       (.seq (.ops [⟨.bin 9 .lss (.tmp 8) (.tmp 7), none, (some 9), false⟩])
        (.seq (.cond (.tmp 9)
          (.skip)
          (.exit 0))
         (.seq (.block 1 (.seq (.ops [⟨.copy 10 (.tmp 8), none, (some 10), false⟩,
              ⟨.copy 5 (.tmp 10), none, (some 5), false⟩])
            (.seq (.ops [⟨.copy 11 (.tmp 1), none, (some 11), false⟩,
               ⟨.copy 12 (.tmp 0), none, (some 12), false⟩,
               ⟨.copy 13 (.tmp 5), none, (some 13), false⟩,
               ⟨.iadd 14 12 26 (.tmp 13), none, (some 14), false⟩,
               ⟨.loadE 15 12 14 (some 3) true, none, (some 15), false⟩,
               ⟨.callv (some 16) (.tmp 11) 96 0 sg96 [(.tmp 15)] [.none], none, (some 16), false⟩])
             (.cond (.tmp 16)
              (.seq (.ops [⟨.copy 17 (.tmp 5), none, (some 17), false⟩,
                 ⟨.copy 4 (.tmp 17), none, (some 4), false⟩])
               (.ret [(.tmp 4)] [.none]))
              (.skip)))))
          (.ops [⟨.bin 18 .add (.tmp 8) (.const (.int .i64 1)), none, (some 18), false⟩,
            ⟨.copy 8 (.tmp 18), none, (some 8), false⟩])))))))
    (.seq (.ops [⟨.copy 4 (.const (.int .i64 (-1))), none, (some 4), false⟩])
     (.ret [(.tmp 4)] [.none])))
theorem k105 (r96 : Rel) : compileFn (E105 r96) Try.f105 sg105 hs105 = some c105 := by kernel_rfl
/- slices.ContainsFunc[[]loop.example/g01334/impl.Box,loop.example/g01334/impl.Box] -/
noncomputable def l95 (r105 : Rel) : Deps := [(105, sg105, r105)]
noncomputable def E95 (r105 : Rel) : Env := mkE Try.prog [0, 1, 2, 3] [] (l95 r105) []
noncomputable def hs95 : HS := []
noncomputable def c95 : Cmd :=
  .seq (.ops [⟨.copy 4 (.const (.bool false)), none, (some 4), false⟩])
   (.seq (.ops [⟨.copy 5 (.tmp 0), none, (some 5), false⟩,
      ⟨.copy 6 (.tmp 1), none, (some 6), false⟩,
      ⟨.call (some 7) 105 sg105 [(.tmp 5), (.tmp 6)] [.none, .none], none, (some 7), false⟩,
      ⟨.bin 8 .geq (.tmp 7) (.const (.int .i64 0)), none, (some 8), false⟩,
      ⟨.copy 4 (.tmp 8), none, (some 4), false⟩])
    (.ret [(.tmp 4)] [.none]))
theorem k95 (r105 : Rel) : compileFn (E95 r105) Try.f95 sg95 hs95 = some c95 := by kernel_rfl
/- loop.example/g01334/impl.AreBoxes -/
noncomputable def l60 (r83 r95 : Rel) : Deps := [(83, sg83, r83), (95, sg95, r95)]
noncomputable def E60 (r83 r95 : Rel) : Env := mkE Try.prog [0, 1] [] (l60 r83 r95) []
noncomputable def hs60 : HS := []
noncomputable def c60 : Cmd :=
  .seq (.ops [⟨.copy 2 (.const (.bool false)), none, (some 2), false⟩])
   (.seq (.ops [⟨.copy 3 (.tmp 0), none, (some 3), false⟩,
      ⟨.len 4 false (.tmp 3), none, (some 4), false⟩,
      ⟨.call (some 5) 83 sg83 [(.tmp 4), (.const (.int .i64 1)), (.const (.int .i64 7))] [.none, .none, .none], none, (some 5), false⟩,
      ⟨.copy 6 (.tmp 5), none, (some 6), false⟩,
      ⟨.copy 7 (.tmp 0), (some (6, true)), (some 7), false⟩,
      ⟨.call (some 8) 95 sg95 [(.tmp 7), (.func 96)] [.none, .none], (some (6, true)), (some 8), true⟩,
      ⟨.un 9 .not (.tmp 8), (some (6, true)), (some 9), true⟩,
      ⟨.pick 10 (.tmp 6) (.tmp 9) (.const (.bool false)), none, (some 10), false⟩,
      ⟨.copy 2 (.tmp 10), none, (some 2), false⟩])
    (.ret [(.tmp 2)] [.none]))
theorem k60 (r83 r95 : Rel) : compileFn (E60 r83 r95) Try.f60 sg60 hs60 = some c60 := by kernel_rfl
/- slices.Index[[]int,int] -/
noncomputable def l84 : Deps := []
noncomputable def E84 : Env := mkE Try.prog [0, 1, 2, 3, 5] [] (l84) []
noncomputable def hs84 : HS := [[2, 3, 4, 5, 6, 9, 10, 11, 12, 13, 14, 15, 16, 17, 18]]
noncomputable def c84 : Cmd :=
  .seq (.ops [⟨.copy 4 (.const (.int .i64 0)), none, (some 4), false⟩])
   (.seq (.seq (.ops [⟨.copy 6 (.tmp 0), none, (some 6), false⟩,
       ⟨.len 7 false (.tmp 6), none, (some 7), false⟩,
       ⟨.copy 8 (.const (.int .i64 0)), none, (some 8), false⟩])
     (.block 0 (.loop [true, true, false, false, false, false, false, true, true, false, false, false, false, false, false, false, false, false, false]
       (.seq (.ops [⟨.bin 9 .lss (.tmp 8) (.tmp 7), none, (some 9), false⟩])
        (.seq (.cond (.tmp 9)
          (.skip)
          (.exit 0))
         (.seq (.block 1 (.seq (.ops [⟨.copy 10 (.tmp 8), none, (some 10), false⟩,
              ⟨.copy 5 (.tmp 10), none, (some 5), false⟩])
            (.seq (.ops [⟨.copy 11 (.tmp 1), none, (some 11), false⟩,
               ⟨.copy 12 (.tmp 0), none, (some 12), false⟩,
               ⟨.copy 13 (.tmp 5), none, (some 13), false⟩,
               ⟨.iadd 14 12 3 (.tmp 13), none, (some 14), false⟩,
               ⟨.loadE 15 12 14 none true, none, (some 15), false⟩,
               ⟨.bin 16 .eql (.tmp 11) (.tmp 15), none, (some 16), false⟩])
             (.cond (.tmp 16)
              (.seq (.ops [⟨.copy 17 (.tmp 5), none, (some 17), false⟩,
                 ⟨.copy 4 (.tmp 17), none, (some 4), false⟩])
               (.ret [(.tmp 4)] [.none]))
              (.skip)))))
          (.ops [⟨.bin 18 .add (.tmp 8) (.const (.int .i64 1)), none, (some 18), false⟩,
            ⟨.copy 8 (.tmp 18), none, (some 8), false⟩])))))))
    (.seq (.ops [⟨.copy 4 (.const (.int .i64 (-1))), none, (some 4), false⟩])
     (.ret [(.tmp 4)] [.none])))
theorem k84 : compileFn (E84) Try.f84 sg84 hs84 = some c84 := by kernel_rfl
/- slices.Contains[[]int,int] -/
noncomputable def l86 (r84 : Rel) : Deps := [(84, sg84, r84)]
noncomputable def E86 (r84 : Rel) : Env := mkE Try.prog [0, 1, 2, 3] [] (l86 r84) []
noncomputable def hs86 : HS := []
noncomputable def c86 : Cmd :=
  .seq (.ops [⟨.copy 4 (.const (.bool false)), none, (some 4), false⟩])
   (.seq (.ops [⟨.copy 5 (.tmp 0), none, (some 5), false⟩,
      ⟨.copy 6 (.tmp 1), none, (some 6), false⟩,
      ⟨.call (some 7) 84 sg84 [(.tmp 5), (.tmp 6)] [.none, .none], none, (some 7), false⟩,
      ⟨.bin 8 .geq (.tmp 7) (.const (.int .i64 0)), none, (some 8), false⟩,
      ⟨.copy 4 (.tmp 8), none, (some 4), false⟩])
    (.ret [(.tmp 4)] [.none]))
theorem k86 (r84 : Rel) : compileFn (E86 r84) Try.f86 sg86 hs86 = some c86 := by kernel_rfl
/- loop.example/g01334/impl.isNesting -/
noncomputable def l61 (r89 r57 r86 : Rel) : Deps := [(89, sg89, r89), (57, sg57, r57), (86, sg86, r86)]
noncomputable def E61 (r89 r57 r86 : Rel) : Env := mkE Try.prog [0, 1, 2, 3, 5, 6] [] (l61 r89 r57 r86) []
noncomputable def hs61 : HS := [[2, 3, 4, 5, 6, 7, 8, 9, 10, 11, 12, 13, 14, 15, 16, 17, 18, 19, 23, 24, 25, 26, 27, 28, 29, 47, 48]]
noncomputable def c61 : Cmd :=
  .seq (.ops [⟨.copy 4 (.const (.bool false)), none, (some 4), false⟩])
   (.seq (.seq (.ops [⟨.copy 7 (.tmp 1), none, (some 7), false⟩,
       ⟨.len 8 false (.tmp 7), none, (some 8), false⟩,
       ⟨.copy 9 (.tmp 0), none, (some 9), false⟩,
       ⟨.len 10 false (.tmp 9), none, (some 10), false⟩,
       ⟨.bin 11 .neq (.tmp 8) (.tmp 10), none, (some 11), false⟩,
       ⟨.copy 12 (.tmp 11), none, (some 12), false⟩,
       ⟨.copy 13 (.tmp 1), (some (12, false)), (some 13), false⟩,
       ⟨.copy 14 (.tmp 0), (some (12, false)), (some 14), false⟩,
       ⟨.len 15 false (.tmp 14), (some (12, false)), (some 15), true⟩,
       ⟨.bin 16 .sub (.tmp 15) (.const (.int .i64 1)), (some (12, false)), (some 16), true⟩,
       ⟨.call (some 17) 89 sg89 [(.tmp 13), (.const (.int .i64 (-1))), (.tmp 16)] [.none, .none, .none], (some (12, false)), (some 17), true⟩,
       ⟨.un 18 .not (.tmp 17), (some (12, false)), (some 18), true⟩,
       ⟨.pick 19 (.tmp 12) (.const (.bool true)) (.tmp 18), none, (some 19), false⟩])
     (.cond (.tmp 19)
      (.seq (.ops [⟨.copy 4 (.const (.bool false)), none, (some 4), false⟩])
       (.ret [(.tmp 4)] [.none]))
      (.skip)))
    (.seq (.seq (.ops [⟨.copy 20 (.tmp 1), none, (some 20), false⟩,
        ⟨.len 21 false (.tmp 20), none, (some 21), false⟩,
        ⟨.copy 22 (.const (.int .i64 0)), none, (some 22), false⟩])
      (.block 0 (.loop [true, true, false, false, false, false, false, false, false, false, false, false, false, false, false, false, false, false, false, false, true, true, true, false, false, false, false, false, false, false, false, false, false, false, false, false, false, false, false, false, false, false, false, false, false, false, false, false, false]
        (.seq (.ops [⟨.bin 23 .lss (.tmp 22) (.tmp 21), none, (some 23), false⟩])
         (.seq (.cond (.tmp 23)
           (.skip)
           (.exit 0))
          (.seq (.block 1 (.seq (.ops [⟨.copy 24 (.tmp 22), none, (some 24), false⟩,
               ⟨.iadd 25 20 3 (.tmp 22), none, (some 25), false⟩,
               ⟨.loadE 26 20 25 none true, none, (some 26), false⟩,
               ⟨.copy 5 (.tmp 24), none, (some 5), false⟩,
               ⟨.copy 6 (.tmp 26), none, (some 6), false⟩])
             (.seq (.ops [⟨.copy 27 (.tmp 6), none, (some 27), false⟩,
                ⟨.bin 28 .geq (.tmp 27) (.const (.int .i64 0)), none, (some 28), false⟩,
                ⟨.copy 29 (.tmp 28), none, (some 29), false⟩,
                ⟨.copy 30 (.tmp 0), (some (29, true)), (some 30), false⟩,
                ⟨.copy 31 (.tmp 5), (some (29, true)), (some 31), true⟩,
                ⟨.iadd 32 30 26 (.tmp 31), (some (29, true)), (some 32), false⟩,
                ⟨.loadE 33 30 32 (some 3) true, (some (29, true)), (some 33), true⟩,
                ⟨.copy 34 (.tmp 0), (some (29, true)), (some 34), false⟩,
                ⟨.copy 35 (.tmp 6), (some (29, true)), (some 35), true⟩,
                ⟨.iadd 36 34 26 (.tmp 35), (some (29, true)), (some 36), false⟩,
                ⟨.loadE 37 34 36 (some 3) true, (some (29, true)), (some 37), true⟩,
                ⟨.call (some 38) 57 sg57 [(.tmp 33), (.tmp 37)] [.none, .none], (some (29, true)), (some 38), true⟩,
                ⟨.un 39 .not (.tmp 38), (some (29, true)), (some 39), true⟩,
                ⟨.copy 40 (.tmp 39), (some (29, true)), (some 40), true⟩,
                ⟨.copy 41 (.tmp 1), (some (40, false)), (some 41), false⟩,
                ⟨.copy 42 (.tmp 5), (some (40, false)), (some 42), true⟩,
                ⟨.sli 43 3 (.tmp 41) none (some (.tmp 42)) none, (some (40, false)), (some 43), false⟩,
                ⟨.copy 44 (.tmp 6), (some (40, false)), (some 44), true⟩,
                ⟨.call (some 45) 86 sg86 [(.tmp 43), (.tmp 44)] [.none, .none], (some (40, false)), (some 45), true⟩,
                ⟨.pick 46 (.tmp 40) (.const (.bool true)) (.tmp 45), (some (29, true)), (some 46), true⟩,
                ⟨.pick 47 (.tmp 29) (.tmp 46) (.const (.bool false)), none, (some 47), false⟩])
              (.cond (.tmp 47)
               (.seq (.ops [⟨.copy 4 (.const (.bool false)), none, (some 4), false⟩])
                (.ret [(.tmp 4)] [.none]))
               (.skip)))))
           (.ops [⟨.bin 48 .add (.tmp 22) (.const (.int .i64 1)), none, (some 48), false⟩,
             ⟨.copy 22 (.tmp 48), none, (some 22), false⟩])))))))
     (.seq (.ops [⟨.copy 4 (.const (.bool true)), none, (some 4), false⟩])
      (.ret [(.tmp 4)] [.none]))))
theorem k61 (r89 r57 r86 : Rel) : compileFn (E61 r89 r57 r86) Try.f61 sg61 hs61 = some c61 := by kernel_rfl
/- loop.example/g01334/impl.IsNesting -/
noncomputable def l23 (r60 r61 : Rel) : Deps := [(60, sg60, r60), (61, sg61, r61)]
noncomputable def E23 (r60 r61 : Rel) : Env := mkE Try.prog [0, 1, 2, 3] [] (l23 r60 r61) []
noncomputable def hs23 : HS := []
noncomputable def c23 : Cmd :=
  .seq (.ops [⟨.copy 4 (.const (.bool false)), none, (some 4), false⟩,
     ⟨.copy 5 (.const (.bool false)), none, (some 5), false⟩])
   (.seq (.seq (.ops [⟨.copy 6 (.tmp 0), none, (some 6), false⟩,
       ⟨.call (some 7) 60 sg60 [(.tmp 6)] [.none], none, (some 7), false⟩,
       ⟨.un 8 .not (.tmp 7), none, (some 8), false⟩])
     (.cond (.tmp 8)
      (.seq (.ops [⟨.copy 4 (.const (.bool false)), none, (some 4), false⟩,
         ⟨.copy 5 (.const (.bool false)), none, (some 5), false⟩])
       (.ret [(.tmp 4), (.tmp 5)] [.none, .none]))
      (.skip)))
    (.seq (.ops [⟨.copy 9 (.tmp 0), none, (some 9), false⟩,
       ⟨.copy 10 (.tmp 1), none, (some 10), false⟩,
       ⟨.call (some 11) 61 sg61 [(.tmp 9), (.tmp 10)] [.none, .none], none, (some 11), false⟩,
       ⟨.copy 4 (.tmp 11), none, (some 4), false⟩,
       ⟨.copy 5 (.const (.bool true)), none, (some 5), false⟩])
     (.ret [(.tmp 4), (.tmp 5)] [.none, .none])))
theorem k23 (r60 r61 : Rel) : compileFn (E23 r60 r61) Try.f23 sg23 hs23 = some c23 := by kernel_rfl
/- loop.example/g01334/laws.eqBox -/
noncomputable def l62 : Deps := []
noncomputable def E62 : Env := mkE Try.prog [0, 1, 2, 3] [] (l62) []
noncomputable def hs62 : HS := []
noncomputable def c62 : Cmd :=
  .seq (.ops [⟨.box 2 .own (.tmp 0) .none, none, (some 2), false⟩,
     ⟨.box 3 .own (.tmp 1) .none, none, (some 3), false⟩,
     ⟨.copy 4 (.const (.bool false)), none, (some 4), false⟩])
   (.seq (.seq (.ops [⟨.fadd 5 (.tmp 2) 0, none, (some 5), false⟩,
       ⟨.loadB 6 (.tmp 5) none true, none, (some 6), false⟩,
       ⟨.fadd 7 (.tmp 3) 0, none, (some 7), false⟩,
       ⟨.loadB 8 (.tmp 7) none true, none, (some 8), false⟩,
       ⟨.bin 9 .neq (.tmp 6) (.tmp 8), none, (some 9), false⟩])
     (.cond (.tmp 9)
      (.seq (.ops [⟨.copy 4 (.const (.bool false)), none, (some 4), false⟩])
       (.ret [(.tmp 4)] [.none]))
      (.skip)))
    (.seq (.seq (.ops [⟨.fadd 10 (.tmp 2) 1, none, (some 10), false⟩,
        ⟨.loadB 11 (.tmp 10) none true, none, (some 11), false⟩,
        ⟨.fadd 12 (.tmp 3) 1, none, (some 12), false⟩,
        ⟨.loadB 13 (.tmp 12) none true, none, (some 13), false⟩,
        ⟨.bin 14 .neq (.tmp 11) (.tmp 13), none, (some 14), false⟩])
      (.cond (.tmp 14)
       (.seq (.ops [⟨.copy 4 (.const (.bool false)), none, (some 4), false⟩])
        (.ret [(.tmp 4)] [.none]))
       (.skip)))
     (.seq (.seq (.ops [⟨.fadd 15 (.tmp 2) 2, none, (some 15), false⟩,
         ⟨.loadB 16 (.tmp 15) none true, none, (some 16), false⟩,
         ⟨.fadd 17 (.tmp 3) 2, none, (some 17), false⟩,
         ⟨.loadB 18 (.tmp 17) none true, none, (some 18), false⟩,
         ⟨.bin 19 .neq (.tmp 16) (.tmp 18), none, (some 19), false⟩])
       (.cond (.tmp 19)
        (.seq (.ops [⟨.copy 4 (.const (.bool false)), none, (some 4), false⟩])
         (.ret [(.tmp 4)] [.none]))
        (.skip)))
      (.seq (.ops [⟨.copy 4 (.const (.bool true)), none, (some 4), false⟩])
       (.ret [(.tmp 4)] [.none])))))
theorem k62 : compileFn (E62) Try.f62 sg62 hs62 = some c62 := by kernel_rfl
/- loop.example/g01334/laws.eqBoxS -/
noncomputable def l24 (r62 : Rel) : Deps := [(62, sg62, r62)]
noncomputable def E24 (r62 : Rel) : Env := mkE Try.prog [0, 1, 2, 3, 5] [] (l24 r62) []
noncomputable def hs24 : HS := [[2, 3, 4, 6, 7, 8, 9, 10, 11, 12, 13, 14, 15, 16, 17, 18, 19, 20, 21, 22, 23, 24, 25, 26]]
noncomputable def c24 : Cmd :=
  .seq (.ops [⟨.copy 4 (.const (.bool false)), none, (some 4), false⟩])
   (.seq (.seq (.ops [⟨.copy 6 (.tmp 0), none, (some 6), false⟩,
       ⟨.len 7 false (.tmp 6), none, (some 7), false⟩,
       ⟨.copy 8 (.tmp 1), none, (some 8), false⟩,
       ⟨.len 9 false (.tmp 8), none, (some 9), false⟩,
       ⟨.bin 10 .neq (.tmp 7) (.tmp 9), none, (some 10), false⟩])
     (.cond (.tmp 10)
      (.seq (.ops [⟨.copy 4 (.const (.bool false)), none, (some 4), false⟩])
       (.ret [(.tmp 4)] [.none]))
      (.skip)))
    (.seq (.seq (.ops [⟨.copy 5 (.const (.int .i64 0)), none, (some 5), false⟩])
      (.block 0 (.loop [true, true, false, false, false, true, false, false, false, false, false, false, false, false, false, false, false, false, false, false, false, false, false, false, false, false, false]
        (.seq (.seq (.ops [⟨.copy 11 (.tmp 5), none, (some 11), false⟩,
            ⟨.copy 12 (.tmp 0), none, (some 12), false⟩,
            ⟨.len 13 false (.tmp 12), none, (some 13), false⟩,
            ⟨.bin 14 .lss (.tmp 11) (.tmp 13), none, (some 14), false⟩])
          (.cond (.tmp 14)
           (.skip)
           (.exit 0)))
         (.seq (.block 1 (.seq (.ops [⟨.copy 17 (.tmp 0), none, (some 17), false⟩,
              ⟨.copy 18 (.tmp 5), none, (some 18), false⟩,
              ⟨.iadd 19 17 26 (.tmp 18), none, (some 19), false⟩,
              ⟨.loadE 20 17 19 (some 3) true, none, (some 20), false⟩,
              ⟨.copy 21 (.tmp 1), none, (some 21), false⟩,
              ⟨.copy 22 (.tmp 5), none, (some 22), false⟩,
              ⟨.iadd 23 21 26 (.tmp 22), none, (some 23), false⟩,
              ⟨.loadE 24 21 23 (some 3) true, none, (some 24), false⟩,
              ⟨.call (some 25) 62 sg62 [(.tmp 20), (.tmp 24)] [.none, .none], none, (some 25), false⟩,
              ⟨.un 26 .not (.tmp 25), none, (some 26), false⟩])
            (.cond (.tmp 26)
             (.seq (.ops [⟨.copy 4 (.const (.bool false)), none, (some 4), false⟩])
              (.ret [(.tmp 4)] [.none]))
             (.skip))))
          (.ops [⟨.copy 15 (.tmp 5), none, (some 15), false⟩,
            ⟨.bin 16 .add (.tmp 15) (.const (.int .i64 1)), none, (some 16), false⟩,
            ⟨.copy 5 (.tmp 16), none, (some 5), false⟩]))))))
     (.seq (.ops [⟨.copy 4 (.const (.bool true)), none, (some 4), false⟩])
      (.ret [(.tmp 4)] [.none]))))
theorem k24 (r62 : Rel) : compileFn (E24 r62) Try.f24 sg24 hs24 = some c24 := by kernel_rfl
/- loop.example/g01334/laws.eqIntS -/
noncomputable def l25 : Deps := []
noncomputable def E25 : Env := mkE Try.prog [0, 1, 2, 3, 5] [] (l25) []
noncomputable def hs25 : HS := [[2, 3, 4, 6, 7, 8, 9, 10, 11, 12, 13, 14, 15, 16, 17, 18, 19, 20, 21, 22, 23, 24, 25]]
noncomputable def c25 : Cmd :=
  .seq (.ops [⟨.copy 4 (.const (.bool false)), none, (some 4), false⟩])
   (.seq (.seq (.ops [⟨.copy 6 (.tmp 0), none, (some 6), false⟩,
       ⟨.len 7 false (.tmp 6), none, (some 7), false⟩,
       ⟨.copy 8 (.tmp 1), none, (some 8), false⟩,
       ⟨.len 9 false (.tmp 8), none, (some 9), false⟩,
       ⟨.bin 10 .neq (.tmp 7) (.tmp 9), none, (some 10), false⟩])
     (.cond (.tmp 10)
      (.seq (.ops [⟨.copy 4 (.const (.bool false)), none, (some 4), false⟩])
       (.ret [(.tmp 4)] [.none]))
      (.skip)))
    (.seq (.seq (.ops [⟨.copy 5 (.const (.int .i64 0)), none, (some 5), false⟩])
      (.block 0 (.loop [true, true, false, false, false, true, false, false, false, false, false, false, false, false, false, false, false, false, false, false, false, false, false, false, false, false]
        (.seq (.seq (.ops [⟨.copy 11 (.tmp 5), none, (some 11), false⟩,
            ⟨.copy 12 (.tmp 0), none, (some 12), false⟩,
            ⟨.len 13 false (.tmp 12), none, (some 13), false⟩,
            ⟨.bin 14 .lss (.tmp 11) (.tmp 13), none, (some 14), false⟩])
          (.cond (.tmp 14)
           (.skip)
           (.exit 0)))
         (.seq (.block 1 (.seq (.ops [⟨.copy 17 (.tmp 0), none, (some 17), false⟩,
              ⟨.copy 18 (.tmp 5), none, (some 18), false⟩,
              ⟨.iadd 19 17 3 (.tmp 18), none, (some 19), false⟩,
              ⟨.loadE 20 17 19 none true, none, (some 20), false⟩,
              ⟨.copy 21 (.tmp 1), none, (some 21), false⟩,
              ⟨.copy 22 (.tmp 5), none, (some 22), false⟩,
              ⟨.iadd 23 21 3 (.tmp 22), none, (some 23), false⟩,
              ⟨.loadE 24 21 23 none true, none, (some 24), false⟩,
              ⟨.bin 25 .neq (.tmp 20) (.tmp 24), none, (some 25), false⟩])
            (.cond (.tmp 25)
             (.seq (.ops [⟨.copy 4 (.const (.bool false)), none, (some 4), false⟩])
              (.ret [(.tmp 4)] [.none]))
             (.skip))))
          (.ops [⟨.copy 15 (.tmp 5), none, (some 15), false⟩,
            ⟨.bin 16 .add (.tmp 15) (.const (.int .i64 1)), none, (some 16), false⟩,
            ⟨.copy 5 (.tmp 16), none, (some 5), false⟩]))))))
     (.seq (.ops [⟨.copy 4 (.const (.bool true)), none, (some 4), false⟩])
      (.ret [(.tmp 4)] [.none]))))
theorem k25 : compileFn (E25) Try.f25 sg25 hs25 = some c25 := by kernel_rfl
/- loop.example/g01334/laws.FnExactIsNesting -/
noncomputable def l4 (r19 r21 r22 r20 r23 r24 r25 : Rel) : Deps := [(19, sg19, r19), (21, sg21, r21), (22, sg22, r22), (20, sg20, r20), (23, sg23, r23), (24, sg24, r24), (25, sg25, r25)]
noncomputable def E4 (r19 r21 r22 r20 r23 r24 r25 : Rel) : Env := mkE Try.prog [0, 1, 2, 3, 5, 6, 7, 8, 9, 10, 11] [] (l4 r19 r21 r22 r20 r23 r24 r25) []
noncomputable def hs4 : HS := []
noncomputable def c4 : Cmd :=
  .seq (.ops [⟨.copy 4 (.const (.bool false)), none, (some 4), false⟩])
   (.seq (.seq (.ops [⟨.copy 12 (.tmp 1), none, (some 12), false⟩,
       ⟨.len 13 false (.tmp 12), none, (some 13), false⟩,
       ⟨.bin 14 .gtr (.tmp 13) (.const (.int .i64 1048576)), none, (some 14), false⟩])
     (.cond (.tmp 14)
      (.seq (.ops [⟨.copy 4 (.const (.bool true)), none, (some 4), false⟩])
       (.ret [(.tmp 4)] [.none]))
      (.skip)))
    (.seq (.ops [⟨.copy 5 (.const (.int .i64 1048576)), none, (some 5), false⟩])
     (.seq (.ops [⟨.copy 15 (.tmp 0), none, (some 15), false⟩,
        ⟨.copy 16 (.tmp 5), none, (some 16), false⟩,
        ⟨.call (some 17) 19 sg19 [(.tmp 15), (.tmp 16)] [.none, .none], none, (some 17), false⟩,
        ⟨.copy 5 (.tmp 17), none, (some 5), false⟩])
      (.seq (.seq (.ops [⟨.copy 18 (.tmp 5), none, (some 18), false⟩,
          ⟨.bin 19 .lss (.tmp 18) (.const (.int .i64 0)), none, (some 19), false⟩])
        (.cond (.tmp 19)
         (.seq (.ops [⟨.copy 4 (.const (.bool true)), none, (some 4), false⟩])
          (.ret [(.tmp 4)] [.none]))
         (.skip)))
       (.seq (.ops [⟨.copy 21 (.tmp 0), none, (some 21), false⟩,
          ⟨.call (some 22) 21 sg21 [(.tmp 21)] [.none], none, (some 22), false⟩,
          ⟨.copy 23 (.tmp 1), none, (some 23), false⟩,
          ⟨.call (some 24) 22 sg22 [(.tmp 23)] [.none], none, (some 24), false⟩,
          ⟨.call (some 25) 20 sg20 [(.tmp 22), (.tmp 24)] [.none, .none], none, (some 25), false⟩,
          ⟨.copy 20 (.tmp 25), none, (some 20), false⟩,
          ⟨.ext 26 20 0, none, (some 26), false⟩,
          ⟨.ext 27 20 1, none, (some 27), false⟩,
          ⟨.copy 6 (.tmp 26), none, (some 6), false⟩,
          ⟨.copy 7 (.tmp 27), none, (some 7), false⟩])
        (.seq (.ops [⟨.copy 28 (.tmp 0), none, (some 28), false⟩,
           ⟨.call (some 29) 21 sg21 [(.tmp 28)] [.none], none, (some 29), false⟩,
           ⟨.take 8 (.tmp 29) (.slot 29), none, (some 8), false⟩])
         (.seq (.ops [⟨.copy 30 (.tmp 1), none, (some 30), false⟩,
            ⟨.call (some 31) 22 sg22 [(.tmp 30)] [.none], none, (some 31), false⟩,
            ⟨.take 9 (.tmp 31) (.slot 31), none, (some 9), false⟩])
          (.seq (.ops [⟨.copy 33 (.tmp 8), none, (some 33), false⟩,
             ⟨.copy 34 (.tmp 9), none, (some 34), false⟩,
             ⟨.call (some 35) 23 sg23 [(.tmp 33), (.tmp 34)] [.none, .none], none, (some 35), false⟩,
             ⟨.copy 32 (.tmp 35), none, (some 32), false⟩,
             ⟨.ext 36 32 0, none, (some 36), false⟩,
             ⟨.ext 37 32 1, none, (some 37), false⟩,
             ⟨.copy 10 (.tmp 36), none, (some 10), false⟩,
             ⟨.copy 11 (.tmp 37), none, (some 11), false⟩])
           (.seq (.seq (.ops [⟨.copy 38 (.tmp 10), none, (some 38), false⟩,
               ⟨.copy 39 (.tmp 6), none, (some 39), false⟩,
               ⟨.beq 40 true (.tmp 38) (.tmp 39), none, (some 40), false⟩,
               ⟨.copy 41 (.tmp 40), none, (some 41), false⟩,
               ⟨.copy 42 (.tmp 11), (some (41, false)), (some 42), true⟩,
               ⟨.copy 43 (.tmp 7), (some (41, false)), (some 43), true⟩,
               ⟨.beq 44 true (.tmp 42) (.tmp 43), (some (41, false)), (some 44), true⟩,
               ⟨.pick 45 (.tmp 41) (.const (.bool true)) (.tmp 44), none, (some 45), false⟩])
             (.cond (.tmp 45)
              (.seq (.ops [⟨.copy 4 (.const (.bool false)), none, (some 4), false⟩])
               (.ret [(.tmp 4)] [.none]))
              (.skip)))
            (.seq (.seq (.ops [⟨.copy 46 (.tmp 8), none, (some 46), false⟩,
                ⟨.copy 47 (.tmp 0), none, (some 47), false⟩,
                ⟨.call (some 48) 21 sg21 [(.tmp 47)] [.none], none, (some 48), false⟩,
                ⟨.call (some 49) 24 sg24 [(.tmp 46), (.tmp 48)] [.none, .none], none, (some 49), false⟩,
                ⟨.un 50 .not (.tmp 49), none, (some 50), false⟩])
              (.cond (.tmp 50)
               (.seq (.ops [⟨.copy 4 (.const (.bool false)), none, (some 4), false⟩])
                (.ret [(.tmp 4)] [.none]))
               (.skip)))
             (.seq (.seq (.ops [⟨.copy 51 (.tmp 9), none, (some 51), false⟩,
                 ⟨.copy 52 (.tmp 1), none, (some 52), false⟩,
                 ⟨.call (some 53) 22 sg22 [(.tmp 52)] [.none], none, (some 53), false⟩,
                 ⟨.call (some 54) 25 sg25 [(.tmp 51), (.tmp 53)] [.none, .none], none, (some 54), false⟩,
                 ⟨.un 55 .not (.tmp 54), none, (some 55), false⟩])
               (.cond (.tmp 55)
                (.seq (.ops [⟨.copy 4 (.const (.bool false)), none, (some 4), false⟩])
                 (.ret [(.tmp 4)] [.none]))
                (.skip)))
              (.seq (.ops [⟨.copy 4 (.const (.bool true)), none, (some 4), false⟩])
               (.ret [(.tmp 4)] [.none])))))))))))))
theorem k4 (r19 r21 r22 r20 r23 r24 r25 : Rel) : compileFn (E4 r19 r21 r22 r20 r23 r24 r25) Try.f4 sg4 hs4 = some c4 := by kernel_rfl
/- loop.example/g01334/spec.nePlanned -/
noncomputable def l79 (r58 r59 : Rel) : Deps := [(58, sg58, r58), (59, sg59, r59)]
noncomputable def E79 (r58 r59 : Rel) : Env := mkE Try.prog [0, 1, 2, 3] [] (l79 r58 r59) []
noncomputable def hs79 : HS := []
noncomputable def c79 : Cmd :=
  .seq (.ops [⟨.copy 4 (.const (.bool false)), none, (some 4), false⟩])
   (.seq (.ops [⟨.copy 5 (.tmp 0), none, (some 5), false⟩,
      ⟨.call (some 6) 58 sg58 [(.tmp 5)] [.none], none, (some 6), false⟩,
      ⟨.copy 7 (.tmp 6), none, (some 7), false⟩,
      ⟨.copy 8 (.tmp 0), (some (7, true)), (some 8), false⟩,
      ⟨.copy 9 (.tmp 1), (some (7, true)), (some 9), false⟩,
      ⟨.call (some 10) 59 sg59 [(.tmp 8), (.tmp 9)] [.none, .none], (some (7, true)), (some 10), true⟩,
      ⟨.pick 11 (.tmp 7) (.tmp 10) (.const (.bool false)), none, (some 11), false⟩,
      ⟨.copy 4 (.tmp 11), none, (some 4), false⟩])
    (.ret [(.tmp 4)] [.none]))
theorem k79 (r58 r59 : Rel) : compileFn (E79 r58 r59) Try.f79 sg79 hs79 = some c79 := by kernel_rfl
/- loop.example/g01334/spec.neOuter -/
noncomputable def l72 : Deps := []
noncomputable def E72 : Env := mkE Try.prog [0, 1, 3, 4, 5] [] (l72) []
noncomputable def hs72 : HS := [[0, 1, 2, 4, 5, 9, 10, 11, 12, 13, 14, 15, 16, 17, 18, 19, 20]]
noncomputable def c72 : Cmd :=
  .seq (.ops [⟨.copy 2 (.const (.slice none 0 0)), none, (some 2), false⟩])
   (.seq (.ops [⟨.copy 3 (.const (.slice none 0 0)), none, (some 3), false⟩])
    (.seq (.seq (.ops [⟨.copy 6 (.tmp 0), none, (some 6), false⟩,
        ⟨.len 7 false (.tmp 6), none, (some 7), false⟩,
        ⟨.copy 8 (.const (.int .i64 0)), none, (some 8), false⟩])
      (.block 0 (.loop [false, false, false, true, false, false, true, true, true, false, false, false, false, false, false, false, false, false, false, false, false]
        (.seq (.ops [⟨.bin 9 .lss (.tmp 8) (.tmp 7), none, (some 9), false⟩])
         (.seq (.cond (.tmp 9)
           (.skip)
           (.exit 0))
          (.seq (.block 1 (.seq (.ops [⟨.copy 10 (.tmp 8), none, (some 10), false⟩,
               ⟨.iadd 11 6 3 (.tmp 8), none, (some 11), false⟩,
               ⟨.loadE 12 6 11 none true, none, (some 12), false⟩,
               ⟨.copy 4 (.tmp 10), none, (some 4), false⟩,
               ⟨.copy 5 (.tmp 12), none, (some 5), false⟩])
             (.seq (.ops [⟨.copy 13 (.tmp 5), none, (some 13), false⟩,
                ⟨.bin 14 .lss (.tmp 13) (.const (.int .i64 0)), none, (some 14), false⟩])
              (.cond (.tmp 14)
               (.ops [⟨.copy 15 (.tmp 3), none, (some 15), false⟩,
                 ⟨.copy 16 (.tmp 4), none, (some 16), false⟩,
                 ⟨.lit 17 3 1 [(.tmp 16)] [.none], none, (some 17), false⟩,
                 ⟨.app 18 3 8 true (.tmp 15) (.tmp 17) [(.slot 3), .none], none, (some 18), false⟩,
                 ⟨.take 3 (.tmp 18) (.slot 18), none, (some 3), false⟩])
               (.skip)))))
           (.ops [⟨.bin 19 .add (.tmp 8) (.const (.int .i64 1)), none, (some 19), false⟩,
             ⟨.copy 8 (.tmp 19), none, (some 8), false⟩])))))))
     (.seq (.ops [⟨.copy 20 (.tmp 3), none, (some 20), false⟩,
        ⟨.copy 2 (.tmp 20), none, (some 2), false⟩])
      (.ret [(.tmp 2)] [(.slot 3)]))))
theorem k72 : compileFn (E72) Try.f72 sg72 hs72 = some c72 := by kernel_rfl
/- loop.example/g01334/spec.OuterBoxes -/
noncomputable def l48 (r79 r72 : Rel) : Deps := [(79, sg79, r79), (72, sg72, r72)]
noncomputable def E48 (r79 r72 : Rel) : Env := mkE Try.prog [0, 1, 2, 3] [] (l48 r79 r72) []
noncomputable def hs48 : HS := []
noncomputable def c48 : Cmd :=
  .seq (.ops [⟨.copy 4 (.const (.slice none 0 0)), none, (some 4), false⟩,
     ⟨.copy 5 (.const (.bool false)), none, (some 5), false⟩])
   (.seq (.seq (.ops [⟨.copy 6 (.tmp 0), none, (some 6), false⟩,
       ⟨.copy 7 (.tmp 1), none, (some 7), false⟩,
       ⟨.call (some 8) 79 sg79 [(.tmp 6), (.tmp 7)] [.none, .none], none, (some 8), false⟩,
       ⟨.un 9 .not (.tmp 8), none, (some 9), false⟩])
     (.cond (.tmp 9)
      (.seq (.ops [⟨.copy 4 (.const (.slice none 0 0)), none, (some 4), false⟩,
         ⟨.copy 5 (.const (.bool false)), none, (some 5), false⟩])
       (.ret [(.tmp 4), (.tmp 5)] [.none, .none]))
      (.skip)))
    (.seq (.ops [⟨.copy 10 (.tmp 1), none, (some 10), false⟩,
       ⟨.call (some 11) 72 sg72 [(.tmp 10)] [.none], none, (some 11), false⟩,
       ⟨.take 4 (.tmp 11) (.slot 11), none, (some 4), false⟩,
       ⟨.copy 5 (.const (.bool true)), none, (some 5), false⟩])
     (.ret [(.tmp 4), (.tmp 5)] [(.slot 4), .none])))
theorem k48 (r79 r72 : Rel) : compileFn (E48 r79 r72) Try.f48 sg48 hs48 = some c48 := by kernel_rfl
/- loop.example/g01334/impl.areNested -/
noncomputable def l80 (r60 r61 : Rel) : Deps := [(60, sg60, r60), (61, sg61, r61)]
noncomputable def E80 (r60 r61 : Rel) : Env := mkE Try.prog [0, 1, 2, 3] [] (l80 r60 r61) []
noncomputable def hs80 : HS := []
noncomputable def c80 : Cmd :=
  .seq (.ops [⟨.copy 4 (.const (.bool false)), none, (some 4), false⟩])
   (.seq (.ops [⟨.copy 5 (.tmp 0), none, (some 5), false⟩,
      ⟨.call (some 6) 60 sg60 [(.tmp 5)] [.none], none, (some 6), false⟩,
      ⟨.copy 7 (.tmp 6), none, (some 7), false⟩,
      ⟨.copy 8 (.tmp 0), (some (7, true)), (some 8), false⟩,
      ⟨.copy 9 (.tmp 1), (some (7, true)), (some 9), false⟩,
      ⟨.call (some 10) 61 sg61 [(.tmp 8), (.tmp 9)] [.none, .none], (some (7, true)), (some 10), true⟩,
      ⟨.pick 11 (.tmp 7) (.tmp 10) (.const (.bool false)), none, (some 11), false⟩,
      ⟨.copy 4 (.tmp 11), none, (some 4), false⟩])
    (.ret [(.tmp 4)] [.none]))
theorem k80 (r60 r61 : Rel) : compileFn (E80 r60 r61) Try.f80 sg80 hs80 = some c80 := by kernel_rfl
/- loop.example/g01334/impl.outer -/
noncomputable def l77 : Deps := []
noncomputable def E77 : Env := mkE Try.prog [0, 1, 3, 4, 5] [] (l77) []
noncomputable def hs77 : HS := [[0, 1, 2, 4, 5, 6, 10, 11, 12, 13, 14, 15, 16, 17, 18, 19, 20, 21]]
noncomputable def c77 : Cmd :=
  .seq (.ops [⟨.copy 2 (.const (.slice none 0 0)), none, (some 2), false⟩])
   (.seq (.ops [⟨.lit 6 3 1 [] [], none, (some 6), false⟩,
      ⟨.take 3 (.tmp 6) (.slot 6), none, (some 3), false⟩])
    (.seq (.seq (.ops [⟨.copy 7 (.tmp 0), none, (some 7), false⟩,
        ⟨.len 8 false (.tmp 7), none, (some 8), false⟩,
        ⟨.copy 9 (.const (.int .i64 0)), none, (some 9), false⟩])
      (.block 0 (.loop [false, false, false, true, false, false, false, true, true, true, false, false, false, false, false, false, false, false, false, false, false, false]
        (.seq (.ops [⟨.bin 10 .lss (.tmp 9) (.tmp 8), none, (some 10), false⟩])
         (.seq (.cond (.tmp 10)
           (.skip)
           (.exit 0))
          (.seq (.block 1 (.seq (.ops [⟨.copy 11 (.tmp 9), none, (some 11), false⟩,
               ⟨.iadd 12 7 3 (.tmp 9), none, (some 12), false⟩,
               ⟨.loadE 13 7 12 none true, none, (some 13), false⟩,
               ⟨.copy 4 (.tmp 11), none, (some 4), false⟩,
               ⟨.copy 5 (.tmp 13), none, (some 5), false⟩])
             (.seq (.ops [⟨.copy 14 (.tmp 5), none, (some 14), false⟩,
                ⟨.bin 15 .lss (.tmp 14) (.const (.int .i64 0)), none, (some 15), false⟩])
              (.cond (.tmp 15)
               (.ops [⟨.copy 16 (.tmp 3), none, (some 16), false⟩,
                 ⟨.copy 17 (.tmp 4), none, (some 17), false⟩,
                 ⟨.lit 18 3 1 [(.tmp 17)] [.none], none, (some 18), false⟩,
                 ⟨.app 19 3 8 true (.tmp 16) (.tmp 18) [(.slot 3), .none], none, (some 19), false⟩,
                 ⟨.take 3 (.tmp 19) (.slot 19), none, (some 3), false⟩])
               (.skip)))))
           (.ops [⟨.bin 20 .add (.tmp 9) (.const (.int .i64 1)), none, (some 20), false⟩,
             ⟨.copy 9 (.tmp 20), none, (some 9), false⟩])))))))
     (.seq (.ops [⟨.copy 21 (.tmp 3), none, (some 21), false⟩,
        ⟨.copy 2 (.tmp 21), none, (some 2), false⟩])
      (.ret [(.tmp 2)] [(.slot 3)]))))
theorem k77 : compileFn (E77) Try.f77 sg77 hs77 = some c77 := by kernel_rfl
/- loop.example/g01334/impl.OuterBoxes -/
noncomputable def l49 (r80 r77 : Rel) : Deps := [(80, sg80, r80), (77, sg77, r77)]
noncomputable def E49 (r80 r77 : Rel) : Env := mkE Try.prog [0, 1, 2, 3] [] (l49 r80 r77) []
noncomputable def hs49 : HS := []
noncomputable def c49 : Cmd :=
  .seq (.ops [⟨.copy 4 (.const (.slice none 0 0)), none, (some 4), false⟩,
     ⟨.copy 5 (.const (.bool false)), none, (some 5), false⟩])
   (.seq (.seq (.ops [⟨.copy 6 (.tmp 0), none, (some 6), false⟩,
       ⟨.copy 7 (.tmp 1), none, (some 7), false⟩,
       ⟨.call (some 8) 80 sg80 [(.tmp 6), (.tmp 7)] [.none, .none], none, (some 8), false⟩,
       ⟨.un 9 .not (.tmp 8), none, (some 9), false⟩])
     (.cond (.tmp 9)
      (.seq (.ops [⟨.copy 4 (.const (.slice none 0 0)), none, (some 4), false⟩,
         ⟨.copy 5 (.const (.bool false)), none, (some 5), false⟩])
       (.ret [(.tmp 4), (.tmp 5)] [.none, .none]))
      (.skip)))
    (.seq (.ops [⟨.copy 10 (.tmp 1), none, (some 10), false⟩,
       ⟨.call (some 11) 77 sg77 [(.tmp 10)] [.none], none, (some 11), false⟩,
       ⟨.take 4 (.tmp 11) (.slot 11), none, (some 4), false⟩,
       ⟨.copy 5 (.const (.bool true)), none, (some 5), false⟩])
     (.ret [(.tmp 4), (.tmp 5)] [(.slot 4), .none])))
theorem k49 (r80 r77 : Rel) : compileFn (E49 r80 r77) Try.f49 sg49 hs49 = some c49 := by kernel_rfl
/- loop.example/g01334/laws.markBoxS -/
noncomputable def l28 : Deps := []
noncomputable def E28 : Env := mkE Try.prog [0, 1, 2, 3, 5] [] (l28) []
noncomputable def hs28 : HS := [[2, 3, 4, 6, 7, 8, 9, 10, 11, 12, 13, 14, 15, 16, 17, 18, 19, 20, 21, 22, 23, 24, 25, 26, 27, 28, 29, 30, 31, 32, 33]]
noncomputable def c28 : Cmd :=
  .seq (.ops [⟨.copy 4 (.const (.int .i64 0)), none, (some 4), false⟩])
   (.seq (.seq (.ops [⟨.copy 5 (.const (.int .i64 0)), none, (some 5), false⟩])
     (.block 0 (.loop [true, true, false, false, false, true, false, false, false, false, false, false, false, false, false, false, false, false, false, false, false, false, false, false, false, false, false, false, false, false, false, false, false, false]
       (.seq (.seq (.ops [⟨.copy 6 (.tmp 5), none, (some 6), false⟩,
           ⟨.copy 7 (.tmp 0), none, (some 7), false⟩,
           ⟨.len 8 false (.tmp 7), none, (some 8), false⟩,
           ⟨.bin 9 .lss (.tmp 6) (.tmp 8), none, (some 9), false⟩])
         (.cond (.tmp 9)
          (.skip)
          (.exit 0)))
        (.seq (.block 1 (.seq (.ops [⟨.copy 12 (.tmp 0), none, (some 12), false⟩,
             ⟨.copy 13 (.tmp 5), none, (some 13), false⟩,
             ⟨.copy 14 (.tmp 1), none, (some 14), false⟩,
             ⟨.iadd 15 12 26 (.tmp 13), none, (some 15), false⟩,
             ⟨.fadd 16 (.tmp 15) 0, none, (some 16), false⟩,
             ⟨.storeE 0 16 none (.tmp 14), none, none, false⟩])
           (.seq (.ops [⟨.copy 17 (.tmp 1), none, (some 17), false⟩,
              ⟨.bin 18 .add (.tmp 17) (.const (.int .i64 1)), none, (some 18), false⟩,
              ⟨.copy 1 (.tmp 18), none, (some 1), false⟩])
            (.seq (.ops [⟨.copy 19 (.tmp 0), none, (some 19), false⟩,
               ⟨.copy 20 (.tmp 5), none, (some 20), false⟩,
               ⟨.copy 21 (.tmp 1), none, (some 21), false⟩,
               ⟨.iadd 22 19 26 (.tmp 20), none, (some 22), false⟩,
               ⟨.fadd 23 (.tmp 22) 1, none, (some 23), false⟩,
               ⟨.storeE 0 23 none (.tmp 21), none, none, false⟩])
             (.seq (.ops [⟨.copy 24 (.tmp 1), none, (some 24), false⟩,
                ⟨.bin 25 .add (.tmp 24) (.const (.int .i64 1)), none, (some 25), false⟩,
                ⟨.copy 1 (.tmp 25), none, (some 1), false⟩])
              (.seq (.ops [⟨.copy 26 (.tmp 0), none, (some 26), false⟩,
                 ⟨.copy 27 (.tmp 5), none, (some 27), false⟩,
                 ⟨.copy 28 (.tmp 1), none, (some 28), false⟩,
                 ⟨.iadd 29 26 26 (.tmp 27), none, (some 29), false⟩,
                 ⟨.fadd 30 (.tmp 29) 2, none, (some 30), false⟩,
                 ⟨.storeE 0 30 none (.tmp 28), none, none, false⟩])
               (.ops [⟨.copy 31 (.tmp 1), none, (some 31), false⟩,
                 ⟨.bin 32 .add (.tmp 31) (.const (.int .i64 1)), none, (some 32), false⟩,
                 ⟨.copy 1 (.tmp 32), none, (some 1), false⟩])))))))
         (.ops [⟨.copy 10 (.tmp 5), none, (some 10), false⟩,
           ⟨.bin 11 .add (.tmp 10) (.const (.int .i64 1)), none, (some 11), false⟩,
           ⟨.copy 5 (.tmp 11), none, (some 5), false⟩]))))))
    (.seq (.ops [⟨.copy 33 (.tmp 1), none, (some 33), false⟩,
       ⟨.copy 4 (.tmp 33), none, (some 4), false⟩])
     (.ret [(.tmp 4), (.tmp 0)] [.none, (.slot 0)])))
theorem k28 : compileFn (E28) Try.f28 sg28 hs28 = some c28 := by kernel_rfl
/- loop.example/g01334/laws.markIntS -/
noncomputable def l29 : Deps := []
noncomputable def E29 : Env := mkE Try.prog [0, 1, 2, 3, 5] [] (l29) []
noncomputable def hs29 : HS := [[2, 3, 4, 6, 7, 8, 9, 10, 11, 12, 13, 14, 15, 16, 17, 18]]
noncomputable def c29 : Cmd :=
  .seq (.ops [⟨.copy 4 (.const (.int .i64 0)), none, (some 4), false⟩])
   (.seq (.seq (.ops [⟨.copy 5 (.const (.int .i64 0)), none, (some 5), false⟩])
     (.block 0 (.loop [true, true, false, false, false, true, false, false, false, false, false, false, false, false, false, false, false, false, false]
       (.seq (.seq (.ops [⟨.copy 6 (.tmp 5), none, (some 6), false⟩,
           ⟨.copy 7 (.tmp 0), none, (some 7), false⟩,
           ⟨.len 8 false (.tmp 7), none, (some 8), false⟩,
           ⟨.bin 9 .lss (.tmp 6) (.tmp 8), none, (some 9), false⟩])
         (.cond (.tmp 9)
          (.skip)
          (.exit 0)))
        (.seq (.block 1 (.seq (.ops [⟨.copy 12 (.tmp 0), none, (some 12), false⟩,
             ⟨.copy 13 (.tmp 5), none, (some 13), false⟩,
             ⟨.copy 14 (.tmp 1), none, (some 14), false⟩,
             ⟨.iadd 15 12 3 (.tmp 13), none, (some 15), false⟩,
             ⟨.storeE 0 15 none (.tmp 14), none, none, false⟩])
           (.ops [⟨.copy 16 (.tmp 1), none, (some 16), false⟩,
             ⟨.bin 17 .add (.tmp 16) (.const (.int .i64 1)), none, (some 17), false⟩,
             ⟨.copy 1 (.tmp 17), none, (some 1), false⟩])))
         (.ops [⟨.copy 10 (.tmp 5), none, (some 10), false⟩,
           ⟨.bin 11 .add (.tmp 10) (.const (.int .i64 1)), none, (some 11), false⟩,
           ⟨.copy 5 (.tmp 11), none, (some 5), false⟩]))))))
    (.seq (.ops [⟨.copy 18 (.tmp 1), none, (some 18), false⟩,
       ⟨.copy 4 (.tmp 18), none, (some 4), false⟩])
     (.ret [(.tmp 4), (.tmp 0)] [.none, (.slot 0)])))
theorem k29 : compileFn (E29) Try.f29 sg29 hs29 = some c29 := by kernel_rfl
/- loop.example/g01334/laws.heldIntS -/
noncomputable def l30 : Deps := []
noncomputable def E30 : Env := mkE Try.prog [0, 1, 2, 3, 5] [] (l30) []
noncomputable def hs30 : HS := [[2, 3, 4, 6, 7, 8, 9, 10, 11, 12, 13, 14, 15, 16, 17, 18, 19, 20]]
noncomputable def c30 : Cmd :=
  .seq (.ops [⟨.copy 4 (.const (.int .i64 0)), none, (some 4), false⟩])
   (.seq (.seq (.ops [⟨.copy 5 (.const (.int .i64 0)), none, (some 5), false⟩])
     (.block 0 (.loop [true, true, false, false, false, true, false, false, false, false, false, false, false, false, false, false, false, false, false, false, false]
       (.seq (.seq (.ops [⟨.copy 6 (.tmp 5), none, (some 6), false⟩,
           ⟨.copy 7 (.tmp 0), none, (some 7), false⟩,
           ⟨.len 8 false (.tmp 7), none, (some 8), false⟩,
           ⟨.bin 9 .lss (.tmp 6) (.tmp 8), none, (some 9), false⟩])
         (.cond (.tmp 9)
          (.skip)
          (.exit 0)))
        (.seq (.block 1 (.seq (.seq (.ops [⟨.copy 12 (.tmp 0), none, (some 12), false⟩,
              ⟨.copy 13 (.tmp 5), none, (some 13), false⟩,
              ⟨.iadd 14 12 3 (.tmp 13), none, (some 14), false⟩,
              ⟨.loadE 15 12 14 none true, none, (some 15), false⟩,
              ⟨.copy 16 (.tmp 1), none, (some 16), false⟩,
              ⟨.bin 17 .neq (.tmp 15) (.tmp 16), none, (some 17), false⟩])
            (.cond (.tmp 17)
             (.seq (.ops [⟨.copy 4 (.const (.int .i64 (-1))), none, (some 4), false⟩])
              (.ret [(.tmp 4)] [.none]))
             (.skip)))
           (.ops [⟨.copy 18 (.tmp 1), none, (some 18), false⟩,
             ⟨.bin 19 .add (.tmp 18) (.const (.int .i64 1)), none, (some 19), false⟩,
             ⟨.copy 1 (.tmp 19), none, (some 1), false⟩])))
         (.ops [⟨.copy 10 (.tmp 5), none, (some 10), false⟩,
           ⟨.bin 11 .add (.tmp 10) (.const (.int .i64 1)), none, (some 11), false⟩,
           ⟨.copy 5 (.tmp 11), none, (some 5), false⟩]))))))
    (.seq (.ops [⟨.copy 20 (.tmp 1), none, (some 20), false⟩,
       ⟨.copy 4 (.tmp 20), none, (some 4), false⟩])
     (.ret [(.tmp 4)] [.none])))
theorem k30 : compileFn (E30) Try.f30 sg30 hs30 = some c30 := by kernel_rfl
/- loop.example/g01334/laws.FnExactOuterBoxes -/
noncomputable def l13 (r19 r21 r22 r48 r49 r25 r24 r28 r29 r30 : Rel) : Deps := [(19, sg19, r19), (21, sg21, r21), (22, sg22, r22), (48, sg48, r48), (49, sg49, r49), (25, sg25, r25), (24, sg24, r24), (28, sg28, r28), (29, sg29, r29), (30, sg30, r30)]
noncomputable def E13 (r19 r21 r22 r48 r49 r25 r24 r28 r29 r30 : Rel) : Env := mkE Try.prog [0, 1, 2, 3, 5, 6, 7, 8, 9, 10, 11, 12, 13, 14, 15, 16] [] (l13 r19 r21 r22 r48 r49 r25 r24 r28 r29 r30) []
noncomputable def hs13 : HS := []
noncomputable def c13 : Cmd :=
  .seq (.ops [⟨.copy 4 (.const (.bool false)), none, (some 4), false⟩])
   (.seq (.seq (.ops [⟨.copy 17 (.tmp 1), none, (some 17), false⟩,
       ⟨.len 18 false (.tmp 17), none, (some 18), false⟩,
       ⟨.bin 19 .gtr (.tmp 18) (.const (.int .i64 1048576)), none, (some 19), false⟩])
     (.cond (.tmp 19)
      (.seq (.ops [⟨.copy 4 (.const (.bool true)), none, (some 4), false⟩])
       (.ret [(.tmp 4)] [.none]))
      (.skip)))
    (.seq (.ops [⟨.copy 5 (.const (.int .i64 1048576)), none, (some 5), false⟩])
     (.seq (.ops [⟨.copy 20 (.tmp 0), none, (some 20), false⟩,
        ⟨.copy 21 (.tmp 5), none, (some 21), false⟩,
        ⟨.call (some 22) 19 sg19 [(.tmp 20), (.tmp 21)] [.none, .none], none, (some 22), false⟩,
        ⟨.copy 5 (.tmp 22), none, (some 5), false⟩])
      (.seq (.seq (.ops [⟨.copy 23 (.tmp 5), none, (some 23), false⟩,
          ⟨.bin 24 .lss (.tmp 23) (.const (.int .i64 0)), none, (some 24), false⟩])
        (.cond (.tmp 24)
         (.seq (.ops [⟨.copy 4 (.const (.bool true)), none, (some 4), false⟩])
          (.ret [(.tmp 4)] [.none]))
         (.skip)))
       (.seq (.ops [⟨.copy 26 (.tmp 0), none, (some 26), false⟩,
          ⟨.call (some 27) 21 sg21 [(.tmp 26)] [.none], none, (some 27), false⟩,
          ⟨.copy 28 (.tmp 1), none, (some 28), false⟩,
          ⟨.call (some 29) 22 sg22 [(.tmp 28)] [.none], none, (some 29), false⟩,
          ⟨.call (some 30) 48 sg48 [(.tmp 27), (.tmp 29)] [.none, .none], none, (some 30), false⟩,
          ⟨.copy 25 (.tmp 30), none, (some 25), false⟩,
          ⟨.ext 31 25 0, none, (some 31), false⟩,
          ⟨.ext 32 25 1, none, (some 32), false⟩,
          ⟨.take 6 (.tmp 31) (.slot 31), none, (some 6), false⟩,
          ⟨.copy 7 (.tmp 32), none, (some 7), false⟩])
        (.seq (.ops [⟨.copy 33 (.tmp 0), none, (some 33), false⟩,
           ⟨.call (some 34) 21 sg21 [(.tmp 33)] [.none], none, (some 34), false⟩,
           ⟨.take 8 (.tmp 34) (.slot 34), none, (some 8), false⟩])
         (.seq (.ops [⟨.copy 35 (.tmp 1), none, (some 35), false⟩,
            ⟨.call (some 36) 22 sg22 [(.tmp 35)] [.none], none, (some 36), false⟩,
            ⟨.take 9 (.tmp 36) (.slot 36), none, (some 9), false⟩])
          (.seq (.ops [⟨.copy 38 (.tmp 8), none, (some 38), false⟩,
             ⟨.copy 39 (.tmp 9), none, (some 39), false⟩,
             ⟨.call (some 40) 49 sg49 [(.tmp 38), (.tmp 39)] [.none, .none], none, (some 40), false⟩,
             ⟨.copy 37 (.tmp 40), none, (some 37), false⟩,
             ⟨.ext 41 37 0, none, (some 41), false⟩,
             ⟨.ext 42 37 1, none, (some 42), false⟩,
             ⟨.take 10 (.tmp 41) (.slot 41), none, (some 10), false⟩,
             ⟨.copy 11 (.tmp 42), none, (some 11), false⟩])
           (.seq (.seq (.ops [⟨.copy 43 (.tmp 10), none, (some 43), false⟩,
               ⟨.copy 44 (.tmp 6), none, (some 44), false⟩,
               ⟨.call (some 45) 25 sg25 [(.tmp 43), (.tmp 44)] [.none, .none], none, (some 45), false⟩,
               ⟨.un 46 .not (.tmp 45), none, (some 46), false⟩,
               ⟨.copy 47 (.tmp 46), none, (some 47), false⟩,
               ⟨.copy 48 (.tmp 11), (some (47, false)), (some 48), true⟩,
               ⟨.copy 49 (.tmp 7), (some (47, false)), (some 49), true⟩,
               ⟨.beq 50 true (.tmp 48) (.tmp 49), (some (47, false)), (some 50), true⟩,
               ⟨.pick 51 (.tmp 47) (.const (.bool true)) (.tmp 50), none, (some 51), false⟩])
             (.cond (.tmp 51)
              (.seq (.ops [⟨.copy 4 (.const (.bool false)), none, (some 4), false⟩])
               (.ret [(.tmp 4)] [.none]))
              (.skip)))
            (.seq (.seq (.ops [⟨.copy 52 (.tmp 8), none, (some 52), false⟩,
                ⟨.copy 53 (.tmp 0), none, (some 53), false⟩,
                ⟨.call (some 54) 21 sg21 [(.tmp 53)] [.none], none, (some 54), false⟩,
                ⟨.call (some 55) 24 sg24 [(.tmp 52), (.tmp 54)] [.none, .none], none, (some 55), false⟩,
                ⟨.un 56 .not (.tmp 55), none, (some 56), false⟩])
              (.cond (.tmp 56)
               (.seq (.ops [⟨.copy 4 (.const (.bool false)), none, (some 4), false⟩])
                (.ret [(.tmp 4)] [.none]))
               (.skip)))
             (.seq (.seq (.ops [⟨.copy 57 (.tmp 9), none, (some 57), false⟩,
                 ⟨.copy 58 (.tmp 1), none, (some 58), false⟩,
                 ⟨.call (some 59) 22 sg22 [(.tmp 58)] [.none], none, (some 59), false⟩,
                 ⟨.call (some 60) 25 sg25 [(.tmp 57), (.tmp 59)] [.none, .none], none, (some 60), false⟩,
                 ⟨.un 61 .not (.tmp 60), none, (some 61), false⟩])
               (.cond (.tmp 61)
                (.seq (.ops [⟨.copy 4 (.const (.bool false)), none, (some 4), false⟩])
                 (.ret [(.tmp 4)] [.none]))
                (.skip)))
              (.seq (.ops [⟨.copy 12 (.const (.int .i64 1)), none, (some 12), false⟩])
               (.seq (.ops [⟨.copy 62 (.tmp 8), none, (some 62), false⟩,
                  ⟨.copy 63 (.tmp 12), none, (some 63), false⟩,
                  ⟨.callm 64 28 sg28 (.tmp 62) [(.tmp 63)] (.slot 8), none, (some 64), false⟩,
                  ⟨.copy 12 (.tmp 64), none, (some 12), false⟩])
                (.seq (.ops [⟨.copy 65 (.tmp 9), none, (some 65), false⟩,
                   ⟨.copy 66 (.tmp 12), none, (some 66), false⟩,
                   ⟨.callm 67 29 sg29 (.tmp 65) [(.tmp 66)] (.slot 9), none, (some 67), false⟩,
                   ⟨.copy 12 (.tmp 67), none, (some 12), false⟩])
                 (.seq (.seq (.ops [⟨.copy 68 (.tmp 12), none, (some 68), false⟩,
                     ⟨.bin 69 .lss (.tmp 68) (.const (.int .i64 0)), none, (some 69), false⟩,
                     ⟨.copy 70 (.tmp 69), none, (some 70), false⟩,
                     ⟨.copy 71 (.tmp 10), (some (70, false)), (some 71), false⟩,
                     ⟨.copy 72 (.tmp 6), (some (70, false)), (some 72), false⟩,
                     ⟨.call (some 73) 25 sg25 [(.tmp 71), (.tmp 72)] [.none, .none], (some (70, false)), (some 73), true⟩,
                     ⟨.un 74 .not (.tmp 73), (some (70, false)), (some 74), true⟩,
                     ⟨.pick 75 (.tmp 70) (.const (.bool true)) (.tmp 74), none, (some 75), false⟩,
                     ⟨.copy 76 (.tmp 75), none, (some 76), false⟩,
                     ⟨.copy 77 (.tmp 11), (some (76, false)), (some 77), true⟩,
                     ⟨.copy 78 (.tmp 7), (some (76, false)), (some 78), true⟩,
                     ⟨.beq 79 true (.tmp 77) (.tmp 78), (some (76, false)), (some 79), true⟩,
                     ⟨.pick 80 (.tmp 76) (.const (.bool true)) (.tmp 79), none, (some 80), false⟩])
                   (.cond (.tmp 80)
                    (.seq (.ops [⟨.copy 4 (.const (.bool false)), none, (some 4), false⟩])
                     (.ret [(.tmp 4)] [.none]))
                    (.skip)))
                  (.seq (.ops [⟨.copy 13 (.const (.int .i64 1)), none, (some 13), false⟩])
                   (.seq (.ops [⟨.copy 81 (.tmp 10), none, (some 81), false⟩,
                      ⟨.copy 82 (.tmp 13), none, (some 82), false⟩,
                      ⟨.callm 83 29 sg29 (.tmp 81) [(.tmp 82)] (.slot 10), none, (some 83), false⟩,
                      ⟨.copy 13 (.tmp 83), none, (some 13), false⟩])
                    (.seq (.ops [⟨.copy 14 (.const (.int .i64 1)), none, (some 14), false⟩])
                     (.seq (.ops [⟨.copy 84 (.tmp 10), none, (some 84), false⟩,
                        ⟨.copy 85 (.tmp 14), none, (some 85), false⟩,
                        ⟨.call (some 86) 30 sg30 [(.tmp 84), (.tmp 85)] [.none, .none], none, (some 86), false⟩,
                        ⟨.copy 14 (.tmp 86), none, (some 14), false⟩])
                      (.seq (.seq (.ops [⟨.copy 87 (.tmp 14), none, (some 87), false⟩,
                          ⟨.bin 88 .lss (.tmp 87) (.const (.int .i64 0)), none, (some 88), false⟩])
                        (.cond (.tmp 88)
                         (.seq (.ops [⟨.copy 4 (.const (.bool false)), none, (some 4), false⟩])
                          (.ret [(.tmp 4)] [.none]))
                         (.skip)))
                       (.seq (.seq (.ops [⟨.copy 89 (.tmp 14), none, (some 89), false⟩,
                           ⟨.copy 90 (.tmp 13), none, (some 90), false⟩,
                           ⟨.bin 91 .neq (.tmp 89) (.tmp 90), none, (some 91), false⟩])
                         (.cond (.tmp 91)
                          (.seq (.ops [⟨.copy 4 (.const (.bool false)), none, (some 4), false⟩])
                           (.ret [(.tmp 4)] [.none]))
                          (.skip)))
                        (.seq (.ops [⟨.copy 93 (.tmp 0), none, (some 93), false⟩,
                           ⟨.call (some 94) 21 sg21 [(.tmp 93)] [.none], none, (some 94), false⟩,
                           ⟨.copy 95 (.tmp 1), none, (some 95), false⟩,
                           ⟨.call (some 96) 22 sg22 [(.tmp 95)] [.none], none, (some 96), false⟩,
                           ⟨.call (some 97) 49 sg49 [(.tmp 94), (.tmp 96)] [.none, .none], none, (some 97), false⟩,
                           ⟨.copy 92 (.tmp 97), none, (some 92), false⟩,
                           ⟨.ext 98 92 0, none, (some 98), false⟩,
                           ⟨.ext 99 92 1, none, (some 99), false⟩,
                           ⟨.take 15 (.tmp 98) (.slot 98), none, (some 15), false⟩,
                           ⟨.copy 16 (.tmp 99), none, (some 16), false⟩])
                         (.seq (.seq (.ops [⟨.copy 100 (.tmp 15), none, (some 100), false⟩,
                             ⟨.copy 101 (.tmp 6), none, (some 101), false⟩,
                             ⟨.call (some 102) 25 sg25 [(.tmp 100), (.tmp 101)] [.none, .none], none, (some 102), false⟩,
                             ⟨.un 103 .not (.tmp 102), none, (some 103), false⟩,
                             ⟨.copy 104 (.tmp 103), none, (some 104), false⟩,
                             ⟨.copy 105 (.tmp 16), (some (104, false)), (some 105), true⟩,
                             ⟨.copy 106 (.tmp 7), (some (104, false)), (some 106), true⟩,
                             ⟨.beq 107 true (.tmp 105) (.tmp 106), (some (104, false)), (some 107), true⟩,
                             ⟨.pick 108 (.tmp 104) (.const (.bool true)) (.tmp 107), none, (some 108), false⟩])
                           (.cond (.tmp 108)
                            (.seq (.ops [⟨.copy 4 (.const (.bool false)), none, (some 4), false⟩])
                             (.ret [(.tmp 4)] [.none]))
                            (.skip)))
                          (.seq (.ops [⟨.copy 14 (.const (.int .i64 1)), none, (some 14), false⟩])
                           (.seq (.ops [⟨.copy 109 (.tmp 10), none, (some 109), false⟩,
                              ⟨.copy 110 (.tmp 14), none, (some 110), false⟩,
                              ⟨.call (some 111) 30 sg30 [(.tmp 109), (.tmp 110)] [.none, .none], none, (some 111), false⟩,
                              ⟨.copy 14 (.tmp 111), none, (some 14), false⟩])
                            (.seq (.seq (.ops [⟨.copy 112 (.tmp 14), none, (some 112), false⟩,
                                ⟨.bin 113 .lss (.tmp 112) (.const (.int .i64 0)), none, (some 113), false⟩])
                              (.cond (.tmp 113)
                               (.seq (.ops [⟨.copy 4 (.const (.bool false)), none, (some 4), false⟩])
                                (.ret [(.tmp 4)] [.none]))
                               (.skip)))
                             (.seq (.seq (.ops [⟨.copy 114 (.tmp 14), none, (some 114), false⟩,
                                 ⟨.copy 115 (.tmp 13), none, (some 115), false⟩,
                                 ⟨.bin 116 .neq (.tmp 114) (.tmp 115), none, (some 116), false⟩])
                               (.cond (.tmp 116)
                                (.seq (.ops [⟨.copy 4 (.const (.bool false)), none, (some 4), false⟩])
                                 (.ret [(.tmp 4)] [.none]))
                                (.skip)))
                              (.seq (.ops [⟨.copy 4 (.const (.bool true)), none, (some 4), false⟩])
                               (.ret [(.tmp 4)] [.none])))))))))))))))))))))))))))))
theorem k13 (r19 r21 r22 r48 r49 r25 r24 r28 r29 r30 : Rel) : compileFn (E13 r19 r21 r22 r48 r49 r25 r24 r28 r29 r30) Try.f13 sg13 hs13 = some c13 := by kernel_rfl
/- loop.example/g01334/spec.neInside -/
noncomputable def l82 : Deps := []
noncomputable def E82 : Env := mkE Try.prog [0, 1, 2, 3, 5, 6] [] (l82) []
noncomputable def hs82 : HS := [[0, 2, 3, 4, 5, 6, 10, 11, 12, 13, 14, 15, 16, 17, 18]]
noncomputable def c82 : Cmd :=
  .seq (.ops [⟨.copy 4 (.const (.int .i64 0)), none, (some 4), false⟩])
   (.seq (.seq (.ops [⟨.copy 7 (.tmp 0), none, (some 7), false⟩,
       ⟨.len 8 false (.tmp 7), none, (some 8), false⟩,
       ⟨.copy 9 (.const (.int .i64 0)), none, (some 9), false⟩])
     (.block 0 (.loop [false, true, false, false, false, false, false, true, true, true, false, false, false, false, false, false, false, false, false]
       (.seq (.ops [⟨.bin 10 .lss (.tmp 9) (.tmp 8), none, (some 10), false⟩])
        (.seq (.cond (.tmp 10)
          (.skip)
          (.exit 0))
         (.seq (.block 1 (.seq (.ops [⟨.copy 11 (.tmp 9), none, (some 11), false⟩,
              ⟨.iadd 12 7 3 (.tmp 9), none, (some 12), false⟩,
              ⟨.loadE 13 7 12 none true, none, (some 13), false⟩,
              ⟨.copy 5 (.tmp 11), none, (some 5), false⟩,
              ⟨.copy 6 (.tmp 13), none, (some 6), false⟩])
            (.seq (.ops [⟨.copy 14 (.tmp 6), none, (some 14), false⟩,
               ⟨.copy 15 (.tmp 1), none, (some 15), false⟩,
               ⟨.bin 16 .eql (.tmp 14) (.tmp 15), none, (some 16), false⟩])
             (.cond (.tmp 16)
              (.seq (.ops [⟨.copy 17 (.tmp 5), none, (some 17), false⟩,
                 ⟨.copy 4 (.tmp 17), none, (some 4), false⟩])
               (.ret [(.tmp 4)] [.none]))
              (.skip)))))
          (.ops [⟨.bin 18 .add (.tmp 9) (.const (.int .i64 1)), none, (some 18), false⟩,
            ⟨.copy 9 (.tmp 18), none, (some 9), false⟩])))))))
    (.seq (.ops [⟨.copy 4 (.const (.int .i64 (-1))), none, (some 4), false⟩])
     (.ret [(.tmp 4)] [.none])))
theorem k82 : compileFn (E82) Try.f82 sg82 hs82 = some c82 := by kernel_rfl
/- loop.example/g01334/spec.TakeOut -/
noncomputable def l50 (r79 r81 r82 r85 : Rel) : Deps := [(79, sg79, r79), (81, sg81, r81), (82, sg82, r82), (85, sg85, r85)]
noncomputable def E50 (r79 r81 r82 r85 : Rel) : Env := mkE Try.prog [0, 1, 2, 3, 4, 5, 8] [] (l50 r79 r81 r82 r85) []
noncomputable def hs50 : HS := []
noncomputable def c50 : Cmd :=
  .seq (.ops [⟨.copy 6 (.const (.slice none 0 0)), none, (some 6), false⟩,
     ⟨.copy 7 (.const (.bool false)), none, (some 7), false⟩])
   (.seq (.seq (.ops [⟨.copy 9 (.tmp 0), none, (some 9), false⟩,
       ⟨.copy 10 (.tmp 1), none, (some 10), false⟩,
       ⟨.call (some 11) 79 sg79 [(.tmp 9), (.tmp 10)] [.none, .none], none, (some 11), false⟩,
       ⟨.un 12 .not (.tmp 11), none, (some 12), false⟩,
       ⟨.copy 13 (.tmp 12), none, (some 13), false⟩,
       ⟨.copy 14 (.tmp 2), (some (13, false)), (some 14), true⟩,
       ⟨.copy 15 (.tmp 0), (some (13, false)), (some 15), false⟩,
       ⟨.len 16 false (.tmp 15), (some (13, false)), (some 16), true⟩,
       ⟨.bin 17 .sub (.tmp 16) (.const (.int .i64 1)), (some (13, false)), (some 17), true⟩,
       ⟨.call (some 18) 81 sg81 [(.tmp 14), (.const (.int .i64 0)), (.tmp 17)] [.none, .none, .none], (some (13, false)), (some 18), true⟩,
       ⟨.un 19 .not (.tmp 18), (some (13, false)), (some 19), true⟩,
       ⟨.pick 20 (.tmp 13) (.const (.bool true)) (.tmp 19), none, (some 20), false⟩,
       ⟨.copy 21 (.tmp 20), none, (some 21), false⟩,
       ⟨.copy 22 (.tmp 1), (some (21, false)), (some 22), false⟩,
       ⟨.copy 23 (.tmp 2), (some (21, false)), (some 23), true⟩,
       ⟨.call (some 24) 82 sg82 [(.tmp 22), (.tmp 23)] [.none, .none], (some (21, false)), (some 24), true⟩,
       ⟨.bin 25 .lss (.tmp 24) (.const (.int .i64 0)), (some (21, false)), (some 25), true⟩,
       ⟨.pick 26 (.tmp 21) (.const (.bool true)) (.tmp 25), none, (some 26), false⟩])
     (.cond (.tmp 26)
      (.seq (.ops [⟨.copy 6 (.const (.slice none 0 0)), none, (some 6), false⟩,
         ⟨.copy 7 (.const (.bool false)), none, (some 7), false⟩])
       (.ret [(.tmp 6), (.tmp 7)] [.none, .none]))
      (.skip)))
    (.seq (.ops [⟨.copy 27 (.tmp 1), none, (some 27), false⟩,
       ⟨.call (some 28) 85 sg85 [(.tmp 27)] [.none], none, (some 28), false⟩,
       ⟨.take 8 (.tmp 28) (.slot 28), none, (some 8), false⟩])
     (.seq (.ops [⟨.copy 29 (.tmp 8), none, (some 29), false⟩,
        ⟨.copy 30 (.tmp 1), none, (some 30), false⟩,
        ⟨.copy 31 (.tmp 2), none, (some 31), false⟩,
        ⟨.call (some 32) 82 sg82 [(.tmp 30), (.tmp 31)] [.none, .none], none, (some 32), false⟩,
        ⟨.iadd 33 29 3 (.tmp 32), none, (some 33), false⟩,
        ⟨.storeE 8 33 none (.const (.int .i64 (-1))), none, none, false⟩])
      (.seq (.ops [⟨.copy 34 (.tmp 8), none, (some 34), false⟩,
         ⟨.copy 6 (.tmp 34), none, (some 6), false⟩,
         ⟨.copy 7 (.const (.bool true)), none, (some 7), false⟩])
       (.ret [(.tmp 6), (.tmp 7)] [(.slot 8), .none])))))
theorem k50 (r79 r81 r82 r85 : Rel) : compileFn (E50 r79 r81 r82 r85) Try.f50 sg50 hs50 = some c50 := by kernel_rfl
/- slices.Clone[[]int,int] -/
noncomputable def l65 : Deps := []
noncomputable def E65 : Env := mkE Try.prog [0, 1] [] (l65) []
noncomputable def hs65 : HS := []
noncomputable def c65 : Cmd :=
  .seq (.ops [⟨.copy 2 (.const (.slice none 0 0)), none, (some 2), false⟩])
   (.seq (.seq (.ops [⟨.copy 3 (.tmp 0), none, (some 3), false⟩,
       ⟨.isnil 4 false (.tmp 3), none, (some 4), false⟩])
     (.cond (.tmp 4)
      (.seq (.ops [⟨.copy 2 (.const (.slice none 0 0)), none, (some 2), false⟩])
       (.ret [(.tmp 2)] [.none]))
      (.skip)))
    (.seq (.ops [⟨.lit 5 3 1 [] [], none, (some 5), false⟩,
       ⟨.copy 6 (.tmp 0), none, (some 6), false⟩,
       ⟨.app 7 3 8 true (.tmp 5) (.tmp 6) [(.slot 5), .none], none, (some 7), false⟩,
       ⟨.take 2 (.tmp 7) (.slot 7), none, (some 2), false⟩])
     (.ret [(.tmp 2)] [(.slot 2)])))
theorem k65 : compileFn (E65) Try.f65 sg65 hs65 = some c65 := by kernel_rfl
/- loop.example/g01334/impl.TakeOut -/
noncomputable def l51 (r80 r83 r86 r65 r84 : Rel) : Deps := [(80, sg80, r80), (83, sg83, r83), (86, sg86, r86), (65, sg65, r65), (84, sg84, r84)]
noncomputable def E51 (r80 r83 r86 r65 r84 : Rel) : Env := mkE Try.prog [0, 1, 2, 3, 4, 5, 8] [] (l51 r80 r83 r86 r65 r84) []
noncomputable def hs51 : HS := []
noncomputable def c51 : Cmd :=
  .seq (.ops [⟨.copy 6 (.const (.slice none 0 0)), none, (some 6), false⟩,
     ⟨.copy 7 (.const (.bool false)), none, (some 7), false⟩])
   (.seq (.seq (.ops [⟨.copy 9 (.tmp 0), none, (some 9), false⟩,
       ⟨.copy 10 (.tmp 1), none, (some 10), false⟩,
       ⟨.call (some 11) 80 sg80 [(.tmp 9), (.tmp 10)] [.none, .none], none, (some 11), false⟩,
       ⟨.un 12 .not (.tmp 11), none, (some 12), false⟩,
       ⟨.copy 13 (.tmp 12), none, (some 13), false⟩,
       ⟨.copy 14 (.tmp 2), (some (13, false)), (some 14), true⟩,
       ⟨.copy 15 (.tmp 0), (some (13, false)), (some 15), false⟩,
       ⟨.len 16 false (.tmp 15), (some (13, false)), (some 16), true⟩,
       ⟨.bin 17 .sub (.tmp 16) (.const (.int .i64 1)), (some (13, false)), (some 17), true⟩,
       ⟨.call (some 18) 83 sg83 [(.tmp 14), (.const (.int .i64 0)), (.tmp 17)] [.none, .none, .none], (some (13, false)), (some 18), true⟩,
       ⟨.un 19 .not (.tmp 18), (some (13, false)), (some 19), true⟩,
       ⟨.pick 20 (.tmp 13) (.const (.bool true)) (.tmp 19), none, (some 20), false⟩,
       ⟨.copy 21 (.tmp 20), none, (some 21), false⟩,
       ⟨.copy 22 (.tmp 1), (some (21, false)), (some 22), false⟩,
       ⟨.copy 23 (.tmp 2), (some (21, false)), (some 23), true⟩,
       ⟨.call (some 24) 86 sg86 [(.tmp 22), (.tmp 23)] [.none, .none], (some (21, false)), (some 24), true⟩,
       ⟨.un 25 .not (.tmp 24), (some (21, false)), (some 25), true⟩,
       ⟨.pick 26 (.tmp 21) (.const (.bool true)) (.tmp 25), none, (some 26), false⟩])
     (.cond (.tmp 26)
      (.seq (.ops [⟨.copy 6 (.const (.slice none 0 0)), none, (some 6), false⟩,
         ⟨.copy 7 (.const (.bool false)), none, (some 7), false⟩])
       (.ret [(.tmp 6), (.tmp 7)] [.none, .none]))
      (.skip)))
    (.seq (.ops [⟨.copy 27 (.tmp 1), none, (some 27), false⟩,
       ⟨.call (some 28) 65 sg65 [(.tmp 27)] [.none], none, (some 28), false⟩,
       ⟨.take 8 (.tmp 28) (.slot 28), none, (some 8), false⟩])
     (.seq (.ops [⟨.copy 29 (.tmp 8), none, (some 29), false⟩,
        ⟨.copy 30 (.tmp 8), none, (some 30), false⟩,
        ⟨.copy 31 (.tmp 2), none, (some 31), false⟩,
        ⟨.call (some 32) 84 sg84 [(.tmp 30), (.tmp 31)] [.none, .none], none, (some 32), false⟩,
        ⟨.iadd 33 29 3 (.tmp 32), none, (some 33), false⟩,
        ⟨.storeE 8 33 none (.const (.int .i64 (-1))), none, none, false⟩])
      (.seq (.ops [⟨.copy 34 (.tmp 8), none, (some 34), false⟩,
         ⟨.copy 6 (.tmp 34), none, (some 6), false⟩,
         ⟨.copy 7 (.const (.bool true)), none, (some 7), false⟩])
       (.ret [(.tmp 6), (.tmp 7)] [(.slot 8), .none])))))
theorem k51 (r80 r83 r86 r65 r84 : Rel) : compileFn (E51 r80 r83 r86 r65 r84) Try.f51 sg51 hs51 = some c51 := by kernel_rfl
/- loop.example/g01334/laws.FnExactTakeOut -/
noncomputable def l14 (r19 r21 r22 r50 r51 r25 r24 r28 r29 r30 : Rel) : Deps := [(19, sg19, r19), (21, sg21, r21), (22, sg22, r22), (50, sg50, r50), (51, sg51, r51), (25, sg25, r25), (24, sg24, r24), (28, sg28, r28), (29, sg29, r29), (30, sg30, r30)]
noncomputable def E14 (r19 r21 r22 r50 r51 r25 r24 r28 r29 r30 : Rel) : Env := mkE Try.prog [0, 1, 2, 3, 4, 5, 7, 8, 9, 10, 11, 12, 13, 14, 15, 16, 17, 18] [] (l14 r19 r21 r22 r50 r51 r25 r24 r28 r29 r30) []
noncomputable def hs14 : HS := []
noncomputable def c14 : Cmd :=
  .seq (.ops [⟨.copy 6 (.const (.bool false)), none, (some 6), false⟩])
   (.seq (.seq (.ops [⟨.copy 19 (.tmp 1), none, (some 19), false⟩,
       ⟨.len 20 false (.tmp 19), none, (some 20), false⟩,
       ⟨.bin 21 .gtr (.tmp 20) (.const (.int .i64 1048576)), none, (some 21), false⟩])
     (.cond (.tmp 21)
      (.seq (.ops [⟨.copy 6 (.const (.bool true)), none, (some 6), false⟩])
       (.ret [(.tmp 6)] [.none]))
      (.skip)))
    (.seq (.ops [⟨.copy 7 (.const (.int .i64 1048576)), none, (some 7), false⟩])
     (.seq (.ops [⟨.copy 22 (.tmp 0), none, (some 22), false⟩,
        ⟨.copy 23 (.tmp 7), none, (some 23), false⟩,
        ⟨.call (some 24) 19 sg19 [(.tmp 22), (.tmp 23)] [.none, .none], none, (some 24), false⟩,
        ⟨.copy 7 (.tmp 24), none, (some 7), false⟩])
      (.seq (.seq (.ops [⟨.copy 25 (.tmp 7), none, (some 25), false⟩,
          ⟨.bin 26 .lss (.tmp 25) (.const (.int .i64 0)), none, (some 26), false⟩])
        (.cond (.tmp 26)
         (.seq (.ops [⟨.copy 6 (.const (.bool true)), none, (some 6), false⟩])
          (.ret [(.tmp 6)] [.none]))
         (.skip)))
       (.seq (.ops [⟨.copy 28 (.tmp 0), none, (some 28), false⟩,
          ⟨.call (some 29) 21 sg21 [(.tmp 28)] [.none], none, (some 29), false⟩,
          ⟨.copy 30 (.tmp 1), none, (some 30), false⟩,
          ⟨.call (some 31) 22 sg22 [(.tmp 30)] [.none], none, (some 31), false⟩,
          ⟨.copy 32 (.tmp 2), none, (some 32), false⟩,
          ⟨.call (some 33) 50 sg50 [(.tmp 29), (.tmp 31), (.tmp 32)] [.none, .none, .none], none, (some 33), false⟩,
          ⟨.copy 27 (.tmp 33), none, (some 27), false⟩,
          ⟨.ext 34 27 0, none, (some 34), false⟩,
          ⟨.ext 35 27 1, none, (some 35), false⟩,
          ⟨.take 8 (.tmp 34) (.slot 34), none, (some 8), false⟩,
          ⟨.copy 9 (.tmp 35), none, (some 9), false⟩])
        (.seq (.ops [⟨.copy 36 (.tmp 0), none, (some 36), false⟩,
           ⟨.call (some 37) 21 sg21 [(.tmp 36)] [.none], none, (some 37), false⟩,
           ⟨.take 10 (.tmp 37) (.slot 37), none, (some 10), false⟩])
         (.seq (.ops [⟨.copy 38 (.tmp 1), none, (some 38), false⟩,
            ⟨.call (some 39) 22 sg22 [(.tmp 38)] [.none], none, (some 39), false⟩,
            ⟨.take 11 (.tmp 39) (.slot 39), none, (some 11), false⟩])
          (.seq (.ops [⟨.copy 41 (.tmp 10), none, (some 41), false⟩,
             ⟨.copy 42 (.tmp 11), none, (some 42), false⟩,
             ⟨.copy 43 (.tmp 2), none, (some 43), false⟩,
             ⟨.call (some 44) 51 sg51 [(.tmp 41), (.tmp 42), (.tmp 43)] [.none, .none, .none], none, (some 44), false⟩,
             ⟨.copy 40 (.tmp 44), none, (some 40), false⟩,
             ⟨.ext 45 40 0, none, (some 45), false⟩,
             ⟨.ext 46 40 1, none, (some 46), false⟩,
             ⟨.take 12 (.tmp 45) (.slot 45), none, (some 12), false⟩,
             ⟨.copy 13 (.tmp 46), none, (some 13), false⟩])
           (.seq (.seq (.ops [⟨.copy 47 (.tmp 12), none, (some 47), false⟩,
               ⟨.copy 48 (.tmp 8), none, (some 48), false⟩,
               ⟨.call (some 49) 25 sg25 [(.tmp 47), (.tmp 48)] [.none, .none], none, (some 49), false⟩,
               ⟨.un 50 .not (.tmp 49), none, (some 50), false⟩,
               ⟨.copy 51 (.tmp 50), none, (some 51), false⟩,
               ⟨.copy 52 (.tmp 13), (some (51, false)), (some 52), true⟩,
               ⟨.copy 53 (.tmp 9), (some (51, false)), (some 53), true⟩,
               ⟨.beq 54 true (.tmp 52) (.tmp 53), (some (51, false)), (some 54), true⟩,
               ⟨.pick 55 (.tmp 51) (.const (.bool true)) (.tmp 54), none, (some 55), false⟩])
             (.cond (.tmp 55)
              (.seq (.ops [⟨.copy 6 (.const (.bool false)), none, (some 6), false⟩])
               (.ret [(.tmp 6)] [.none]))
              (.skip)))
            (.seq (.seq (.ops [⟨.copy 56 (.tmp 10), none, (some 56), false⟩,
                ⟨.copy 57 (.tmp 0), none, (some 57), false⟩,
                ⟨.call (some 58) 21 sg21 [(.tmp 57)] [.none], none, (some 58), false⟩,
                ⟨.call (some 59) 24 sg24 [(.tmp 56), (.tmp 58)] [.none, .none], none, (some 59), false⟩,
                ⟨.un 60 .not (.tmp 59), none, (some 60), false⟩])
              (.cond (.tmp 60)
               (.seq (.ops [⟨.copy 6 (.const (.bool false)), none, (some 6), false⟩])
                (.ret [(.tmp 6)] [.none]))
               (.skip)))
             (.seq (.seq (.ops [⟨.copy 61 (.tmp 11), none, (some 61), false⟩,
                 ⟨.copy 62 (.tmp 1), none, (some 62), false⟩,
                 ⟨.call (some 63) 22 sg22 [(.tmp 62)] [.none], none, (some 63), false⟩,
                 ⟨.call (some 64) 25 sg25 [(.tmp 61), (.tmp 63)] [.none, .none], none, (some 64), false⟩,
                 ⟨.un 65 .not (.tmp 64), none, (some 65), false⟩])
               (.cond (.tmp 65)
                (.seq (.ops [⟨.copy 6 (.const (.bool false)), none, (some 6), false⟩])
                 (.ret [(.tmp 6)] [.none]))
                (.skip)))
              (.seq (.ops [⟨.copy 14 (.const (.int .i64 1)), none, (some 14), false⟩])
               (.seq (.ops [⟨.copy 66 (.tmp 10), none, (some 66), false⟩,
                  ⟨.copy 67 (.tmp 14), none, (some 67), false⟩,
                  ⟨.callm 68 28 sg28 (.tmp 66) [(.tmp 67)] (.slot 10), none, (some 68), false⟩,
                  ⟨.copy 14 (.tmp 68), none, (some 14), false⟩])
                (.seq (.ops [⟨.copy 69 (.tmp 11), none, (some 69), false⟩,
                   ⟨.copy 70 (.tmp 14), none, (some 70), false⟩,
                   ⟨.callm 71 29 sg29 (.tmp 69) [(.tmp 70)] (.slot 11), none, (some 71), false⟩,
                   ⟨.copy 14 (.tmp 71), none, (some 14), false⟩])
                 (.seq (.seq (.ops [⟨.copy 72 (.tmp 14), none, (some 72), false⟩,
                     ⟨.bin 73 .lss (.tmp 72) (.const (.int .i64 0)), none, (some 73), false⟩,
                     ⟨.copy 74 (.tmp 73), none, (some 74), false⟩,
                     ⟨.copy 75 (.tmp 12), (some (74, false)), (some 75), false⟩,
                     ⟨.copy 76 (.tmp 8), (some (74, false)), (some 76), false⟩,
                     ⟨.call (some 77) 25 sg25 [(.tmp 75), (.tmp 76)] [.none, .none], (some (74, false)), (some 77), true⟩,
                     ⟨.un 78 .not (.tmp 77), (some (74, false)), (some 78), true⟩,
                     ⟨.pick 79 (.tmp 74) (.const (.bool true)) (.tmp 78), none, (some 79), false⟩,
                     ⟨.copy 80 (.tmp 79), none, (some 80), false⟩,
                     ⟨.copy 81 (.tmp 13), (some (80, false)), (some 81), true⟩,
                     ⟨.copy 82 (.tmp 9), (some (80, false)), (some 82), true⟩,
                     ⟨.beq 83 true (.tmp 81) (.tmp 82), (some (80, false)), (some 83), true⟩,
                     ⟨.pick 84 (.tmp 80) (.const (.bool true)) (.tmp 83), none, (some 84), false⟩])
                   (.cond (.tmp 84)
                    (.seq (.ops [⟨.copy 6 (.const (.bool false)), none, (some 6), false⟩])
                     (.ret [(.tmp 6)] [.none]))
                    (.skip)))
                  (.seq (.ops [⟨.copy 15 (.const (.int .i64 1)), none, (some 15), false⟩])
                   (.seq (.ops [⟨.copy 85 (.tmp 12), none, (some 85), false⟩,
                      ⟨.copy 86 (.tmp 15), none, (some 86), false⟩,
                      ⟨.callm 87 29 sg29 (.tmp 85) [(.tmp 86)] (.slot 12), none, (some 87), false⟩,
                      ⟨.copy 15 (.tmp 87), none, (some 15), false⟩])
                    (.seq (.ops [⟨.copy 16 (.const (.int .i64 1)), none, (some 16), false⟩])
                     (.seq (.ops [⟨.copy 88 (.tmp 12), none, (some 88), false⟩,
                        ⟨.copy 89 (.tmp 16), none, (some 89), false⟩,
                        ⟨.call (some 90) 30 sg30 [(.tmp 88), (.tmp 89)] [.none, .none], none, (some 90), false⟩,
                        ⟨.copy 16 (.tmp 90), none, (some 16), false⟩])
                      (.seq (.seq (.ops [⟨.copy 91 (.tmp 16), none, (some 91), false⟩,
                          ⟨.bin 92 .lss (.tmp 91) (.const (.int .i64 0)), none, (some 92), false⟩])
                        (.cond (.tmp 92)
                         (.seq (.ops [⟨.copy 6 (.const (.bool false)), none, (some 6), false⟩])
                          (.ret [(.tmp 6)] [.none]))
                         (.skip)))
                       (.seq (.seq (.ops [⟨.copy 93 (.tmp 16), none, (some 93), false⟩,
                           ⟨.copy 94 (.tmp 15), none, (some 94), false⟩,
                           ⟨.bin 95 .neq (.tmp 93) (.tmp 94), none, (some 95), false⟩])
                         (.cond (.tmp 95)
                          (.seq (.ops [⟨.copy 6 (.const (.bool false)), none, (some 6), false⟩])
                           (.ret [(.tmp 6)] [.none]))
                          (.skip)))
                        (.seq (.ops [⟨.copy 97 (.tmp 0), none, (some 97), false⟩,
                           ⟨.call (some 98) 21 sg21 [(.tmp 97)] [.none], none, (some 98), false⟩,
                           ⟨.copy 99 (.tmp 1), none, (some 99), false⟩,
                           ⟨.call (some 100) 22 sg22 [(.tmp 99)] [.none], none, (some 100), false⟩,
                           ⟨.copy 101 (.tmp 2), none, (some 101), false⟩,
                           ⟨.call (some 102) 51 sg51 [(.tmp 98), (.tmp 100), (.tmp 101)] [.none, .none, .none], none, (some 102), false⟩,
                           ⟨.copy 96 (.tmp 102), none, (some 96), false⟩,
                           ⟨.ext 103 96 0, none, (some 103), false⟩,
                           ⟨.ext 104 96 1, none, (some 104), false⟩,
                           ⟨.take 17 (.tmp 103) (.slot 103), none, (some 17), false⟩,
                           ⟨.copy 18 (.tmp 104), none, (some 18), false⟩])
                         (.seq (.seq (.ops [⟨.copy 105 (.tmp 17), none, (some 105), false⟩,
                             ⟨.copy 106 (.tmp 8), none, (some 106), false⟩,
                             ⟨.call (some 107) 25 sg25 [(.tmp 105), (.tmp 106)] [.none, .none], none, (some 107), false⟩,
                             ⟨.un 108 .not (.tmp 107), none, (some 108), false⟩,
                             ⟨.copy 109 (.tmp 108), none, (some 109), false⟩,
                             ⟨.copy 110 (.tmp 18), (some (109, false)), (some 110), true⟩,
                             ⟨.copy 111 (.tmp 9), (some (109, false)), (some 111), true⟩,
                             ⟨.beq 112 true (.tmp 110) (.tmp 111), (some (109, false)), (some 112), true⟩,
                             ⟨.pick 113 (.tmp 109) (.const (.bool true)) (.tmp 112), none, (some 113), false⟩])
                           (.cond (.tmp 113)
                            (.seq (.ops [⟨.copy 6 (.const (.bool false)), none, (some 6), false⟩])
                             (.ret [(.tmp 6)] [.none]))
                            (.skip)))
                          (.seq (.ops [⟨.copy 16 (.const (.int .i64 1)), none, (some 16), false⟩])
                           (.seq (.ops [⟨.copy 114 (.tmp 12), none, (some 114), false⟩,
                              ⟨.copy 115 (.tmp 16), none, (some 115), false⟩,
                              ⟨.call (some 116) 30 sg30 [(.tmp 114), (.tmp 115)] [.none, .none], none, (some 116), false⟩,
                              ⟨.copy 16 (.tmp 116), none, (some 16), false⟩])
                            (.seq (.seq (.ops [⟨.copy 117 (.tmp 16), none, (some 117), false⟩,
                                ⟨.bin 118 .lss (.tmp 117) (.const (.int .i64 0)), none, (some 118), false⟩])
                              (.cond (.tmp 118)
                               (.seq (.ops [⟨.copy 6 (.const (.bool false)), none, (some 6), false⟩])
                                (.ret [(.tmp 6)] [.none]))
                               (.skip)))
                             (.seq (.seq (.ops [⟨.copy 119 (.tmp 16), none, (some 119), false⟩,
                                 ⟨.copy 120 (.tmp 15), none, (some 120), false⟩,
                                 ⟨.bin 121 .neq (.tmp 119) (.tmp 120), none, (some 121), false⟩])
                               (.cond (.tmp 121)
                                (.seq (.ops [⟨.copy 6 (.const (.bool false)), none, (some 6), false⟩])
                                 (.ret [(.tmp 6)] [.none]))
                                (.skip)))
                              (.seq (.ops [⟨.copy 6 (.const (.bool true)), none, (some 6), false⟩])
                               (.ret [(.tmp 6)] [.none])))))))))))))))))))))))))))))
theorem k14 (r19 r21 r22 r50 r51 r25 r24 r28 r29 r30 : Rel) : compileFn (E14 r19 r21 r22 r50 r51 r25 r24 r28 r29 r30) Try.f14 sg14 hs14 = some c14 := by kernel_rfl
/- loop.example/g01334/spec.DepthsOf -/
noncomputable def l44 (r79 : Rel) : Deps := [(79, sg79, r79)]
noncomputable def E44 (r79 : Rel) : Env := mkE Try.prog [0, 1, 2, 3, 6, 7, 8, 9] [] (l44 r79) []
noncomputable def hs44 : HS := [[0, 2, 3, 4, 5, 7, 8, 9, 10, 11, 12, 13, 14, 17, 18, 19, 20, 21, 22, 23, 24, 25, 26, 27, 28, 29, 30, 31, 32, 33, 34, 35, 36], [0, 2, 3, 4, 5, 7, 10, 11, 12, 13, 14, 17, 18, 19, 20, 21, 22, 23, 24, 25, 26, 27, 28, 29, 30, 31, 32, 33, 34, 35, 36]]
noncomputable def c44 : Cmd :=
  .seq (.ops [⟨.copy 4 (.const (.slice none 0 0)), none, (some 4), false⟩,
     ⟨.copy 5 (.const (.bool false)), none, (some 5), false⟩])
   (.seq (.seq (.ops [⟨.copy 10 (.tmp 0), none, (some 10), false⟩,
       ⟨.copy 11 (.tmp 1), none, (some 11), false⟩,
       ⟨.call (some 12) 79 sg79 [(.tmp 10), (.tmp 11)] [.none, .none], none, (some 12), false⟩,
       ⟨.un 13 .not (.tmp 12), none, (some 13), false⟩])
     (.cond (.tmp 13)
      (.seq (.ops [⟨.copy 4 (.const (.slice none 0 0)), none, (some 4), false⟩,
         ⟨.copy 5 (.const (.bool false)), none, (some 5), false⟩])
       (.ret [(.tmp 4), (.tmp 5)] [.none, .none]))
      (.skip)))
    (.seq (.ops [⟨.copy 6 (.const (.slice none 0 0)), none, (some 6), false⟩])
     (.seq (.seq (.ops [⟨.copy 14 (.tmp 1), none, (some 14), false⟩,
         ⟨.len 15 false (.tmp 14), none, (some 15), false⟩,
         ⟨.copy 16 (.const (.int .i64 0)), none, (some 16), false⟩])
       (.block 0 (.loop [false, true, false, false, false, false, true, false, false, false, false, false, false, false, false, true, true, false, false, false, false, false, false, false, false, false, false, false, false, false, false, false, false, false, false, false, false]
         (.seq (.ops [⟨.bin 17 .lss (.tmp 16) (.tmp 15), none, (some 17), false⟩])
          (.seq (.cond (.tmp 17)
            (.skip)
            (.exit 0))
           (.seq (.block 1 (.seq (.ops [⟨.copy 18 (.tmp 16), none, (some 18), false⟩,
                ⟨.copy 7 (.tmp 18), none, (some 7), false⟩])
              (.seq (.ops [⟨.copy 8 (.const (.int .i64 0)), none, (some 8), false⟩])
               (.seq (.seq (.ops [⟨.copy 19 (.tmp 1), none, (some 19), false⟩,
                   ⟨.copy 20 (.tmp 7), none, (some 20), false⟩,
                   ⟨.iadd 21 19 3 (.tmp 20), none, (some 21), false⟩,
                   ⟨.loadE 22 19 21 none true, none, (some 22), false⟩,
                   ⟨.copy 9 (.tmp 22), none, (some 9), false⟩])
                 (.block 2 (.loop [false, true, false, false, false, false, true, false, true, true, false, false, false, false, false, true, true, false, false, false, false, false, false, false, false, false, false, false, false, false, false, false, false, false, false, false, false]
                   (.seq (.seq (.ops [⟨.copy 23 (.tmp 9), none, (some 23), false⟩,
                       ⟨.bin 24 .geq (.tmp 23) (.const (.int .i64 0)), none, (some 24), false⟩])
                     (.cond (.tmp 24)
                      (.skip)
                      (.exit 2)))
                    (.seq (.block 3 (.ops [⟨.copy 29 (.tmp 8), none, (some 29), false⟩,
                        ⟨.bin 30 .add (.tmp 29) (.const (.int .i64 1)), none, (some 30), false⟩,
                        ⟨.copy 8 (.tmp 30), none, (some 8), false⟩]))
                     (.ops [⟨.copy 25 (.tmp 1), none, (some 25), false⟩,
                       ⟨.copy 26 (.tmp 9), none, (some 26), false⟩,
                       ⟨.iadd 27 25 3 (.tmp 26), none, (some 27), false⟩,
                       ⟨.loadE 28 25 27 none true, none, (some 28), false⟩,
                       ⟨.copy 9 (.tmp 28), none, (some 9), false⟩]))))))
                (.ops [⟨.copy 31 (.tmp 6), none, (some 31), false⟩,
                  ⟨.copy 32 (.tmp 8), none, (some 32), false⟩,
                  ⟨.lit 33 3 1 [(.tmp 32)] [.none], none, (some 33), false⟩,
                  ⟨.app 34 3 8 true (.tmp 31) (.tmp 33) [(.slot 6), .none], none, (some 34), false⟩,
                  ⟨.take 6 (.tmp 34) (.slot 34), none, (some 6), false⟩])))))
            (.ops [⟨.bin 35 .add (.tmp 16) (.const (.int .i64 1)), none, (some 35), false⟩,
              ⟨.copy 16 (.tmp 35), none, (some 16), false⟩])))))))
      (.seq (.ops [⟨.copy 36 (.tmp 6), none, (some 36), false⟩,
         ⟨.copy 4 (.tmp 36), none, (some 4), false⟩,
         ⟨.copy 5 (.const (.bool true)), none, (some 5), false⟩])
       (.ret [(.tmp 4), (.tmp 5)] [(.slot 6), .none])))))
theorem k44 (r79 : Rel) : compileFn (E44 r79) Try.f44 sg44 hs44 = some c44 := by kernel_rfl
/- loop.example/g01334/impl.DepthsOf -/
noncomputable def l45 (r80 : Rel) : Deps := [(80, sg80, r80)]
noncomputable def E45 (r80 : Rel) : Env := mkE Try.prog [0, 1, 2, 3, 6, 7, 8] [] (l45 r80) []
noncomputable def hs45 : HS := [[0, 2, 3, 4, 5, 7, 8, 9, 10, 11, 12, 13, 14, 15, 16, 19, 20, 21, 22, 23, 24, 25, 26, 27, 28, 29, 30, 31, 32, 33, 34, 35, 36, 37, 38], [0, 2, 3, 4, 5, 9, 10, 11, 12, 13, 14, 15, 16, 19, 20, 21, 22, 23, 24, 25, 26, 27, 28, 29, 30, 31, 32, 33, 34, 35, 36, 37, 38]]
noncomputable def c45 : Cmd :=
  .seq (.ops [⟨.copy 4 (.const (.slice none 0 0)), none, (some 4), false⟩,
     ⟨.copy 5 (.const (.bool false)), none, (some 5), false⟩])
   (.seq (.seq (.ops [⟨.copy 9 (.tmp 0), none, (some 9), false⟩,
       ⟨.copy 10 (.tmp 1), none, (some 10), false⟩,
       ⟨.call (some 11) 80 sg80 [(.tmp 9), (.tmp 10)] [.none, .none], none, (some 11), false⟩,
       ⟨.un 12 .not (.tmp 11), none, (some 12), false⟩])
     (.cond (.tmp 12)
      (.seq (.ops [⟨.copy 4 (.const (.slice none 0 0)), none, (some 4), false⟩,
         ⟨.copy 5 (.const (.bool false)), none, (some 5), false⟩])
       (.ret [(.tmp 4), (.tmp 5)] [.none, .none]))
      (.skip)))
    (.seq (.ops [⟨.copy 13 (.tmp 1), none, (some 13), false⟩,
       ⟨.len 14 false (.tmp 13), none, (some 14), false⟩,
       ⟨.mks 15 3 8 (.int .i64 0) (.tmp 14) (.tmp 14), none, (some 15), false⟩,
       ⟨.take 6 (.tmp 15) (.slot 15), none, (some 6), false⟩])
     (.seq (.seq (.ops [⟨.copy 16 (.tmp 1), none, (some 16), false⟩,
         ⟨.len 17 false (.tmp 16), none, (some 17), false⟩,
         ⟨.copy 18 (.const (.int .i64 0)), none, (some 18), false⟩])
       (.block 0 (.loop [false, true, false, false, false, false, true, false, false, false, false, false, false, false, false, false, false, true, true, false, false, false, false, false, false, false, false, false, false, false, false, false, false, false, false, false, false, false, false]
         (.seq (.ops [⟨.bin 19 .lss (.tmp 18) (.tmp 17), none, (some 19), false⟩])
          (.seq (.cond (.tmp 19)
            (.skip)
            (.exit 0))
           (.seq (.block 1 (.seq (.ops [⟨.copy 20 (.tmp 18), none, (some 20), false⟩,
                ⟨.copy 7 (.tmp 20), none, (some 7), false⟩])
              (.seq (.ops [⟨.copy 21 (.tmp 1), none, (some 21), false⟩,
                 ⟨.copy 22 (.tmp 7), none, (some 22), false⟩,
                 ⟨.iadd 23 21 3 (.tmp 22), none, (some 23), false⟩,
                 ⟨.loadE 24 21 23 none true, none, (some 24), false⟩,
                 ⟨.copy 8 (.tmp 24), none, (some 8), false⟩])
               (.block 2 (.loop [false, true, false, false, false, false, true, true, true, false, false, false, false, false, false, false, false, true, true, false, false, false, false, false, false, false, false, false, false, false, false, false, false, false, false, false, false, false, false]
                 (.seq (.seq (.ops [⟨.copy 25 (.tmp 8), none, (some 25), false⟩,
                     ⟨.bin 26 .geq (.tmp 25) (.const (.int .i64 0)), none, (some 26), false⟩])
                   (.cond (.tmp 26)
                    (.skip)
                    (.exit 2)))
                  (.seq (.block 3 (.ops [⟨.copy 31 (.tmp 6), none, (some 31), false⟩,
                      ⟨.copy 32 (.tmp 7), none, (some 32), false⟩,
                      ⟨.iadd 33 31 3 (.tmp 32), none, (some 33), false⟩,
                      ⟨.loadE 34 31 33 none true, none, (some 34), false⟩,
                      ⟨.bin 35 .add (.tmp 34) (.const (.int .i64 1)), none, (some 35), false⟩,
                      ⟨.iadd 36 31 3 (.tmp 32), none, (some 36), false⟩,
                      ⟨.storeE 6 36 none (.tmp 35), none, none, false⟩]))
                   (.ops [⟨.copy 27 (.tmp 1), none, (some 27), false⟩,
                     ⟨.copy 28 (.tmp 8), none, (some 28), false⟩,
                     ⟨.iadd 29 27 3 (.tmp 28), none, (some 29), false⟩,
                     ⟨.loadE 30 27 29 none true, none, (some 30), false⟩,
                     ⟨.copy 8 (.tmp 30), none, (some 8), false⟩]))))))))
            (.ops [⟨.bin 37 .add (.tmp 18) (.const (.int .i64 1)), none, (some 37), false⟩,
              ⟨.copy 18 (.tmp 37), none, (some 18), false⟩])))))))
      (.seq (.ops [⟨.copy 38 (.tmp 6), none, (some 38), false⟩,
         ⟨.copy 4 (.tmp 38), none, (some 4), false⟩,
         ⟨.copy 5 (.const (.bool true)), none, (some 5), false⟩])
       (.ret [(.tmp 4), (.tmp 5)] [(.slot 6), .none])))))
theorem k45 (r80 : Rel) : compileFn (E45 r80) Try.f45 sg45 hs45 = some c45 := by kernel_rfl
/- loop.example/g01334/laws.FnExactDepthsOf -/
noncomputable def l11 (r19 r21 r22 r44 r45 r25 r24 r28 r29 r30 : Rel) : Deps := [(19, sg19, r19), (21, sg21, r21), (22, sg22, r22), (44, sg44, r44), (45, sg45, r45), (25, sg25, r25), (24, sg24, r24), (28, sg28, r28), (29, sg29, r29), (30, sg30, r30)]
noncomputable def E11 (r19 r21 r22 r44 r45 r25 r24 r28 r29 r30 : Rel) : Env := mkE Try.prog [0, 1, 2, 3, 5, 6, 7, 8, 9, 10, 11, 12, 13, 14, 15, 16] [] (l11 r19 r21 r22 r44 r45 r25 r24 r28 r29 r30) []
noncomputable def hs11 : HS := []
noncomputable def c11 : Cmd :=
  .seq (.ops [⟨.copy 4 (.const (.bool false)), none, (some 4), false⟩])
   (.seq (.seq (.ops [⟨.copy 17 (.tmp 1), none, (some 17), false⟩,
       ⟨.len 18 false (.tmp 17), none, (some 18), false⟩,
       ⟨.bin 19 .gtr (.tmp 18) (.const (.int .i64 1048576)), none, (some 19), false⟩])
     (.cond (.tmp 19)
      (.seq (.ops [⟨.copy 4 (.const (.bool true)), none, (some 4), false⟩])
       (.ret [(.tmp 4)] [.none]))
      (.skip)))
    (.seq (.ops [⟨.copy 5 (.const (.int .i64 1048576)), none, (some 5), false⟩])
     (.seq (.ops [⟨.copy 20 (.tmp 0), none, (some 20), false⟩,
        ⟨.copy 21 (.tmp 5), none, (some 21), false⟩,
        ⟨.call (some 22) 19 sg19 [(.tmp 20), (.tmp 21)] [.none, .none], none, (some 22), false⟩,
        ⟨.copy 5 (.tmp 22), none, (some 5), false⟩])
      (.seq (.seq (.ops [⟨.copy 23 (.tmp 5), none, (some 23), false⟩,
          ⟨.bin 24 .lss (.tmp 23) (.const (.int .i64 0)), none, (some 24), false⟩])
        (.cond (.tmp 24)
         (.seq (.ops [⟨.copy 4 (.const (.bool true)), none, (some 4), false⟩])
          (.ret [(.tmp 4)] [.none]))
         (.skip)))
       (.seq (.ops [⟨.copy 26 (.tmp 0), none, (some 26), false⟩,
          ⟨.call (some 27) 21 sg21 [(.tmp 26)] [.none], none, (some 27), false⟩,
          ⟨.copy 28 (.tmp 1), none, (some 28), false⟩,
          ⟨.call (some 29) 22 sg22 [(.tmp 28)] [.none], none, (some 29), false⟩,
          ⟨.call (some 30) 44 sg44 [(.tmp 27), (.tmp 29)] [.none, .none], none, (some 30), false⟩,
          ⟨.copy 25 (.tmp 30), none, (some 25), false⟩,
          ⟨.ext 31 25 0, none, (some 31), false⟩,
          ⟨.ext 32 25 1, none, (some 32), false⟩,
          ⟨.take 6 (.tmp 31) (.slot 31), none, (some 6), false⟩,
          ⟨.copy 7 (.tmp 32), none, (some 7), false⟩])
        (.seq (.ops [⟨.copy 33 (.tmp 0), none, (some 33), false⟩,
           ⟨.call (some 34) 21 sg21 [(.tmp 33)] [.none], none, (some 34), false⟩,
           ⟨.take 8 (.tmp 34) (.slot 34), none, (some 8), false⟩])
         (.seq (.ops [⟨.copy 35 (.tmp 1), none, (some 35), false⟩,
            ⟨.call (some 36) 22 sg22 [(.tmp 35)] [.none], none, (some 36), false⟩,
            ⟨.take 9 (.tmp 36) (.slot 36), none, (some 9), false⟩])
          (.seq (.ops [⟨.copy 38 (.tmp 8), none, (some 38), false⟩,
             ⟨.copy 39 (.tmp 9), none, (some 39), false⟩,
             ⟨.call (some 40) 45 sg45 [(.tmp 38), (.tmp 39)] [.none, .none], none, (some 40), false⟩,
             ⟨.copy 37 (.tmp 40), none, (some 37), false⟩,
             ⟨.ext 41 37 0, none, (some 41), false⟩,
             ⟨.ext 42 37 1, none, (some 42), false⟩,
             ⟨.take 10 (.tmp 41) (.slot 41), none, (some 10), false⟩,
             ⟨.copy 11 (.tmp 42), none, (some 11), false⟩])
           (.seq (.seq (.ops [⟨.copy 43 (.tmp 10), none, (some 43), false⟩,
               ⟨.copy 44 (.tmp 6), none, (some 44), false⟩,
               ⟨.call (some 45) 25 sg25 [(.tmp 43), (.tmp 44)] [.none, .none], none, (some 45), false⟩,
               ⟨.un 46 .not (.tmp 45), none, (some 46), false⟩,
               ⟨.copy 47 (.tmp 46), none, (some 47), false⟩,
               ⟨.copy 48 (.tmp 11), (some (47, false)), (some 48), true⟩,
               ⟨.copy 49 (.tmp 7), (some (47, false)), (some 49), true⟩,
               ⟨.beq 50 true (.tmp 48) (.tmp 49), (some (47, false)), (some 50), true⟩,
               ⟨.pick 51 (.tmp 47) (.const (.bool true)) (.tmp 50), none, (some 51), false⟩])
             (.cond (.tmp 51)
              (.seq (.ops [⟨.copy 4 (.const (.bool false)), none, (some 4), false⟩])
               (.ret [(.tmp 4)] [.none]))
              (.skip)))
            (.seq (.seq (.ops [⟨.copy 52 (.tmp 8), none, (some 52), false⟩,
                ⟨.copy 53 (.tmp 0), none, (some 53), false⟩,
                ⟨.call (some 54) 21 sg21 [(.tmp 53)] [.none], none, (some 54), false⟩,
                ⟨.call (some 55) 24 sg24 [(.tmp 52), (.tmp 54)] [.none, .none], none, (some 55), false⟩,
                ⟨.un 56 .not (.tmp 55), none, (some 56), false⟩])
              (.cond (.tmp 56)
               (.seq (.ops [⟨.copy 4 (.const (.bool false)), none, (some 4), false⟩])
                (.ret [(.tmp 4)] [.none]))
               (.skip)))
             (.seq (.seq (.ops [⟨.copy 57 (.tmp 9), none, (some 57), false⟩,
                 ⟨.copy 58 (.tmp 1), none, (some 58), false⟩,
                 ⟨.call (some 59) 22 sg22 [(.tmp 58)] [.none], none, (some 59), false⟩,
                 ⟨.call (some 60) 25 sg25 [(.tmp 57), (.tmp 59)] [.none, .none], none, (some 60), false⟩,
                 ⟨.un 61 .not (.tmp 60), none, (some 61), false⟩])
               (.cond (.tmp 61)
                (.seq (.ops [⟨.copy 4 (.const (.bool false)), none, (some 4), false⟩])
                 (.ret [(.tmp 4)] [.none]))
                (.skip)))
              (.seq (.ops [⟨.copy 12 (.const (.int .i64 1)), none, (some 12), false⟩])
               (.seq (.ops [⟨.copy 62 (.tmp 8), none, (some 62), false⟩,
                  ⟨.copy 63 (.tmp 12), none, (some 63), false⟩,
                  ⟨.callm 64 28 sg28 (.tmp 62) [(.tmp 63)] (.slot 8), none, (some 64), false⟩,
                  ⟨.copy 12 (.tmp 64), none, (some 12), false⟩])
                (.seq (.ops [⟨.copy 65 (.tmp 9), none, (some 65), false⟩,
                   ⟨.copy 66 (.tmp 12), none, (some 66), false⟩,
                   ⟨.callm 67 29 sg29 (.tmp 65) [(.tmp 66)] (.slot 9), none, (some 67), false⟩,
                   ⟨.copy 12 (.tmp 67), none, (some 12), false⟩])
                 (.seq (.seq (.ops [⟨.copy 68 (.tmp 12), none, (some 68), false⟩,
                     ⟨.bin 69 .lss (.tmp 68) (.const (.int .i64 0)), none, (some 69), false⟩,
                     ⟨.copy 70 (.tmp 69), none, (some 70), false⟩,
                     ⟨.copy 71 (.tmp 10), (some (70, false)), (some 71), false⟩,
                     ⟨.copy 72 (.tmp 6), (some (70, false)), (some 72), false⟩,
                     ⟨.call (some 73) 25 sg25 [(.tmp 71), (.tmp 72)] [.none, .none], (some (70, false)), (some 73), true⟩,
                     ⟨.un 74 .not (.tmp 73), (some (70, false)), (some 74), true⟩,
                     ⟨.pick 75 (.tmp 70) (.const (.bool true)) (.tmp 74), none, (some 75), false⟩,
                     ⟨.copy 76 (.tmp 75), none, (some 76), false⟩,
                     ⟨.copy 77 (.tmp 11), (some (76, false)), (some 77), true⟩,
                     ⟨.copy 78 (.tmp 7), (some (76, false)), (some 78), true⟩,
                     ⟨.beq 79 true (.tmp 77) (.tmp 78), (some (76, false)), (some 79), true⟩,
                     ⟨.pick 80 (.tmp 76) (.const (.bool true)) (.tmp 79), none, (some 80), false⟩])
                   (.cond (.tmp 80)
                    (.seq (.ops [⟨.copy 4 (.const (.bool false)), none, (some 4), false⟩])
                     (.ret [(.tmp 4)] [.none]))
                    (.skip)))
                  (.seq (.ops [⟨.copy 13 (.const (.int .i64 1)), none, (some 13), false⟩])
                   (.seq (.ops [⟨.copy 81 (.tmp 10), none, (some 81), false⟩,
                      ⟨.copy 82 (.tmp 13), none, (some 82), false⟩,
                      ⟨.callm 83 29 sg29 (.tmp 81) [(.tmp 82)] (.slot 10), none, (some 83), false⟩,
                      ⟨.copy 13 (.tmp 83), none, (some 13), false⟩])
                    (.seq (.ops [⟨.copy 14 (.const (.int .i64 1)), none, (some 14), false⟩])
                     (.seq (.ops [⟨.copy 84 (.tmp 10), none, (some 84), false⟩,
                        ⟨.copy 85 (.tmp 14), none, (some 85), false⟩,
                        ⟨.call (some 86) 30 sg30 [(.tmp 84), (.tmp 85)] [.none, .none], none, (some 86), false⟩,
                        ⟨.copy 14 (.tmp 86), none, (some 14), false⟩])
                      (.seq (.seq (.ops [⟨.copy 87 (.tmp 14), none, (some 87), false⟩,
                          ⟨.bin 88 .lss (.tmp 87) (.const (.int .i64 0)), none, (some 88), false⟩])
                        (.cond (.tmp 88)
                         (.seq (.ops [⟨.copy 4 (.const (.bool false)), none, (some 4), false⟩])
                          (.ret [(.tmp 4)] [.none]))
                         (.skip)))
                       (.seq (.seq (.ops [⟨.copy 89 (.tmp 14), none, (some 89), false⟩,
                           ⟨.copy 90 (.tmp 13), none, (some 90), false⟩,
                           ⟨.bin 91 .neq (.tmp 89) (.tmp 90), none, (some 91), false⟩])
                         (.cond (.tmp 91)
                          (.seq (.ops [⟨.copy 4 (.const (.bool false)), none, (some 4), false⟩])
                           (.ret [(.tmp 4)] [.none]))
                          (.skip)))
                        (.seq (.ops [⟨.copy 93 (.tmp 0), none, (some 93), false⟩,
                           ⟨.call (some 94) 21 sg21 [(.tmp 93)] [.none], none, (some 94), false⟩,
                           ⟨.copy 95 (.tmp 1), none, (some 95), false⟩,
                           ⟨.call (some 96) 22 sg22 [(.tmp 95)] [.none], none, (some 96), false⟩,
                           ⟨.call (some 97) 45 sg45 [(.tmp 94), (.tmp 96)] [.none, .none], none, (some 97), false⟩,
                           ⟨.copy 92 (.tmp 97), none, (some 92), false⟩,
                           ⟨.ext 98 92 0, none, (some 98), false⟩,
                           ⟨.ext 99 92 1, none, (some 99), false⟩,
                           ⟨.take 15 (.tmp 98) (.slot 98), none, (some 15), false⟩,
                           ⟨.copy 16 (.tmp 99), none, (some 16), false⟩])
                         (.seq (.seq (.ops [⟨.copy 100 (.tmp 15), none, (some 100), false⟩,
                             ⟨.copy 101 (.tmp 6), none, (some 101), false⟩,
                             ⟨.call (some 102) 25 sg25 [(.tmp 100), (.tmp 101)] [.none, .none], none, (some 102), false⟩,
                             ⟨.un 103 .not (.tmp 102), none, (some 103), false⟩,
                             ⟨.copy 104 (.tmp 103), none, (some 104), false⟩,
                             ⟨.copy 105 (.tmp 16), (some (104, false)), (some 105), true⟩,
                             ⟨.copy 106 (.tmp 7), (some (104, false)), (some 106), true⟩,
                             ⟨.beq 107 true (.tmp 105) (.tmp 106), (some (104, false)), (some 107), true⟩,
                             ⟨.pick 108 (.tmp 104) (.const (.bool true)) (.tmp 107), none, (some 108), false⟩])
                           (.cond (.tmp 108)
                            (.seq (.ops [⟨.copy 4 (.const (.bool false)), none, (some 4), false⟩])
                             (.ret [(.tmp 4)] [.none]))
                            (.skip)))
                          (.seq (.ops [⟨.copy 14 (.const (.int .i64 1)), none, (some 14), false⟩])
                           (.seq (.ops [⟨.copy 109 (.tmp 10), none, (some 109), false⟩,
                              ⟨.copy 110 (.tmp 14), none, (some 110), false⟩,
                              ⟨.call (some 111) 30 sg30 [(.tmp 109), (.tmp 110)] [.none, .none], none, (some 111), false⟩,
                              ⟨.copy 14 (.tmp 111), none, (some 14), false⟩])
                            (.seq (.seq (.ops [⟨.copy 112 (.tmp 14), none, (some 112), false⟩,
                                ⟨.bin 113 .lss (.tmp 112) (.const (.int .i64 0)), none, (some 113), false⟩])
                              (.cond (.tmp 113)
                               (.seq (.ops [⟨.copy 4 (.const (.bool false)), none, (some 4), false⟩])
                                (.ret [(.tmp 4)] [.none]))
                               (.skip)))
                             (.seq (.seq (.ops [⟨.copy 114 (.tmp 14), none, (some 114), false⟩,
                                 ⟨.copy 115 (.tmp 13), none, (some 115), false⟩,
                                 ⟨.bin 116 .neq (.tmp 114) (.tmp 115), none, (some 116), false⟩])
                               (.cond (.tmp 116)
                                (.seq (.ops [⟨.copy 4 (.const (.bool false)), none, (some 4), false⟩])
                                 (.ret [(.tmp 4)] [.none]))
                                (.skip)))
                              (.seq (.ops [⟨.copy 4 (.const (.bool true)), none, (some 4), false⟩])
                               (.ret [(.tmp 4)] [.none])))))))))))))))))))))))))))))
theorem k11 (r19 r21 r22 r44 r45 r25 r24 r28 r29 r30 : Rel) : compileFn (E11 r19 r21 r22 r44 r45 r25 r24 r28 r29 r30) Try.f11 sg11 hs11 = some c11 := by kernel_rfl
/- loop.example/g01334/spec.ContentsOf -/
noncomputable def l46 (r79 r81 r82 : Rel) : Deps := [(79, sg79, r79), (81, sg81, r81), (82, sg82, r82)]
noncomputable def E46 (r79 r81 r82 : Rel) : Env := mkE Try.prog [0, 1, 2, 3, 4, 5, 8, 9] [] (l46 r79 r81 r82) []
noncomputable def hs46 : HS := [[0, 2, 3, 4, 5, 6, 7, 10, 11, 12, 13, 14, 15, 16, 17, 18, 19, 20, 21, 22, 23, 24, 25, 26, 27, 28, 29, 30, 31, 32, 33, 34]]
noncomputable def c46 : Cmd :=
  .seq (.ops [⟨.copy 6 (.const (.slice none 0 0)), none, (some 6), false⟩,
     ⟨.copy 7 (.const (.bool false)), none, (some 7), false⟩])
   (.seq (.seq (.ops [⟨.copy 10 (.tmp 0), none, (some 10), false⟩,
       ⟨.copy 11 (.tmp 1), none, (some 11), false⟩,
       ⟨.call (some 12) 79 sg79 [(.tmp 10), (.tmp 11)] [.none, .none], none, (some 12), false⟩,
       ⟨.un 13 .not (.tmp 12), none, (some 13), false⟩,
       ⟨.copy 14 (.tmp 13), none, (some 14), false⟩,
       ⟨.copy 15 (.tmp 2), (some (14, false)), (some 15), true⟩,
       ⟨.copy 16 (.tmp 0), (some (14, false)), (some 16), false⟩,
       ⟨.len 17 false (.tmp 16), (some (14, false)), (some 17), true⟩,
       ⟨.bin 18 .sub (.tmp 17) (.const (.int .i64 1)), (some (14, false)), (some 18), true⟩,
       ⟨.call (some 19) 81 sg81 [(.tmp 15), (.const (.int .i64 0)), (.tmp 18)] [.none, .none, .none], (some (14, false)), (some 19), true⟩,
       ⟨.un 20 .not (.tmp 19), (some (14, false)), (some 20), true⟩,
       ⟨.pick 21 (.tmp 14) (.const (.bool true)) (.tmp 20), none, (some 21), false⟩])
     (.cond (.tmp 21)
      (.seq (.ops [⟨.copy 6 (.const (.slice none 0 0)), none, (some 6), false⟩,
         ⟨.copy 7 (.const (.bool false)), none, (some 7), false⟩])
       (.ret [(.tmp 6), (.tmp 7)] [.none, .none]))
      (.skip)))
    (.seq (.ops [⟨.copy 8 (.const (.slice none 0 0)), none, (some 8), false⟩])
     (.seq (.seq (.ops [⟨.copy 22 (.tmp 1), none, (some 22), false⟩,
         ⟨.copy 23 (.tmp 2), none, (some 23), false⟩,
         ⟨.call (some 24) 82 sg82 [(.tmp 22), (.tmp 23)] [.none, .none], none, (some 24), false⟩,
         ⟨.copy 9 (.tmp 24), none, (some 9), false⟩])
       (.block 0 (.loop [false, true, false, false, false, false, false, false, true, true, false, false, false, false, false, false, false, false, false, false, false, false, false, false, false, false, false, false, false, false, false, false, false, false, false]
         (.seq (.seq (.ops [⟨.copy 25 (.tmp 9), none, (some 25), false⟩,
             ⟨.bin 26 .geq (.tmp 25) (.const (.int .i64 0)), none, (some 26), false⟩])
           (.cond (.tmp 26)
            (.skip)
            (.exit 0)))
          (.seq (.block 1 (.ops [⟨.copy 30 (.tmp 8), none, (some 30), false⟩,
              ⟨.copy 31 (.tmp 9), none, (some 31), false⟩,
              ⟨.lit 32 3 1 [(.tmp 31)] [.none], none, (some 32), false⟩,
              ⟨.app 33 3 8 true (.tmp 30) (.tmp 32) [(.slot 8), .none], none, (some 33), false⟩,
              ⟨.take 8 (.tmp 33) (.slot 33), none, (some 8), false⟩]))
           (.ops [⟨.copy 27 (.tmp 1), none, (some 27), false⟩,
             ⟨.copy 28 (.tmp 9), none, (some 28), false⟩,
             ⟨.call (some 29) 82 sg82 [(.tmp 27), (.tmp 28)] [.none, .none], none, (some 29), false⟩,
             ⟨.copy 9 (.tmp 29), none, (some 9), false⟩]))))))
      (.seq (.ops [⟨.copy 34 (.tmp 8), none, (some 34), false⟩,
         ⟨.copy 6 (.tmp 34), none, (some 6), false⟩,
         ⟨.copy 7 (.const (.bool true)), none, (some 7), false⟩])
       (.ret [(.tmp 6), (.tmp 7)] [(.slot 8), .none])))))
theorem k46 (r79 r81 r82 : Rel) : compileFn (E46 r79 r81 r82) Try.f46 sg46 hs46 = some c46 := by kernel_rfl
/- loop.example/g01334/impl.ContentsOf -/
noncomputable def l47 (r80 r83 r84 : Rel) : Deps := [(80, sg80, r80), (83, sg83, r83), (84, sg84, r84)]
noncomputable def E47 (r80 r83 r84 : Rel) : Env := mkE Try.prog [0, 1, 2, 3, 4, 5, 8] [] (l47 r80 r83 r84) []
noncomputable def hs47 : HS := [[0, 3, 4, 5, 6, 7, 9, 10, 11, 12, 13, 14, 15, 16, 17, 18, 19, 20, 21, 22, 23, 24, 25, 26, 27, 28, 29, 30, 31, 32, 33, 34]]
noncomputable def c47 : Cmd :=
  .seq (.ops [⟨.copy 6 (.const (.slice none 0 0)), none, (some 6), false⟩,
     ⟨.copy 7 (.const (.bool false)), none, (some 7), false⟩])
   (.seq (.seq (.ops [⟨.copy 9 (.tmp 0), none, (some 9), false⟩,
       ⟨.copy 10 (.tmp 1), none, (some 10), false⟩,
       ⟨.call (some 11) 80 sg80 [(.tmp 9), (.tmp 10)] [.none, .none], none, (some 11), false⟩,
       ⟨.un 12 .not (.tmp 11), none, (some 12), false⟩,
       ⟨.copy 13 (.tmp 12), none, (some 13), false⟩,
       ⟨.copy 14 (.tmp 2), (some (13, false)), (some 14), true⟩,
       ⟨.copy 15 (.tmp 0), (some (13, false)), (some 15), false⟩,
       ⟨.len 16 false (.tmp 15), (some (13, false)), (some 16), true⟩,
       ⟨.bin 17 .sub (.tmp 16) (.const (.int .i64 1)), (some (13, false)), (some 17), true⟩,
       ⟨.call (some 18) 83 sg83 [(.tmp 14), (.const (.int .i64 0)), (.tmp 17)] [.none, .none, .none], (some (13, false)), (some 18), true⟩,
       ⟨.un 19 .not (.tmp 18), (some (13, false)), (some 19), true⟩,
       ⟨.pick 20 (.tmp 13) (.const (.bool true)) (.tmp 19), none, (some 20), false⟩])
     (.cond (.tmp 20)
      (.seq (.ops [⟨.copy 6 (.const (.slice none 0 0)), none, (some 6), false⟩,
         ⟨.copy 7 (.const (.bool false)), none, (some 7), false⟩])
       (.ret [(.tmp 6), (.tmp 7)] [.none, .none]))
      (.skip)))
    (.seq (.ops [⟨.lit 21 3 1 [] [], none, (some 21), false⟩,
       ⟨.take 8 (.tmp 21) (.slot 21), none, (some 8), false⟩])
     (.seq (.seq (.ops [⟨.copy 22 (.tmp 1), none, (some 22), false⟩,
         ⟨.copy 23 (.tmp 2), none, (some 23), false⟩,
         ⟨.call (some 24) 84 sg84 [(.tmp 22), (.tmp 23)] [.none, .none], none, (some 24), false⟩,
         ⟨.copy 2 (.tmp 24), none, (some 2), false⟩])
       (.block 0 (.loop [false, true, true, false, false, false, false, false, true, false, false, false, false, false, false, false, false, false, false, false, false, false, false, false, false, false, false, false, false, false, false, false, false, false, false]
         (.seq (.seq (.ops [⟨.copy 25 (.tmp 2), none, (some 25), false⟩,
             ⟨.bin 26 .geq (.tmp 25) (.const (.int .i64 0)), none, (some 26), false⟩])
           (.cond (.tmp 26)
            (.skip)
            (.exit 0)))
          (.seq (.block 1 (.ops [⟨.copy 30 (.tmp 8), none, (some 30), false⟩,
              ⟨.copy 31 (.tmp 2), none, (some 31), false⟩,
              ⟨.lit 32 3 1 [(.tmp 31)] [.none], none, (some 32), false⟩,
              ⟨.app 33 3 8 true (.tmp 30) (.tmp 32) [(.slot 8), .none], none, (some 33), false⟩,
              ⟨.take 8 (.tmp 33) (.slot 33), none, (some 8), false⟩]))
           (.ops [⟨.copy 27 (.tmp 1), none, (some 27), false⟩,
             ⟨.copy 28 (.tmp 2), none, (some 28), false⟩,
             ⟨.call (some 29) 84 sg84 [(.tmp 27), (.tmp 28)] [.none, .none], none, (some 29), false⟩,
             ⟨.copy 2 (.tmp 29), none, (some 2), false⟩]))))))
      (.seq (.ops [⟨.copy 34 (.tmp 8), none, (some 34), false⟩,
         ⟨.copy 6 (.tmp 34), none, (some 6), false⟩,
         ⟨.copy 7 (.const (.bool true)), none, (some 7), false⟩])
       (.ret [(.tmp 6), (.tmp 7)] [(.slot 8), .none])))))
theorem k47 (r80 r83 r84 : Rel) : compileFn (E47 r80 r83 r84) Try.f47 sg47 hs47 = some c47 := by kernel_rfl
/- loop.example/g01334/laws.FnExactContentsOf -/
noncomputable def l12 (r19 r21 r22 r46 r47 r25 r24 r28 r29 r30 : Rel) : Deps := [(19, sg19, r19), (21, sg21, r21), (22, sg22, r22), (46, sg46, r46), (47, sg47, r47), (25, sg25, r25), (24, sg24, r24), (28, sg28, r28), (29, sg29, r29), (30, sg30, r30)]
noncomputable def E12 (r19 r21 r22 r46 r47 r25 r24 r28 r29 r30 : Rel) : Env := mkE Try.prog [0, 1, 2, 3, 4, 5, 7, 8, 9, 10, 11, 12, 13, 14, 15, 16, 17, 18] [] (l12 r19 r21 r22 r46 r47 r25 r24 r28 r29 r30) []
noncomputable def hs12 : HS := []
noncomputable def c12 : Cmd :=
  .seq (.ops [⟨.copy 6 (.const (.bool false)), none, (some 6), false⟩])
   (.seq (.seq (.ops [⟨.copy 19 (.tmp 1), none, (some 19), false⟩,
       ⟨.len 20 false (.tmp 19), none, (some 20), false⟩,
       ⟨.bin 21 .gtr (.tmp 20) (.const (.int .i64 1048576)), none, (some 21), false⟩])
     (.cond (.tmp 21)
      (.seq (.ops [⟨.copy 6 (.const (.bool true)), none, (some 6), false⟩])
       (.ret [(.tmp 6)] [.none]))
      (.skip)))
    (.seq (.ops [⟨.copy 7 (.const (.int .i64 1048576)), none, (some 7), false⟩])
     (.seq (.ops [⟨.copy 22 (.tmp 0), none, (some 22), false⟩,
        ⟨.copy 23 (.tmp 7), none, (some 23), false⟩,
        ⟨.call (some 24) 19 sg19 [(.tmp 22), (.tmp 23)] [.none, .none], none, (some 24), false⟩,
        ⟨.copy 7 (.tmp 24), none, (some 7), false⟩])
      (.seq (.seq (.ops [⟨.copy 25 (.tmp 7), none, (some 25), false⟩,
          ⟨.bin 26 .lss (.tmp 25) (.const (.int .i64 0)), none, (some 26), false⟩])
        (.cond (.tmp 26)
         (.seq (.ops [⟨.copy 6 (.const (.bool true)), none, (some 6), false⟩])
          (.ret [(.tmp 6)] [.none]))
         (.skip)))
       (.seq (.ops [⟨.copy 28 (.tmp 0), none, (some 28), false⟩,
          ⟨.call (some 29) 21 sg21 [(.tmp 28)] [.none], none, (some 29), false⟩,
          ⟨.copy 30 (.tmp 1), none, (some 30), false⟩,
          ⟨.call (some 31) 22 sg22 [(.tmp 30)] [.none], none, (some 31), false⟩,
          ⟨.copy 32 (.tmp 2), none, (some 32), false⟩,
          ⟨.call (some 33) 46 sg46 [(.tmp 29), (.tmp 31), (.tmp 32)] [.none, .none, .none], none, (some 33), false⟩,
          ⟨.copy 27 (.tmp 33), none, (some 27), false⟩,
          ⟨.ext 34 27 0, none, (some 34), false⟩,
          ⟨.ext 35 27 1, none, (some 35), false⟩,
          ⟨.take 8 (.tmp 34) (.slot 34), none, (some 8), false⟩,
          ⟨.copy 9 (.tmp 35), none, (some 9), false⟩])
        (.seq (.ops [⟨.copy 36 (.tmp 0), none, (some 36), false⟩,
           ⟨.call (some 37) 21 sg21 [(.tmp 36)] [.none], none, (some 37), false⟩,
           ⟨.take 10 (.tmp 37) (.slot 37), none, (some 10), false⟩])
         (.seq (.ops [⟨.copy 38 (.tmp 1), none, (some 38), false⟩,
            ⟨.call (some 39) 22 sg22 [(.tmp 38)] [.none], none, (some 39), false⟩,
            ⟨.take 11 (.tmp 39) (.slot 39), none, (some 11), false⟩])
          (.seq (.ops [⟨.copy 41 (.tmp 10), none, (some 41), false⟩,
             ⟨.copy 42 (.tmp 11), none, (some 42), false⟩,
             ⟨.copy 43 (.tmp 2), none, (some 43), false⟩,
             ⟨.call (some 44) 47 sg47 [(.tmp 41), (.tmp 42), (.tmp 43)] [.none, .none, .none], none, (some 44), false⟩,
             ⟨.copy 40 (.tmp 44), none, (some 40), false⟩,
             ⟨.ext 45 40 0, none, (some 45), false⟩,
             ⟨.ext 46 40 1, none, (some 46), false⟩,
             ⟨.take 12 (.tmp 45) (.slot 45), none, (some 12), false⟩,
             ⟨.copy 13 (.tmp 46), none, (some 13), false⟩])
           (.seq (.seq (.ops [⟨.copy 47 (.tmp 12), none, (some 47), false⟩,
               ⟨.copy 48 (.tmp 8), none, (some 48), false⟩,
               ⟨.call (some 49) 25 sg25 [(.tmp 47), (.tmp 48)] [.none, .none], none, (some 49), false⟩,
               ⟨.un 50 .not (.tmp 49), none, (some 50), false⟩,
               ⟨.copy 51 (.tmp 50), none, (some 51), false⟩,
               ⟨.copy 52 (.tmp 13), (some (51, false)), (some 52), true⟩,
               ⟨.copy 53 (.tmp 9), (some (51, false)), (some 53), true⟩,
               ⟨.beq 54 true (.tmp 52) (.tmp 53), (some (51, false)), (some 54), true⟩,
               ⟨.pick 55 (.tmp 51) (.const (.bool true)) (.tmp 54), none, (some 55), false⟩])
             (.cond (.tmp 55)
              (.seq (.ops [⟨.copy 6 (.const (.bool false)), none, (some 6), false⟩])
               (.ret [(.tmp 6)] [.none]))
              (.skip)))
            (.seq (.seq (.ops [⟨.copy 56 (.tmp 10), none, (some 56), false⟩,
                ⟨.copy 57 (.tmp 0), none, (some 57), false⟩,
                ⟨.call (some 58) 21 sg21 [(.tmp 57)] [.none], none, (some 58), false⟩,
                ⟨.call (some 59) 24 sg24 [(.tmp 56), (.tmp 58)] [.none, .none], none, (some 59), false⟩,
                ⟨.un 60 .not (.tmp 59), none, (some 60), false⟩])
              (.cond (.tmp 60)
               (.seq (.ops [⟨.copy 6 (.const (.bool false)), none, (some 6), false⟩])
                (.ret [(.tmp 6)] [.none]))
               (.skip)))
             (.seq (.seq (.ops [⟨.copy 61 (.tmp 11), none, (some 61), false⟩,
                 ⟨.copy 62 (.tmp 1), none, (some 62), false⟩,
                 ⟨.call (some 63) 22 sg22 [(.tmp 62)] [.none], none, (some 63), false⟩,
                 ⟨.call (some 64) 25 sg25 [(.tmp 61), (.tmp 63)] [.none, .none], none, (some 64), false⟩,
                 ⟨.un 65 .not (.tmp 64), none, (some 65), false⟩])
               (.cond (.tmp 65)
                (.seq (.ops [⟨.copy 6 (.const (.bool false)), none, (some 6), false⟩])
                 (.ret [(.tmp 6)] [.none]))
                (.skip)))
              (.seq (.ops [⟨.copy 14 (.const (.int .i64 1)), none, (some 14), false⟩])
               (.seq (.ops [⟨.copy 66 (.tmp 10), none, (some 66), false⟩,
                  ⟨.copy 67 (.tmp 14), none, (some 67), false⟩,
                  ⟨.callm 68 28 sg28 (.tmp 66) [(.tmp 67)] (.slot 10), none, (some 68), false⟩,
                  ⟨.copy 14 (.tmp 68), none, (some 14), false⟩])
                (.seq (.ops [⟨.copy 69 (.tmp 11), none, (some 69), false⟩,
                   ⟨.copy 70 (.tmp 14), none, (some 70), false⟩,
                   ⟨.callm 71 29 sg29 (.tmp 69) [(.tmp 70)] (.slot 11), none, (some 71), false⟩,
                   ⟨.copy 14 (.tmp 71), none, (some 14), false⟩])
                 (.seq (.seq (.ops [⟨.copy 72 (.tmp 14), none, (some 72), false⟩,
                     ⟨.bin 73 .lss (.tmp 72) (.const (.int .i64 0)), none, (some 73), false⟩,
                     ⟨.copy 74 (.tmp 73), none, (some 74), false⟩,
                     ⟨.copy 75 (.tmp 12), (some (74, false)), (some 75), false⟩,
                     ⟨.copy 76 (.tmp 8), (some (74, false)), (some 76), false⟩,
                     ⟨.call (some 77) 25 sg25 [(.tmp 75), (.tmp 76)] [.none, .none], (some (74, false)), (some 77), true⟩,
                     ⟨.un 78 .not (.tmp 77), (some (74, false)), (some 78), true⟩,
                     ⟨.pick 79 (.tmp 74) (.const (.bool true)) (.tmp 78), none, (some 79), false⟩,
                     ⟨.copy 80 (.tmp 79), none, (some 80), false⟩,
                     ⟨.copy 81 (.tmp 13), (some (80, false)), (some 81), true⟩,
                     ⟨.copy 82 (.tmp 9), (some (80, false)), (some 82), true⟩,
                     ⟨.beq 83 true (.tmp 81) (.tmp 82), (some (80, false)), (some 83), true⟩,
                     ⟨.pick 84 (.tmp 80) (.const (.bool true)) (.tmp 83), none, (some 84), false⟩])
                   (.cond (.tmp 84)
                    (.seq (.ops [⟨.copy 6 (.const (.bool false)), none, (some 6), false⟩])
                     (.ret [(.tmp 6)] [.none]))
                    (.skip)))
                  (.seq (.ops [⟨.copy 15 (.const (.int .i64 1)), none, (some 15), false⟩])
                   (.seq (.ops [⟨.copy 85 (.tmp 12), none, (some 85), false⟩,
                      ⟨.copy 86 (.tmp 15), none, (some 86), false⟩,
                      ⟨.callm 87 29 sg29 (.tmp 85) [(.tmp 86)] (.slot 12), none, (some 87), false⟩,
                      ⟨.copy 15 (.tmp 87), none, (some 15), false⟩])
                    (.seq (.ops [⟨.copy 16 (.const (.int .i64 1)), none, (some 16), false⟩])
                     (.seq (.ops [⟨.copy 88 (.tmp 12), none, (some 88), false⟩,
                        ⟨.copy 89 (.tmp 16), none, (some 89), false⟩,
                        ⟨.call (some 90) 30 sg30 [(.tmp 88), (.tmp 89)] [.none, .none], none, (some 90), false⟩,
                        ⟨.copy 16 (.tmp 90), none, (some 16), false⟩])
                      (.seq (.seq (.ops [⟨.copy 91 (.tmp 16), none, (some 91), false⟩,
                          ⟨.bin 92 .lss (.tmp 91) (.const (.int .i64 0)), none, (some 92), false⟩])
                        (.cond (.tmp 92)
                         (.seq (.ops [⟨.copy 6 (.const (.bool false)), none, (some 6), false⟩])
                          (.ret [(.tmp 6)] [.none]))
                         (.skip)))
                       (.seq (.seq (.ops [⟨.copy 93 (.tmp 16), none, (some 93), false⟩,
                           ⟨.copy 94 (.tmp 15), none, (some 94), false⟩,
                           ⟨.bin 95 .neq (.tmp 93) (.tmp 94), none, (some 95), false⟩])
                         (.cond (.tmp 95)
                          (.seq (.ops [⟨.copy 6 (.const (.bool false)), none, (some 6), false⟩])
                           (.ret [(.tmp 6)] [.none]))
                          (.skip)))
                        (.seq (.ops [⟨.copy 97 (.tmp 0), none, (some 97), false⟩,
                           ⟨.call (some 98) 21 sg21 [(.tmp 97)] [.none], none, (some 98), false⟩,
                           ⟨.copy 99 (.tmp 1), none, (some 99), false⟩,
                           ⟨.call (some 100) 22 sg22 [(.tmp 99)] [.none], none, (some 100), false⟩,
                           ⟨.copy 101 (.tmp 2), none, (some 101), false⟩,
                           ⟨.call (some 102) 47 sg47 [(.tmp 98), (.tmp 100), (.tmp 101)] [.none, .none, .none], none, (some 102), false⟩,
                           ⟨.copy 96 (.tmp 102), none, (some 96), false⟩,
                           ⟨.ext 103 96 0, none, (some 103), false⟩,
                           ⟨.ext 104 96 1, none, (some 104), false⟩,
                           ⟨.take 17 (.tmp 103) (.slot 103), none, (some 17), false⟩,
                           ⟨.copy 18 (.tmp 104), none, (some 18), false⟩])
                         (.seq (.seq (.ops [⟨.copy 105 (.tmp 17), none, (some 105), false⟩,
                             ⟨.copy 106 (.tmp 8), none, (some 106), false⟩,
                             ⟨.call (some 107) 25 sg25 [(.tmp 105), (.tmp 106)] [.none, .none], none, (some 107), false⟩,
                             ⟨.un 108 .not (.tmp 107), none, (some 108), false⟩,
                             ⟨.copy 109 (.tmp 108), none, (some 109), false⟩,
                             ⟨.copy 110 (.tmp 18), (some (109, false)), (some 110), true⟩,
                             ⟨.copy 111 (.tmp 9), (some (109, false)), (some 111), true⟩,
                             ⟨.beq 112 true (.tmp 110) (.tmp 111), (some (109, false)), (some 112), true⟩,
                             ⟨.pick 113 (.tmp 109) (.const (.bool true)) (.tmp 112), none, (some 113), false⟩])
                           (.cond (.tmp 113)
                            (.seq (.ops [⟨.copy 6 (.const (.bool false)), none, (some 6), false⟩])
                             (.ret [(.tmp 6)] [.none]))
                            (.skip)))
                          (.seq (.ops [⟨.copy 16 (.const (.int .i64 1)), none, (some 16), false⟩])
                           (.seq (.ops [⟨.copy 114 (.tmp 12), none, (some 114), false⟩,
                              ⟨.copy 115 (.tmp 16), none, (some 115), false⟩,
                              ⟨.call (some 116) 30 sg30 [(.tmp 114), (.tmp 115)] [.none, .none], none, (some 116), false⟩,
                              ⟨.copy 16 (.tmp 116), none, (some 16), false⟩])
                            (.seq (.seq (.ops [⟨.copy 117 (.tmp 16), none, (some 117), false⟩,
                                ⟨.bin 118 .lss (.tmp 117) (.const (.int .i64 0)), none, (some 118), false⟩])
                              (.cond (.tmp 118)
                               (.seq (.ops [⟨.copy 6 (.const (.bool false)), none, (some 6), false⟩])
                                (.ret [(.tmp 6)] [.none]))
                               (.skip)))
                             (.seq (.seq (.ops [⟨.copy 119 (.tmp 16), none, (some 119), false⟩,
                                 ⟨.copy 120 (.tmp 15), none, (some 120), false⟩,
                                 ⟨.bin 121 .neq (.tmp 119) (.tmp 120), none, (some 121), false⟩])
                               (.cond (.tmp 121)
                                (.seq (.ops [⟨.copy 6 (.const (.bool false)), none, (some 6), false⟩])
                                 (.ret [(.tmp 6)] [.none]))
                                (.skip)))
                              (.seq (.ops [⟨.copy 6 (.const (.bool true)), none, (some 6), false⟩])
                               (.ret [(.tmp 6)] [.none])))))))))))))))))))))))))))))
theorem k12 (r19 r21 r22 r46 r47 r25 r24 r28 r29 r30 : Rel) : compileFn (E12 r19 r21 r22 r46 r47 r25 r24 r28 r29 r30) Try.f12 sg12 hs12 = some c12 := by kernel_rfl
/- loop.example/g01334/spec.PairsFitting -/
noncomputable def l33 (r58 r55 : Rel) : Deps := [(58, sg58, r58), (55, sg55, r55)]
noncomputable def E33 (r58 r55 : Rel) : Env := mkE Try.prog [0, 1, 4, 5, 6, 7, 8] [] (l33 r58 r55) []
noncomputable def hs33 : HS := [[1, 2, 3, 5, 6, 7, 8, 9, 10, 11, 15, 16, 17, 18, 19, 20, 21, 22, 23, 24, 25, 26, 27, 28, 29, 30, 31, 32, 33, 34, 35, 36, 37], [1, 2, 3, 7, 8, 9, 10, 11, 15, 16, 17, 18, 22, 23, 24, 25, 26, 27, 28, 29, 30, 31, 32, 33, 34, 35, 36, 37]]
noncomputable def c33 : Cmd :=
  .seq (.ops [⟨.copy 2 (.const (.slice none 0 0)), none, (some 2), false⟩,
     ⟨.copy 3 (.const (.bool false)), none, (some 3), false⟩])
   (.seq (.seq (.ops [⟨.copy 9 (.tmp 0), none, (some 9), false⟩,
       ⟨.call (some 10) 58 sg58 [(.tmp 9)] [.none], none, (some 10), false⟩,
       ⟨.un 11 .not (.tmp 10), none, (some 11), false⟩])
     (.cond (.tmp 11)
      (.seq (.ops [⟨.copy 2 (.const (.slice none 0 0)), none, (some 2), false⟩,
         ⟨.copy 3 (.const (.bool false)), none, (some 3), false⟩])
       (.ret [(.tmp 2), (.tmp 3)] [.none, .none]))
      (.skip)))
    (.seq (.ops [⟨.copy 4 (.const (.slice none 0 0)), none, (some 4), false⟩])
     (.seq (.seq (.ops [⟨.copy 12 (.tmp 0), none, (some 12), false⟩,
         ⟨.len 13 false (.tmp 12), none, (some 13), false⟩,
         ⟨.copy 14 (.const (.int .i64 0)), none, (some 14), false⟩])
       (.block 0 (.loop [true, false, false, false, true, false, false, false, false, false, false, false, true, true, true, false, false, false, false, false, false, false, false, false, false, false, false, false, false, false, false, false, false, false, false, false, false, false]
         (.seq (.ops [⟨.bin 15 .lss (.tmp 14) (.tmp 13), none, (some 15), false⟩])
          (.seq (.cond (.tmp 15)
            (.skip)
            (.exit 0))
           (.seq (.block 1 (.seq (.ops [⟨.copy 16 (.tmp 14), none, (some 16), false⟩,
                ⟨.iadd 17 12 26 (.tmp 14), none, (some 17), false⟩,
                ⟨.loadE 18 12 17 (some 3) true, none, (some 18), false⟩,
                ⟨.alloc 6 .own [(.int .i64 0), (.int .i64 0), (.int .i64 0)], none, (some 6), false⟩,
                ⟨.copy 5 (.tmp 16), none, (some 5), false⟩,
                ⟨.storeB (.tmp 6) (.tmp 18) (some 3) .none, none, none, false⟩])
              (.seq (.ops [⟨.copy 19 (.tmp 0), none, (some 19), false⟩,
                 ⟨.len 20 false (.tmp 19), none, (some 20), false⟩,
                 ⟨.copy 21 (.const (.int .i64 0)), none, (some 21), false⟩])
               (.block 2 (.loop [true, false, false, false, true, true, true, false, false, false, false, false, true, true, true, false, false, false, false, true, true, true, false, false, false, false, false, false, false, false, false, false, false, false, false, false, false, false]
                 (.seq (.ops [⟨.bin 22 .lss (.tmp 21) (.tmp 20), none, (some 22), false⟩])
                  (.seq (.cond (.tmp 22)
                    (.skip)
                    (.exit 2))
                   (.seq (.block 3 (.seq (.ops [⟨.copy 23 (.tmp 21), none, (some 23), false⟩,
                        ⟨.iadd 24 19 26 (.tmp 21), none, (some 24), false⟩,
                        ⟨.loadE 25 19 24 (some 3) true, none, (some 25), false⟩,
                        ⟨.alloc 8 .own [(.int .i64 0), (.int .i64 0), (.int .i64 0)], none, (some 8), false⟩,
                        ⟨.copy 7 (.tmp 23), none, (some 7), false⟩,
                        ⟨.storeB (.tmp 8) (.tmp 25) (some 3) .none, none, none, false⟩])
                      (.seq (.ops [⟨.loadB 26 (.tmp 6) (some 3) true, none, (some 26), false⟩,
                         ⟨.loadB 27 (.tmp 8) (some 3) true, none, (some 27), false⟩,
                         ⟨.call (some 28) 55 sg55 [(.tmp 26), (.tmp 27)] [.none, .none], none, (some 28), false⟩])
                       (.cond (.tmp 28)
                        (.ops [⟨.copy 29 (.tmp 4), none, (some 29), false⟩,
                          ⟨.copy 30 (.tmp 5), none, (some 30), false⟩,
                          ⟨.copy 31 (.tmp 7), none, (some 31), false⟩,
                          ⟨.lit 32 3 1 [(.tmp 30), (.tmp 31)] [.none, .none], none, (some 32), false⟩,
                          ⟨.lit 33 30 1 [(.tmp 32)] [(.slot 32)], none, (some 33), false⟩,
                          ⟨.app 34 30 24 false (.tmp 29) (.tmp 33) [(.slot 4), (.slot 33)], none, (some 34), false⟩,
                          ⟨.take 4 (.tmp 34) (.slot 34), none, (some 4), false⟩])
                        (.skip)))))
                    (.ops [⟨.bin 35 .add (.tmp 21) (.const (.int .i64 1)), none, (some 35), false⟩,
                      ⟨.copy 21 (.tmp 35), none, (some 21), false⟩])))))))))
            (.ops [⟨.bin 36 .add (.tmp 14) (.const (.int .i64 1)), none, (some 36), false⟩,
              ⟨.copy 14 (.tmp 36), none, (some 14), false⟩])))))))
      (.seq (.ops [⟨.copy 37 (.tmp 4), none, (some 37), false⟩,
         ⟨.copy 2 (.tmp 37), none, (some 2), false⟩,
         ⟨.copy 3 (.const (.bool true)), none, (some 3), false⟩])
       (.ret [(.tmp 2), (.tmp 3)] [(.slot 4), .none])))))
theorem k33 (r58 r55 : Rel) : compileFn (E33 r58 r55) Try.f33 sg33 hs33 = some c33 := by kernel_rfl
/- loop.example/g01334/impl.PairsFitting -/
noncomputable def l34 (r60 r57 : Rel) : Deps := [(60, sg60, r60), (57, sg57, r57)]
noncomputable def E34 (r60 r57 : Rel) : Env := mkE Try.prog [0, 1, 4, 5, 6, 7, 8] [] (l34 r60 r57) []
noncomputable def hs34 : HS := [[1, 2, 3, 5, 6, 7, 8, 9, 10, 11, 12, 16, 17, 18, 19, 20, 21, 22, 23, 24, 25, 26, 27, 28, 29, 30, 31, 32, 33, 34, 35, 36, 37, 38], [1, 2, 3, 7, 8, 9, 10, 11, 12, 16, 17, 18, 19, 23, 24, 25, 26, 27, 28, 29, 30, 31, 32, 33, 34, 35, 36, 37, 38]]
noncomputable def c34 : Cmd :=
  .seq (.ops [⟨.copy 2 (.const (.slice none 0 0)), none, (some 2), false⟩,
     ⟨.copy 3 (.const (.bool false)), none, (some 3), false⟩])
   (.seq (.seq (.ops [⟨.copy 9 (.tmp 0), none, (some 9), false⟩,
       ⟨.call (some 10) 60 sg60 [(.tmp 9)] [.none], none, (some 10), false⟩,
       ⟨.un 11 .not (.tmp 10), none, (some 11), false⟩])
     (.cond (.tmp 11)
      (.seq (.ops [⟨.copy 2 (.const (.slice none 0 0)), none, (some 2), false⟩,
         ⟨.copy 3 (.const (.bool false)), none, (some 3), false⟩])
       (.ret [(.tmp 2), (.tmp 3)] [.none, .none]))
      (.skip)))
    (.seq (.ops [⟨.lit 12 30 1 [] [], none, (some 12), false⟩,
       ⟨.take 4 (.tmp 12) (.slot 12), none, (some 4), false⟩])
     (.seq (.seq (.ops [⟨.copy 13 (.tmp 0), none, (some 13), false⟩,
         ⟨.len 14 false (.tmp 13), none, (some 14), false⟩,
         ⟨.copy 15 (.const (.int .i64 0)), none, (some 15), false⟩])
       (.block 0 (.loop [true, false, false, false, true, false, false, false, false, false, false, false, false, true, true, true, false, false, false, false, false, false, false, false, false, false, false, false, false, false, false, false, false, false, false, false, false, false, false]
         (.seq (.ops [⟨.bin 16 .lss (.tmp 15) (.tmp 14), none, (some 16), false⟩])
          (.seq (.cond (.tmp 16)
            (.skip)
            (.exit 0))
           (.seq (.block 1 (.seq (.ops [⟨.copy 17 (.tmp 15), none, (some 17), false⟩,
                ⟨.iadd 18 13 26 (.tmp 15), none, (some 18), false⟩,
                ⟨.loadE 19 13 18 (some 3) true, none, (some 19), false⟩,
                ⟨.alloc 6 .own [(.int .i64 0), (.int .i64 0), (.int .i64 0)], none, (some 6), false⟩,
                ⟨.copy 5 (.tmp 17), none, (some 5), false⟩,
                ⟨.storeB (.tmp 6) (.tmp 19) (some 3) .none, none, none, false⟩])
              (.seq (.ops [⟨.copy 20 (.tmp 0), none, (some 20), false⟩,
                 ⟨.len 21 false (.tmp 20), none, (some 21), false⟩,
                 ⟨.copy 22 (.const (.int .i64 0)), none, (some 22), false⟩])
               (.block 2 (.loop [true, false, false, false, true, true, true, false, false, false, false, false, false, true, true, true, false, false, false, false, true, true, true, false, false, false, false, false, false, false, false, false, false, false, false, false, false, false, false]
                 (.seq (.ops [⟨.bin 23 .lss (.tmp 22) (.tmp 21), none, (some 23), false⟩])
                  (.seq (.cond (.tmp 23)
                    (.skip)
                    (.exit 2))
                   (.seq (.block 3 (.seq (.ops [⟨.copy 24 (.tmp 22), none, (some 24), false⟩,
                        ⟨.iadd 25 20 26 (.tmp 22), none, (some 25), false⟩,
                        ⟨.loadE 26 20 25 (some 3) true, none, (some 26), false⟩,
                        ⟨.alloc 8 .own [(.int .i64 0), (.int .i64 0), (.int .i64 0)], none, (some 8), false⟩,
                        ⟨.copy 7 (.tmp 24), none, (some 7), false⟩,
                        ⟨.storeB (.tmp 8) (.tmp 26) (some 3) .none, none, none, false⟩])
                      (.seq (.ops [⟨.loadB 27 (.tmp 6) (some 3) true, none, (some 27), false⟩,
                         ⟨.loadB 28 (.tmp 8) (some 3) true, none, (some 28), false⟩,
                         ⟨.call (some 29) 57 sg57 [(.tmp 27), (.tmp 28)] [.none, .none], none, (some 29), false⟩])
                       (.cond (.tmp 29)
                        (.ops [⟨.copy 30 (.tmp 4), none, (some 30), false⟩,
                          ⟨.copy 31 (.tmp 5), none, (some 31), false⟩,
                          ⟨.copy 32 (.tmp 7), none, (some 32), false⟩,
                          ⟨.lit 33 3 1 [(.tmp 31), (.tmp 32)] [.none, .none], none, (some 33), false⟩,
                          ⟨.lit 34 30 1 [(.tmp 33)] [(.slot 33)], none, (some 34), false⟩,
                          ⟨.app 35 30 24 false (.tmp 30) (.tmp 34) [(.slot 4), (.slot 34)], none, (some 35), false⟩,
                          ⟨.take 4 (.tmp 35) (.slot 35), none, (some 4), false⟩])
                        (.skip)))))
                    (.ops [⟨.bin 36 .add (.tmp 22) (.const (.int .i64 1)), none, (some 36), false⟩,
                      ⟨.copy 22 (.tmp 36), none, (some 22), false⟩])))))))))
            (.ops [⟨.bin 37 .add (.tmp 15) (.const (.int .i64 1)), none, (some 37), false⟩,
              ⟨.copy 15 (.tmp 37), none, (some 15), false⟩])))))))
      (.seq (.ops [⟨.copy 38 (.tmp 4), none, (some 38), false⟩,
         ⟨.copy 2 (.tmp 38), none, (some 2), false⟩,
         ⟨.copy 3 (.const (.bool true)), none, (some 3), false⟩])
       (.ret [(.tmp 2), (.tmp 3)] [(.slot 4), .none])))))
theorem k34 (r60 r57 : Rel) : compileFn (E34 r60 r57) Try.f34 sg34 hs34 = some c34 := by kernel_rfl
/- loop.example/g01334/laws.eqIntSS -/
noncomputable def l35 (r25 : Rel) : Deps := [(25, sg25, r25)]
noncomputable def E35 (r25 : Rel) : Env := mkE Try.prog [0, 1, 2, 3, 5] [] (l35 r25) []
noncomputable def hs35 : HS := [[2, 3, 4, 6, 7, 8, 9, 10, 11, 12, 13, 14, 15, 16, 17, 18, 19, 20, 21, 22, 23, 24, 25, 26]]
noncomputable def c35 : Cmd :=
  .seq (.ops [⟨.copy 4 (.const (.bool false)), none, (some 4), false⟩])
   (.seq (.seq (.ops [⟨.copy 6 (.tmp 0), none, (some 6), false⟩,
       ⟨.len 7 false (.tmp 6), none, (some 7), false⟩,
       ⟨.copy 8 (.tmp 1), none, (some 8), false⟩,
       ⟨.len 9 false (.tmp 8), none, (some 9), false⟩,
       ⟨.bin 10 .neq (.tmp 7) (.tmp 9), none, (some 10), false⟩])
     (.cond (.tmp 10)
      (.seq (.ops [⟨.copy 4 (.const (.bool false)), none, (some 4), false⟩])
       (.ret [(.tmp 4)] [.none]))
      (.skip)))
    (.seq (.seq (.ops [⟨.copy 5 (.const (.int .i64 0)), none, (some 5), false⟩])
      (.block 0 (.loop [true, true, false, false, false, true, false, false, false, false, false, false, false, false, false, false, false, false, false, false, false, false, false, false, false, false, false]
        (.seq (.seq (.ops [⟨.copy 11 (.tmp 5), none, (some 11), false⟩,
            ⟨.copy 12 (.tmp 0), none, (some 12), false⟩,
            ⟨.len 13 false (.tmp 12), none, (some 13), false⟩,
            ⟨.bin 14 .lss (.tmp 11) (.tmp 13), none, (some 14), false⟩])
          (.cond (.tmp 14)
           (.skip)
           (.exit 0)))
         (.seq (.block 1 (.seq (.ops [⟨.copy 17 (.tmp 0), none, (some 17), false⟩,
              ⟨.copy 18 (.tmp 5), none, (some 18), false⟩,
              ⟨.iadd 19 17 30 (.tmp 18), none, (some 19), false⟩,
              ⟨.loadE 20 17 19 none false, none, (some 20), false⟩,
              ⟨.copy 21 (.tmp 1), none, (some 21), false⟩,
              ⟨.copy 22 (.tmp 5), none, (some 22), false⟩,
              ⟨.iadd 23 21 30 (.tmp 22), none, (some 23), false⟩,
              ⟨.loadE 24 21 23 none false, none, (some 24), false⟩,
              ⟨.call (some 25) 25 sg25 [(.tmp 20), (.tmp 24)] [.none, .none], none, (some 25), false⟩,
              ⟨.un 26 .not (.tmp 25), none, (some 26), false⟩])
            (.cond (.tmp 26)
             (.seq (.ops [⟨.copy 4 (.const (.bool false)), none, (some 4), false⟩])
              (.ret [(.tmp 4)] [.none]))
             (.skip))))
          (.ops [⟨.copy 15 (.tmp 5), none, (some 15), false⟩,
            ⟨.bin 16 .add (.tmp 15) (.const (.int .i64 1)), none, (some 16), false⟩,
            ⟨.copy 5 (.tmp 16), none, (some 5), false⟩]))))))
     (.seq (.ops [⟨.copy 4 (.const (.bool true)), none, (some 4), false⟩])
      (.ret [(.tmp 4)] [.none]))))
theorem k35 (r25 : Rel) : compileFn (E35 r25) Try.f35 sg35 hs35 = some c35 := by kernel_rfl
/- loop.example/g01334/laws.markIntSS -/
noncomputable def l36 (r29 : Rel) : Deps := [(29, sg29, r29)]
noncomputable def E36 (r29 : Rel) : Env := mkE Try.prog [0, 1, 2, 3, 5] [(15, .own)] (l36 r29) []
noncomputable def hs36 : HS := [[2, 3, 4, 6, 7, 8, 9, 10, 11, 12, 13, 14, 15, 16, 17, 18]]
noncomputable def c36 : Cmd :=
  .seq (.ops [⟨.copy 4 (.const (.int .i64 0)), none, (some 4), false⟩])
   (.seq (.seq (.ops [⟨.copy 5 (.const (.int .i64 0)), none, (some 5), false⟩])
     (.block 0 (.loop [true, true, false, false, false, true, false, false, false, false, false, false, false, false, false, false, false, false, false]
       (.seq (.seq (.ops [⟨.copy 6 (.tmp 5), none, (some 6), false⟩,
           ⟨.copy 7 (.tmp 0), none, (some 7), false⟩,
           ⟨.len 8 false (.tmp 7), none, (some 8), false⟩,
           ⟨.bin 9 .lss (.tmp 6) (.tmp 8), none, (some 9), false⟩])
         (.cond (.tmp 9)
          (.skip)
          (.exit 0)))
        (.seq (.block 1 (.ops [⟨.copy 12 (.tmp 0), none, (some 12), false⟩,
            ⟨.copy 13 (.tmp 5), none, (some 13), false⟩,
            ⟨.iadd 14 12 30 (.tmp 13), none, (some 14), false⟩,
            ⟨.loadE 15 12 14 none false, none, (some 15), false⟩,
            ⟨.copy 16 (.tmp 1), none, (some 16), false⟩,
            ⟨.callm 17 29 sg29 (.tmp 15) [(.tmp 16)] (.elem 0 14), none, (some 17), false⟩,
            ⟨.copy 1 (.tmp 17), none, (some 1), false⟩]))
         (.ops [⟨.copy 10 (.tmp 5), none, (some 10), false⟩,
           ⟨.bin 11 .add (.tmp 10) (.const (.int .i64 1)), none, (some 11), false⟩,
           ⟨.copy 5 (.tmp 11), none, (some 5), false⟩]))))))
    (.seq (.ops [⟨.copy 18 (.tmp 1), none, (some 18), false⟩,
       ⟨.copy 4 (.tmp 18), none, (some 4), false⟩])
     (.ret [(.tmp 4), (.tmp 0)] [.none, (.slot 0)])))
theorem k36 (r29 : Rel) : compileFn (E36 r29) Try.f36 sg36 hs36 = some c36 := by kernel_rfl
/- loop.example/g01334/laws.heldIntSS -/
noncomputable def l37 (r30 : Rel) : Deps := [(30, sg30, r30)]
noncomputable def E37 (r30 : Rel) : Env := mkE Try.prog [0, 1, 2, 3, 5] [] (l37 r30) []
noncomputable def hs37 : HS := [[2, 3, 4, 6, 7, 8, 9, 10, 11, 12, 13, 14, 15, 16, 17, 18, 19, 20]]
noncomputable def c37 : Cmd :=
  .seq (.ops [⟨.copy 4 (.const (.int .i64 0)), none, (some 4), false⟩])
   (.seq (.seq (.ops [⟨.copy 5 (.const (.int .i64 0)), none, (some 5), false⟩])
     (.block 0 (.loop [true, true, false, false, false, true, false, false, false, false, false, false, false, false, false, false, false, false, false, false, false]
       (.seq (.seq (.ops [⟨.copy 6 (.tmp 5), none, (some 6), false⟩,
           ⟨.copy 7 (.tmp 0), none, (some 7), false⟩,
           ⟨.len 8 false (.tmp 7), none, (some 8), false⟩,
           ⟨.bin 9 .lss (.tmp 6) (.tmp 8), none, (some 9), false⟩])
         (.cond (.tmp 9)
          (.skip)
          (.exit 0)))
        (.seq (.block 1 (.seq (.ops [⟨.copy 12 (.tmp 0), none, (some 12), false⟩,
             ⟨.copy 13 (.tmp 5), none, (some 13), false⟩,
             ⟨.iadd 14 12 30 (.tmp 13), none, (some 14), false⟩,
             ⟨.loadE 15 12 14 none false, none, (some 15), false⟩,
             ⟨.copy 16 (.tmp 1), none, (some 16), false⟩,
             ⟨.call (some 17) 30 sg30 [(.tmp 15), (.tmp 16)] [.none, .none], none, (some 17), false⟩,
             ⟨.copy 1 (.tmp 17), none, (some 1), false⟩])
           (.seq (.ops [⟨.copy 18 (.tmp 1), none, (some 18), false⟩,
              ⟨.bin 19 .lss (.tmp 18) (.const (.int .i64 0)), none, (some 19), false⟩])
            (.cond (.tmp 19)
             (.seq (.ops [⟨.copy 4 (.const (.int .i64 (-1))), none, (some 4), false⟩])
              (.ret [(.tmp 4)] [.none]))
             (.skip)))))
         (.ops [⟨.copy 10 (.tmp 5), none, (some 10), false⟩,
           ⟨.bin 11 .add (.tmp 10) (.const (.int .i64 1)), none, (some 11), false⟩,
           ⟨.copy 5 (.tmp 11), none, (some 5), false⟩]))))))
    (.seq (.ops [⟨.copy 20 (.tmp 1), none, (some 20), false⟩,
       ⟨.copy 4 (.tmp 20), none, (some 4), false⟩])
     (.ret [(.tmp 4)] [.none])))
theorem k37 (r30 : Rel) : compileFn (E37 r30) Try.f37 sg37 hs37 = some c37 := by kernel_rfl
/- loop.example/g01334/laws.FnExactPairsFitting -/
noncomputable def l7 (r19 r21 r33 r34 r35 r24 r28 r36 r37 : Rel) : Deps := [(19, sg19, r19), (21, sg21, r21), (33, sg33, r33), (34, sg34, r34), (35, sg35, r35), (24, sg24, r24), (28, sg28, r28), (36, sg36, r36), (37, sg37, r37)]
noncomputable def E7 (r19 r21 r33 r34 r35 r24 r28 r36 r37 : Rel) : Env := mkE Try.prog [0, 1, 3, 4, 5, 6, 7, 8, 9, 10, 11, 12, 13] [] (l7 r19 r21 r33 r34 r35 r24 r28 r36 r37) []
noncomputable def hs7 : HS := []
noncomputable def c7 : Cmd :=
  .seq (.ops [⟨.copy 2 (.const (.bool false)), none, (some 2), false⟩])
   (.seq (.ops [⟨.copy 3 (.const (.int .i64 1048576)), none, (some 3), false⟩])
    (.seq (.ops [⟨.copy 14 (.tmp 0), none, (some 14), false⟩,
       ⟨.copy 15 (.tmp 3), none, (some 15), false⟩,
       ⟨.call (some 16) 19 sg19 [(.tmp 14), (.tmp 15)] [.none, .none], none, (some 16), false⟩,
       ⟨.copy 3 (.tmp 16), none, (some 3), false⟩])
     (.seq (.seq (.ops [⟨.copy 17 (.tmp 3), none, (some 17), false⟩,
         ⟨.bin 18 .lss (.tmp 17) (.const (.int .i64 0)), none, (some 18), false⟩])
       (.cond (.tmp 18)
        (.seq (.ops [⟨.copy 2 (.const (.bool true)), none, (some 2), false⟩])
         (.ret [(.tmp 2)] [.none]))
        (.skip)))
      (.seq (.ops [⟨.copy 20 (.tmp 0), none, (some 20), false⟩,
         ⟨.call (some 21) 21 sg21 [(.tmp 20)] [.none], none, (some 21), false⟩,
         ⟨.call (some 22) 33 sg33 [(.tmp 21)] [.none], none, (some 22), false⟩,
         ⟨.copy 19 (.tmp 22), none, (some 19), false⟩,
         ⟨.ext 23 19 0, none, (some 23), false⟩,
         ⟨.ext 24 19 1, none, (some 24), false⟩,
         ⟨.take 4 (.tmp 23) (.slot 23), none, (some 4), false⟩,
         ⟨.copy 5 (.tmp 24), none, (some 5), false⟩])
       (.seq (.ops [⟨.copy 25 (.tmp 0), none, (some 25), false⟩,
          ⟨.call (some 26) 21 sg21 [(.tmp 25)] [.none], none, (some 26), false⟩,
          ⟨.take 6 (.tmp 26) (.slot 26), none, (some 6), false⟩])
        (.seq (.ops [⟨.copy 28 (.tmp 6), none, (some 28), false⟩,
           ⟨.call (some 29) 34 sg34 [(.tmp 28)] [.none], none, (some 29), false⟩,
           ⟨.copy 27 (.tmp 29), none, (some 27), false⟩,
           ⟨.ext 30 27 0, none, (some 30), false⟩,
           ⟨.ext 31 27 1, none, (some 31), false⟩,
           ⟨.take 7 (.tmp 30) (.slot 30), none, (some 7), false⟩,
           ⟨.copy 8 (.tmp 31), none, (some 8), false⟩])
         (.seq (.seq (.ops [⟨.copy 32 (.tmp 7), none, (some 32), false⟩,
             ⟨.copy 33 (.tmp 4), none, (some 33), false⟩,
             ⟨.call (some 34) 35 sg35 [(.tmp 32), (.tmp 33)] [.none, .none], none, (some 34), false⟩,
             ⟨.un 35 .not (.tmp 34), none, (some 35), false⟩,
             ⟨.copy 36 (.tmp 35), none, (some 36), false⟩,
             ⟨.copy 37 (.tmp 8), (some (36, false)), (some 37), true⟩,
             ⟨.copy 38 (.tmp 5), (some (36, false)), (some 38), true⟩,
             ⟨.beq 39 true (.tmp 37) (.tmp 38), (some (36, false)), (some 39), true⟩,
             ⟨.pick 40 (.tmp 36) (.const (.bool true)) (.tmp 39), none, (some 40), false⟩])
           (.cond (.tmp 40)
            (.seq (.ops [⟨.copy 2 (.const (.bool false)), none, (some 2), false⟩])
             (.ret [(.tmp 2)] [.none]))
            (.skip)))
          (.seq (.seq (.ops [⟨.copy 41 (.tmp 6), none, (some 41), false⟩,
              ⟨.copy 42 (.tmp 0), none, (some 42), false⟩,
              ⟨.call (some 43) 21 sg21 [(.tmp 42)] [.none], none, (some 43), false⟩,
              ⟨.call (some 44) 24 sg24 [(.tmp 41), (.tmp 43)] [.none, .none], none, (some 44), false⟩,
              ⟨.un 45 .not (.tmp 44), none, (some 45), false⟩])
            (.cond (.tmp 45)
             (.seq (.ops [⟨.copy 2 (.const (.bool false)), none, (some 2), false⟩])
              (.ret [(.tmp 2)] [.none]))
             (.skip)))
           (.seq (.ops [⟨.copy 9 (.const (.int .i64 1)), none, (some 9), false⟩])
            (.seq (.ops [⟨.copy 46 (.tmp 6), none, (some 46), false⟩,
               ⟨.copy 47 (.tmp 9), none, (some 47), false⟩,
               ⟨.callm 48 28 sg28 (.tmp 46) [(.tmp 47)] (.slot 6), none, (some 48), false⟩,
               ⟨.copy 9 (.tmp 48), none, (some 9), false⟩])
             (.seq (.seq (.ops [⟨.copy 49 (.tmp 9), none, (some 49), false⟩,
                 ⟨.bin 50 .lss (.tmp 49) (.const (.int .i64 0)), none, (some 50), false⟩,
                 ⟨.copy 51 (.tmp 50), none, (some 51), false⟩,
                 ⟨.copy 52 (.tmp 7), (some (51, false)), (some 52), false⟩,
                 ⟨.copy 53 (.tmp 4), (some (51, false)), (some 53), false⟩,
                 ⟨.call (some 54) 35 sg35 [(.tmp 52), (.tmp 53)] [.none, .none], (some (51, false)), (some 54), true⟩,
                 ⟨.un 55 .not (.tmp 54), (some (51, false)), (some 55), true⟩,
                 ⟨.pick 56 (.tmp 51) (.const (.bool true)) (.tmp 55), none, (some 56), false⟩,
                 ⟨.copy 57 (.tmp 56), none, (some 57), false⟩,
                 ⟨.copy 58 (.tmp 8), (some (57, false)), (some 58), true⟩,
                 ⟨.copy 59 (.tmp 5), (some (57, false)), (some 59), true⟩,
                 ⟨.beq 60 true (.tmp 58) (.tmp 59), (some (57, false)), (some 60), true⟩,
                 ⟨.pick 61 (.tmp 57) (.const (.bool true)) (.tmp 60), none, (some 61), false⟩])
               (.cond (.tmp 61)
                (.seq (.ops [⟨.copy 2 (.const (.bool false)), none, (some 2), false⟩])
                 (.ret [(.tmp 2)] [.none]))
                (.skip)))
              (.seq (.ops [⟨.copy 10 (.const (.int .i64 1)), none, (some 10), false⟩])
               (.seq (.ops [⟨.copy 62 (.tmp 7), none, (some 62), false⟩,
                  ⟨.copy 63 (.tmp 10), none, (some 63), false⟩,
                  ⟨.callm 64 36 sg36 (.tmp 62) [(.tmp 63)] (.slot 7), none, (some 64), false⟩,
                  ⟨.copy 10 (.tmp 64), none, (some 10), false⟩])
                (.seq (.ops [⟨.copy 11 (.const (.int .i64 1)), none, (some 11), false⟩])
                 (.seq (.ops [⟨.copy 65 (.tmp 7), none, (some 65), false⟩,
                    ⟨.copy 66 (.tmp 11), none, (some 66), false⟩,
                    ⟨.call (some 67) 37 sg37 [(.tmp 65), (.tmp 66)] [.none, .none], none, (some 67), false⟩,
                    ⟨.copy 11 (.tmp 67), none, (some 11), false⟩])
                  (.seq (.seq (.ops [⟨.copy 68 (.tmp 11), none, (some 68), false⟩,
                      ⟨.bin 69 .lss (.tmp 68) (.const (.int .i64 0)), none, (some 69), false⟩])
                    (.cond (.tmp 69)
                     (.seq (.ops [⟨.copy 2 (.const (.bool false)), none, (some 2), false⟩])
                      (.ret [(.tmp 2)] [.none]))
                     (.skip)))
                   (.seq (.seq (.ops [⟨.copy 70 (.tmp 11), none, (some 70), false⟩,
                       ⟨.copy 71 (.tmp 10), none, (some 71), false⟩,
                       ⟨.bin 72 .neq (.tmp 70) (.tmp 71), none, (some 72), false⟩])
                     (.cond (.tmp 72)
                      (.seq (.ops [⟨.copy 2 (.const (.bool false)), none, (some 2), false⟩])
                       (.ret [(.tmp 2)] [.none]))
                      (.skip)))
                    (.seq (.ops [⟨.copy 74 (.tmp 0), none, (some 74), false⟩,
                       ⟨.call (some 75) 21 sg21 [(.tmp 74)] [.none], none, (some 75), false⟩,
                       ⟨.call (some 76) 34 sg34 [(.tmp 75)] [.none], none, (some 76), false⟩,
                       ⟨.copy 73 (.tmp 76), none, (some 73), false⟩,
                       ⟨.ext 77 73 0, none, (some 77), false⟩,
                       ⟨.ext 78 73 1, none, (some 78), false⟩,
                       ⟨.take 12 (.tmp 77) (.slot 77), none, (some 12), false⟩,
                       ⟨.copy 13 (.tmp 78), none, (some 13), false⟩])
                     (.seq (.seq (.ops [⟨.copy 79 (.tmp 12), none, (some 79), false⟩,
                         ⟨.copy 80 (.tmp 4), none, (some 80), false⟩,
                         ⟨.call (some 81) 35 sg35 [(.tmp 79), (.tmp 80)] [.none, .none], none, (some 81), false⟩,
                         ⟨.un 82 .not (.tmp 81), none, (some 82), false⟩,
                         ⟨.copy 83 (.tmp 82), none, (some 83), false⟩,
                         ⟨.copy 84 (.tmp 13), (some (83, false)), (some 84), true⟩,
                         ⟨.copy 85 (.tmp 5), (some (83, false)), (some 85), true⟩,
                         ⟨.beq 86 true (.tmp 84) (.tmp 85), (some (83, false)), (some 86), true⟩,
                         ⟨.pick 87 (.tmp 83) (.const (.bool true)) (.tmp 86), none, (some 87), false⟩])
                       (.cond (.tmp 87)
                        (.seq (.ops [⟨.copy 2 (.const (.bool false)), none, (some 2), false⟩])
                         (.ret [(.tmp 2)] [.none]))
                        (.skip)))
                      (.seq (.ops [⟨.copy 11 (.const (.int .i64 1)), none, (some 11), false⟩])
                       (.seq (.ops [⟨.copy 88 (.tmp 7), none, (some 88), false⟩,
                          ⟨.copy 89 (.tmp 11), none, (some 89), false⟩,
                          ⟨.call (some 90) 37 sg37 [(.tmp 88), (.tmp 89)] [.none, .none], none, (some 90), false⟩,
                          ⟨.copy 11 (.tmp 90), none, (some 11), false⟩])
                        (.seq (.seq (.ops [⟨.copy 91 (.tmp 11), none, (some 91), false⟩,
                            ⟨.bin 92 .lss (.tmp 91) (.const (.int .i64 0)), none, (some 92), false⟩])
                          (.cond (.tmp 92)
                           (.seq (.ops [⟨.copy 2 (.const (.bool false)), none, (some 2), false⟩])
                            (.ret [(.tmp 2)] [.none]))
                           (.skip)))
                         (.seq (.seq (.ops [⟨.copy 93 (.tmp 11), none, (some 93), false⟩,
                             ⟨.copy 94 (.tmp 10), none, (some 94), false⟩,
                             ⟨.bin 95 .neq (.tmp 93) (.tmp 94), none, (some 95), false⟩])
                           (.cond (.tmp 95)
                            (.seq (.ops [⟨.copy 2 (.const (.bool false)), none, (some 2), false⟩])
                             (.ret [(.tmp 2)] [.none]))
                            (.skip)))
                          (.seq (.ops [⟨.copy 2 (.const (.bool true)), none, (some 2), false⟩])
                           (.ret [(.tmp 2)] [.none])))))))))))))))))))))))))
theorem k7 (r19 r21 r33 r34 r35 r24 r28 r36 r37 : Rel) : compileFn (E7 r19 r21 r33 r34 r35 r24 r28 r36 r37) Try.f7 sg7 hs7 = some c7 := by kernel_rfl
/- loop.example/g01334/spec.nePlans -/
noncomputable def l73 (r85 r94 r73 : Rel) : Deps := [(85, sg85, r85), (94, sg94, r94), (73, sg73, r73)]
noncomputable def E73 (r85 r94 r73 : Rel) : Env := mkE Try.prog [0, 1, 2, 3, 5, 6, 7] [] (l73 r85 r94 r73) []
noncomputable def hs73 : HS := [[2, 3, 4, 8, 9, 10, 11, 12, 13, 14, 15, 16, 17, 18, 19, 20, 21, 22, 23, 24, 25, 26, 27, 28, 29, 30, 31, 32, 33, 34, 35, 36, 37]]
noncomputable def c73 : Cmd :=
  .seq (.ops [⟨.copy 4 (.const (.slice none 0 0)), none, (some 4), false⟩])
   (.seq (.ops [⟨.copy 8 (.tmp 1), none, (some 8), false⟩,
      ⟨.len 9 false (.tmp 8), none, (some 9), false⟩,
      ⟨.copy 5 (.tmp 9), none, (some 5), false⟩])
    (.seq (.seq (.ops [⟨.copy 10 (.tmp 5), none, (some 10), false⟩,
        ⟨.copy 11 (.tmp 0), none, (some 11), false⟩,
        ⟨.len 12 false (.tmp 11), none, (some 12), false⟩,
        ⟨.bin 13 .eql (.tmp 10) (.tmp 12), none, (some 13), false⟩])
      (.cond (.tmp 13)
       (.seq (.ops [⟨.copy 14 (.tmp 1), none, (some 14), false⟩,
          ⟨.call (some 15) 85 sg85 [(.tmp 14)] [.none], none, (some 15), false⟩,
          ⟨.lit 16 30 1 [(.tmp 15)] [(.slot 15)], none, (some 16), false⟩,
          ⟨.take 4 (.tmp 16) (.slot 16), none, (some 4), false⟩])
        (.ret [(.tmp 4)] [(.slot 4)]))
       (.skip)))
     (.seq (.ops [⟨.copy 6 (.const (.slice none 0 0)), none, (some 6), false⟩])
      (.seq (.seq (.ops [⟨.copy 7 (.const (.int .i64 (-1))), none, (some 7), false⟩])
        (.block 0 (.loop [true, true, false, false, false, true, true, true, false, false, false, false, false, false, false, false, false, false, false, false, false, false, false, false, false, false, false, false, false, false, false, false, false, false, false, false, false, false]
          (.seq (.seq (.ops [⟨.copy 17 (.tmp 7), none, (some 17), false⟩,
              ⟨.copy 18 (.tmp 0), none, (some 18), false⟩,
              ⟨.len 19 false (.tmp 18), none, (some 19), false⟩,
              ⟨.bin 20 .lss (.tmp 17) (.tmp 19), none, (some 20), false⟩])
            (.cond (.tmp 20)
             (.skip)
             (.exit 0)))
           (.seq (.block 1 (.seq (.ops [⟨.copy 23 (.tmp 0), none, (some 23), false⟩,
                ⟨.copy 24 (.tmp 1), none, (some 24), false⟩,
                ⟨.copy 25 (.tmp 5), none, (some 25), false⟩,
                ⟨.copy 26 (.tmp 7), none, (some 26), false⟩,
                ⟨.call (some 27) 94 sg94 [(.tmp 23), (.tmp 24), (.tmp 25), (.tmp 26)] [.none, .none, .none, .none], none, (some 27), false⟩])
              (.cond (.tmp 27)
               (.ops [⟨.copy 28 (.tmp 6), none, (some 28), false⟩,
                 ⟨.copy 29 (.tmp 0), none, (some 29), false⟩,
                 ⟨.copy 30 (.tmp 1), none, (some 30), false⟩,
                 ⟨.call (some 31) 85 sg85 [(.tmp 30)] [.none], none, (some 31), false⟩,
                 ⟨.copy 32 (.tmp 7), none, (some 32), false⟩,
                 ⟨.lit 33 3 1 [(.tmp 32)] [.none], none, (some 33), false⟩,
                 ⟨.app 34 3 8 true (.tmp 31) (.tmp 33) [(.slot 31), .none], none, (some 34), false⟩,
                 ⟨.call (some 35) 73 sg73 [(.tmp 29), (.tmp 34)] [.none, .none], none, (some 35), false⟩,
                 ⟨.app 36 30 24 false (.tmp 28) (.tmp 35) [(.slot 6), (.slot 35)], none, (some 36), false⟩,
                 ⟨.take 6 (.tmp 36) (.slot 36), none, (some 6), false⟩])
               (.skip))))
            (.ops [⟨.copy 21 (.tmp 7), none, (some 21), false⟩,
              ⟨.bin 22 .add (.tmp 21) (.const (.int .i64 1)), none, (some 22), false⟩,
              ⟨.copy 7 (.tmp 22), none, (some 7), false⟩]))))))
       (.seq (.ops [⟨.copy 37 (.tmp 6), none, (some 37), false⟩,
          ⟨.copy 4 (.tmp 37), none, (some 4), false⟩])
        (.ret [(.tmp 4)] [(.slot 6)]))))))
theorem k73 (r85 r94 r73 : Rel) : compileFn (E73 r85 r94 r73) Try.f73 sg73 hs73 = some c73 := by kernel_rfl
/- loop.example/g01334/spec.neVolume -/
noncomputable def l74 : Deps := []
noncomputable def E74 : Env := mkE Try.prog [0, 1] [] (l74) []
noncomputable def hs74 : HS := []
noncomputable def c74 : Cmd :=
  .seq (.ops [⟨.box 1 .own (.tmp 0) .none, none, (some 1), false⟩,
     ⟨.copy 2 (.const (.int .i64 0)), none, (some 2), false⟩])
   (.seq (.ops [⟨.fadd 3 (.tmp 1) 0, none, (some 3), false⟩,
      ⟨.loadB 4 (.tmp 3) none true, none, (some 4), false⟩,
      ⟨.fadd 5 (.tmp 1) 1, none, (some 5), false⟩,
      ⟨.loadB 6 (.tmp 5) none true, none, (some 6), false⟩,
      ⟨.bin 7 .mul (.tmp 4) (.tmp 6), none, (some 7), false⟩,
      ⟨.fadd 8 (.tmp 1) 2, none, (some 8), false⟩,
      ⟨.loadB 9 (.tmp 8) none true, none, (some 9), false⟩,
      ⟨.bin 10 .mul (.tmp 7) (.tmp 9), none, (some 10), false⟩,
      ⟨.copy 2 (.tmp 10), none, (some 2), false⟩])
    (.ret [(.tmp 2)] [.none]))
theorem k74 : compileFn (E74) Try.f74 sg74 hs74 = some c74 := by kernel_rfl
/- loop.example/g01334/spec.LeastOuterVolume -/
noncomputable def l42 (r58 r73 r72 r74 : Rel) : Deps := [(58, sg58, r58), (73, sg73, r73), (72, sg72, r72), (74, sg74, r74)]
noncomputable def E42 (r58 r73 r72 r74 : Rel) : Env := mkE Try.prog [0, 1, 4, 5, 6, 7, 8, 9] [] (l42 r58 r73 r72 r74) []
noncomputable def hs42 : HS := [[1, 2, 3, 5, 6, 7, 8, 9, 10, 11, 12, 13, 17, 18, 19, 20, 21, 22, 23, 24, 25, 26, 27, 28, 29, 30, 31, 32, 33, 34, 35, 36, 37, 41, 42, 43, 44], [1, 2, 3, 5, 6, 8, 9, 10, 11, 12, 13, 17, 18, 19, 20, 24, 25, 26, 27, 28, 29, 30, 31, 32, 33, 34, 35, 36, 37, 41, 42, 43, 44]]
noncomputable def c42 : Cmd :=
  .seq (.ops [⟨.copy 2 (.const (.int .i64 0)), none, (some 2), false⟩,
     ⟨.copy 3 (.const (.bool false)), none, (some 3), false⟩])
   (.seq (.seq (.ops [⟨.copy 10 (.tmp 0), none, (some 10), false⟩,
       ⟨.call (some 11) 58 sg58 [(.tmp 10)] [.none], none, (some 11), false⟩,
       ⟨.un 12 .not (.tmp 11), none, (some 12), false⟩])
     (.cond (.tmp 12)
      (.seq (.ops [⟨.copy 2 (.const (.int .i64 0)), none, (some 2), false⟩,
         ⟨.copy 3 (.const (.bool false)), none, (some 3), false⟩])
       (.ret [(.tmp 2), (.tmp 3)] [.none, .none]))
      (.skip)))
    (.seq (.ops [⟨.copy 4 (.const (.int .i64 (-1))), none, (some 4), false⟩])
     (.seq (.seq (.ops [⟨.copy 13 (.tmp 0), none, (some 13), false⟩,
         ⟨.call (some 14) 73 sg73 [(.tmp 13), (.const (.slice none 0 0))] [.none, .none], none, (some 14), false⟩,
         ⟨.len 15 false (.tmp 14), none, (some 15), false⟩,
         ⟨.copy 16 (.const (.int .i64 0)), none, (some 16), false⟩])
       (.block 0 (.loop [true, false, false, false, true, false, false, false, false, false, false, false, false, false, true, true, true, false, false, false, false, false, false, false, false, false, false, false, false, false, false, false, false, false, false, false, false, false, false, false, false, false, false, false, false]
         (.seq (.ops [⟨.bin 17 .lss (.tmp 16) (.tmp 15), none, (some 17), false⟩])
          (.seq (.cond (.tmp 17)
            (.skip)
            (.exit 0))
           (.seq (.block 1 (.seq (.ops [⟨.iadd 18 14 30 (.tmp 16), none, (some 18), false⟩,
                ⟨.loadE 19 14 18 none false, none, (some 19), false⟩,
                ⟨.copy 6 (.tmp 19), none, (some 6), false⟩])
              (.seq (.ops [⟨.copy 7 (.const (.int .i64 0)), none, (some 7), false⟩])
               (.seq (.seq (.ops [⟨.copy 20 (.tmp 6), none, (some 20), false⟩,
                   ⟨.call (some 21) 72 sg72 [(.tmp 20)] [.none], none, (some 21), false⟩,
                   ⟨.len 22 false (.tmp 21), none, (some 22), false⟩,
                   ⟨.copy 23 (.const (.int .i64 0)), none, (some 23), false⟩])
                 (.block 2 (.loop [true, false, false, false, true, false, false, true, false, false, false, false, false, false, true, true, true, false, false, false, false, true, true, true, false, false, false, false, false, false, false, false, false, false, false, false, false, false, false, false, false, false, false, false, false]
                   (.seq (.ops [⟨.bin 24 .lss (.tmp 23) (.tmp 22), none, (some 24), false⟩])
                    (.seq (.cond (.tmp 24)
                      (.skip)
                      (.exit 2))
                     (.seq (.block 3 (.seq (.ops [⟨.iadd 25 21 3 (.tmp 23), none, (some 25), false⟩,
                          ⟨.loadE 26 21 25 none true, none, (some 26), false⟩,
                          ⟨.copy 9 (.tmp 26), none, (some 9), false⟩])
                        (.ops [⟨.copy 27 (.tmp 7), none, (some 27), false⟩,
                          ⟨.copy 28 (.tmp 0), none, (some 28), false⟩,
                          ⟨.copy 29 (.tmp 9), none, (some 29), false⟩,
                          ⟨.iadd 30 28 26 (.tmp 29), none, (some 30), false⟩,
                          ⟨.loadE 31 28 30 (some 3) true, none, (some 31), false⟩,
                          ⟨.call (some 32) 74 sg74 [(.tmp 31)] [.none], none, (some 32), false⟩,
                          ⟨.bin 33 .add (.tmp 27) (.tmp 32), none, (some 33), false⟩,
                          ⟨.copy 7 (.tmp 33), none, (some 7), false⟩])))
                      (.ops [⟨.bin 34 .add (.tmp 23) (.const (.int .i64 1)), none, (some 34), false⟩,
                        ⟨.copy 23 (.tmp 34), none, (some 23), false⟩])))))))
                (.seq (.ops [⟨.copy 35 (.tmp 4), none, (some 35), false⟩,
                   ⟨.bin 36 .lss (.tmp 35) (.const (.int .i64 0)), none, (some 36), false⟩,
                   ⟨.copy 37 (.tmp 36), none, (some 37), false⟩,
                   ⟨.copy 38 (.tmp 7), (some (37, false)), (some 38), true⟩,
                   ⟨.copy 39 (.tmp 4), (some (37, false)), (some 39), true⟩,
                   ⟨.bin 40 .lss (.tmp 38) (.tmp 39), (some (37, false)), (some 40), true⟩,
                   ⟨.pick 41 (.tmp 37) (.const (.bool true)) (.tmp 40), none, (some 41), false⟩])
                 (.cond (.tmp 41)
                  (.ops [⟨.copy 42 (.tmp 7), none, (some 42), false⟩,
                    ⟨.copy 4 (.tmp 42), none, (some 4), false⟩])
                  (.skip)))))))
            (.ops [⟨.bin 43 .add (.tmp 16) (.const (.int .i64 1)), none, (some 43), false⟩,
              ⟨.copy 16 (.tmp 43), none, (some 16), false⟩])))))))
      (.seq (.ops [⟨.copy 44 (.tmp 4), none, (some 44), false⟩,
         ⟨.copy 2 (.tmp 44), none, (some 2), false⟩,
         ⟨.copy 3 (.const (.bool true)), none, (some 3), false⟩])
       (.ret [(.tmp 2), (.tmp 3)] [.none, .none])))))
theorem k42 (r58 r73 r72 r74 : Rel) : compileFn (E42 r58 r73 r72 r74) Try.f42 sg42 hs42 = some c42 := by kernel_rfl
/- (loop.example/g01334/impl.Box).volume -/
noncomputable def l78 : Deps := []
noncomputable def E78 : Env := mkE Try.prog [0, 1] [] (l78) []
noncomputable def hs78 : HS := []
noncomputable def c78 : Cmd :=
  .seq (.ops [⟨.box 1 .own (.tmp 0) .none, none, (some 1), false⟩,
     ⟨.copy 2 (.const (.int .i64 0)), none, (some 2), false⟩])
   (.seq (.ops [⟨.fadd 3 (.tmp 1) 0, none, (some 3), false⟩,
      ⟨.loadB 4 (.tmp 3) none true, none, (some 4), false⟩,
      ⟨.fadd 5 (.tmp 1) 1, none, (some 5), false⟩,
      ⟨.loadB 6 (.tmp 5) none true, none, (some 6), false⟩,
      ⟨.bin 7 .mul (.tmp 4) (.tmp 6), none, (some 7), false⟩,
      ⟨.fadd 8 (.tmp 1) 2, none, (some 8), false⟩,
      ⟨.loadB 9 (.tmp 8) none true, none, (some 9), false⟩,
      ⟨.bin 10 .mul (.tmp 7) (.tmp 9), none, (some 10), false⟩,
      ⟨.copy 2 (.tmp 10), none, (some 2), false⟩])
    (.ret [(.tmp 2)] [.none]))
theorem k78 : compileFn (E78) Try.f78 sg78 hs78 = some c78 := by kernel_rfl
/- loop.example/g01334/impl.LeastOuterVolume$1 -/
noncomputable def l76 (r77 r78 : Rel) : Deps := [(77, sg77, r77), (78, sg78, r78)]
noncomputable def E76 (r77 r78 : Rel) : Env := mkE Try.prog [0, 2, 4, 5, 6] [] (l76 r77 r78) []
noncomputable def hs76 : HS := [[0, 2, 3, 5, 6, 7, 11, 12, 13, 14, 15, 16, 17, 18, 19, 20, 21, 22]]
noncomputable def c76 : Cmd :=
  .seq (.ops [⟨.copy 3 (.const (.int .i64 0)), none, (some 3), false⟩])
   (.seq (.ops [⟨.copy 4 (.const (.int .i64 0)), none, (some 4), false⟩])
    (.seq (.seq (.ops [⟨.copy 7 (.tmp 0), none, (some 7), false⟩,
        ⟨.call (some 8) 77 sg77 [(.tmp 7)] [.none], none, (some 8), false⟩,
        ⟨.len 9 false (.tmp 8), none, (some 9), false⟩,
        ⟨.copy 10 (.const (.int .i64 0)), none, (some 10), false⟩])
      (.block 0 (.loop [false, true, false, false, true, false, false, false, true, true, true, false, false, false, false, false, false, false, false, false, false, false, false]
        (.seq (.ops [⟨.bin 11 .lss (.tmp 10) (.tmp 9), none, (some 11), false⟩])
         (.seq (.cond (.tmp 11)
           (.skip)
           (.exit 0))
          (.seq (.block 1 (.seq (.ops [⟨.iadd 12 8 3 (.tmp 10), none, (some 12), false⟩,
               ⟨.loadE 13 8 12 none true, none, (some 13), false⟩,
               ⟨.copy 6 (.tmp 13), none, (some 6), false⟩])
             (.ops [⟨.copy 14 (.tmp 4), none, (some 14), false⟩,
               ⟨.loadB 15 (.tmp 1) none false, none, (some 15), false⟩,
               ⟨.copy 16 (.tmp 6), none, (some 16), false⟩,
               ⟨.iadd 17 15 26 (.tmp 16), none, (some 17), false⟩,
               ⟨.loadE 18 15 17 (some 3) true, none, (some 18), false⟩,
               ⟨.call (some 19) 78 sg78 [(.tmp 18)] [.none], none, (some 19), false⟩,
               ⟨.bin 20 .add (.tmp 14) (.tmp 19), none, (some 20), false⟩,
               ⟨.copy 4 (.tmp 20), none, (some 4), false⟩])))
           (.ops [⟨.bin 21 .add (.tmp 10) (.const (.int .i64 1)), none, (some 21), false⟩,
             ⟨.copy 10 (.tmp 21), none, (some 10), false⟩])))))))
     (.seq (.ops [⟨.copy 22 (.tmp 4), none, (some 22), false⟩,
        ⟨.copy 3 (.tmp 22), none, (some 3), false⟩])
      (.ret [(.tmp 3)] [.none]))))
theorem k76 (r77 r78 : Rel) : compileFn (E76 r77 r78) Try.f76 sg76 hs76 = some c76 := by kernel_rfl
/- loop.example/g01334/impl.bestNesting$1 -/
noncomputable def l99a (r65 r57 r86 r76 r99 : Rel) : Deps := [(65, sg65, r65), (57, sg57, r57), (86, sg86, r86), (76, sg76, r76), (99, sg99, r99)]
noncomputable def E99a (r65 r57 r86 r76 r99 : Rel) : Env := mkE Try.prog [0, 7, 8, 9, 10, 11] [] (l99a r65 r57 r86 r76 r99) [(18, 76, 1), (37, 99, 6), (62, 99, 6)]
noncomputable def hs99a : HS := [[2, 3, 4, 5, 7, 9, 10, 11, 12, 13, 14, 15, 16, 17, 18, 19, 20, 21, 22, 23, 24, 25, 26, 27, 28, 29, 30, 31, 32, 33, 34, 35, 36, 37, 38, 39, 40, 41, 42, 46, 47, 48, 49, 50, 51, 52, 53, 54, 55, 56, 61, 62, 63, 64, 65, 66, 67, 68, 69]]
noncomputable def c99a : Cmd :=
  .seq (.seq (.ops [⟨.copy 12 (.tmp 0), none, (some 12), false⟩,
      ⟨.len 13 false (.tmp 12), none, (some 13), false⟩,
      ⟨.copy 8 (.tmp 13), none, (some 8), false⟩])
    (.seq (.seq (.ops [⟨.copy 14 (.tmp 8), none, (some 14), false⟩,
        ⟨.loadB 15 (.tmp 1) none false, none, (some 15), false⟩,
        ⟨.len 16 false (.tmp 15), none, (some 16), false⟩,
        ⟨.bin 17 .eql (.tmp 14) (.tmp 16), none, (some 17), false⟩])
      (.cond (.tmp 17)
       (.seq (.seq (.ops [⟨.loadB 18 (.tmp 2) none false, none, (some 18), false⟩,
           ⟨.copy 19 (.tmp 0), none, (some 19), false⟩,
           ⟨.callv (some 20) (.tmp 18) 76 1 sg76 [(.tmp 19)] [.none], none, (some 20), false⟩,
           ⟨.copy 9 (.tmp 20), none, (some 9), false⟩])
         (.block 0 (.seq (.ops [⟨.loadB 22 (.tmp 3) none true, none, (some 22), false⟩,
             ⟨.bin 23 .eql (.tmp 22) (.const (.int .i64 0)), none, (some 23), false⟩,
             ⟨.copy 24 (.tmp 23), none, (some 24), false⟩,
             ⟨.copy 25 (.tmp 9), (some (24, false)), (some 25), true⟩,
             ⟨.loadB 26 (.tmp 4) none true, (some (24, false)), (some 26), true⟩,
             ⟨.bin 27 .lss (.tmp 25) (.tmp 26), (some (24, false)), (some 27), true⟩,
             ⟨.pick 28 (.tmp 24) (.const (.bool true)) (.tmp 27), none, (some 28), false⟩,
             ⟨.copy 21 (.tmp 28), none, (some 21), false⟩])
           (.cond (.tmp 21)
            (.ops [⟨.copy 29 (.tmp 0), none, (some 29), false⟩,
              ⟨.copy 30 (.tmp 9), none, (some 30), false⟩,
              ⟨.storeB (.tmp 5) (.tmp 29) none (.slot 0), none, none, false⟩,
              ⟨.storeB (.tmp 4) (.tmp 30) none .none, none, none, false⟩,
              ⟨.storeB (.tmp 3) (.const (.int .i64 1)) none .none, none, none, false⟩])
            (.seq (.ops [⟨.copy 32 (.tmp 9), none, (some 32), false⟩,
               ⟨.loadB 33 (.tmp 4) none true, none, (some 33), false⟩,
               ⟨.bin 34 .eql (.tmp 32) (.tmp 33), none, (some 34), false⟩,
               ⟨.copy 31 (.tmp 34), none, (some 31), false⟩])
             (.cond (.tmp 31)
              (.ops [⟨.loadB 35 (.tmp 3) none true, none, (some 35), false⟩,
                ⟨.bin 36 .add (.tmp 35) (.const (.int .i64 1)), none, (some 36), false⟩,
                ⟨.storeB (.tmp 3) (.tmp 36) none .none, none, none, false⟩])
              (.skip)))))))
        (.ret [] []))
       (.skip)))
     (.seq (.ops [⟨.loadB 37 (.tmp 6) none false, none, (some 37), false⟩,
        ⟨.copy 38 (.tmp 0), none, (some 38), false⟩,
        ⟨.call (some 39) 65 sg65 [(.tmp 38)] [.none], none, (some 39), false⟩,
        ⟨.lit 40 3 1 [(.const (.int .i64 (-1)))] [.none], none, (some 40), false⟩,
        ⟨.app 41 3 8 true (.tmp 39) (.tmp 40) [(.slot 39), .none], none, (some 41), false⟩,
        ⟨.callv (some 42) (.tmp 37) 99 6 sg99 [(.tmp 41)] [(.slot 41)], none, (some 42), false⟩])
      (.seq (.ops [⟨.loadB 43 (.tmp 1) none false, none, (some 43), false⟩,
         ⟨.len 44 false (.tmp 43), none, (some 44), false⟩,
         ⟨.copy 45 (.const (.int .i64 0)), none, (some 45), false⟩])
       (.block 1 (.loop [true, true, false, false, false, false, true, false, true, false, false, false, false, false, false, false, false, false, false, false, false, false, false, false, false, false, false, false, false, false, false, false, false, false, false, false, false, false, false, false, false, false, false, true, true, true, false, false, false, false, false, false, false, false, false, false, false, false, false, false, false, false, false, false, false, false, false, false, false, false]
         (.seq (.ops [⟨.bin 46 .lss (.tmp 45) (.tmp 44), none, (some 46), false⟩])
          (.seq (.cond (.tmp 46)
            (.skip)
            (.exit 1))
           (.seq (.block 2 (.seq (.ops [⟨.copy 47 (.tmp 45), none, (some 47), false⟩,
                ⟨.iadd 48 43 26 (.tmp 45), none, (some 48), false⟩,
                ⟨.loadE 49 43 48 (some 3) true, none, (some 49), false⟩,
                ⟨.alloc 11 .own [(.int .i64 0), (.int .i64 0), (.int .i64 0)], none, (some 11), false⟩,
                ⟨.copy 10 (.tmp 47), none, (some 10), false⟩,
                ⟨.storeB (.tmp 11) (.tmp 49) (some 3) .none, none, none, false⟩])
              (.seq (.ops [⟨.loadB 50 (.tmp 1) none false, none, (some 50), false⟩,
                 ⟨.copy 51 (.tmp 8), none, (some 51), false⟩,
                 ⟨.iadd 52 50 26 (.tmp 51), none, (some 52), false⟩,
                 ⟨.loadE 53 50 52 (some 3) true, none, (some 53), false⟩,
                 ⟨.loadB 54 (.tmp 11) (some 3) true, none, (some 54), false⟩,
                 ⟨.call (some 55) 57 sg57 [(.tmp 53), (.tmp 54)] [.none, .none], none, (some 55), false⟩,
                 ⟨.copy 56 (.tmp 55), none, (some 56), false⟩,
                 ⟨.copy 57 (.tmp 0), (some (56, true)), (some 57), false⟩,
                 ⟨.copy 58 (.tmp 10), (some (56, true)), (some 58), true⟩,
                 ⟨.call (some 59) 86 sg86 [(.tmp 57), (.tmp 58)] [.none, .none], (some (56, true)), (some 59), true⟩,
                 ⟨.un 60 .not (.tmp 59), (some (56, true)), (some 60), true⟩,
                 ⟨.pick 61 (.tmp 56) (.tmp 60) (.const (.bool false)), none, (some 61), false⟩])
               (.cond (.tmp 61)
                (.ops [⟨.loadB 62 (.tmp 6) none false, none, (some 62), false⟩,
                  ⟨.copy 63 (.tmp 0), none, (some 63), false⟩,
                  ⟨.call (some 64) 65 sg65 [(.tmp 63)] [.none], none, (some 64), false⟩,
                  ⟨.copy 65 (.tmp 10), none, (some 65), false⟩,
                  ⟨.lit 66 3 1 [(.tmp 65)] [.none], none, (some 66), false⟩,
                  ⟨.app 67 3 8 true (.tmp 64) (.tmp 66) [(.slot 64), .none], none, (some 67), false⟩,
                  ⟨.callv (some 68) (.tmp 62) 99 6 sg99 [(.tmp 67)] [(.slot 67)], none, (some 68), false⟩])
                (.skip)))))
            (.ops [⟨.bin 69 .add (.tmp 45) (.const (.int .i64 1)), none, (some 69), false⟩,
              ⟨.copy 45 (.tmp 69), none, (some 45), false⟩]))))))))))
   (.ret [] [])
theorem k99a (r65 r57 r86 r76 r99 : Rel) : compileFn (E99a r65 r57 r86 r76 r99) Try.f99 sg99 hs99a = some c99a := by kernel_rfl
/- loop.example/g01334/impl.bestNesting -/
noncomputable def l75a (r99 : Rel) : Deps := [(99, sg99, r99)]
noncomputable def E75a (r99 : Rel) : Env := mkE Try.prog [0, 1, 2, 3, 7, 8, 9, 10] [] (l75a r99) [(12, 99, 6)]
noncomputable def hs75a : HS := []
noncomputable def c75a : Cmd :=
  .seq (.ops [⟨.box 2 .sh (.tmp 0) .none, none, (some 2), false⟩,
     ⟨.box 3 .fn (.tmp 1) .none, none, (some 3), false⟩,
     ⟨.copy 4 (.const (.slice none 0 0)), none, (some 4), false⟩,
     ⟨.copy 5 (.const (.int .i64 0)), none, (some 5), false⟩,
     ⟨.copy 6 (.const (.int .i64 0)), none, (some 6), false⟩])
   (.seq (.ops [⟨.alloc 7 .own [.nil], none, (some 7), false⟩,
      ⟨.alloc 8 .own [(.int .i64 0)], none, (some 8), false⟩,
      ⟨.alloc 9 .own [(.int .i64 0)], none, (some 9), false⟩,
      ⟨.storeB (.tmp 7) (.const (.slice none 0 0)) none .none, none, none, false⟩,
      ⟨.storeB (.tmp 8) (.const (.int .i64 0)) none .none, none, none, false⟩,
      ⟨.storeB (.tmp 9) (.const (.int .i64 0)) none .none, none, none, false⟩])
    (.seq (.ops [⟨.alloc 10 .fn [.nilf], none, (some 10), false⟩])
     (.seq (.ops [⟨.mkfn 11 99 [(.tmp 2), (.tmp 3), (.tmp 9), (.tmp 8), (.tmp 7), (.tmp 10)], none, (some 11), false⟩,
        ⟨.storeB (.tmp 10) (.tmp 11) none .none, none, none, false⟩])
      (.seq (.ops [⟨.loadB 12 (.tmp 10) none false, none, (some 12), false⟩,
         ⟨.callv (some 13) (.tmp 12) 99 6 sg99 [(.const (.slice none 0 0))] [.none], none, (some 13), false⟩])
       (.seq (.ops [⟨.loadB 14 (.tmp 7) none false, none, (some 14), false⟩,
          ⟨.loadB 15 (.tmp 8) none true, none, (some 15), false⟩,
          ⟨.loadB 16 (.tmp 9) none true, none, (some 16), false⟩,
          ⟨.copy 4 (.tmp 14), none, (some 4), false⟩,
          ⟨.copy 5 (.tmp 15), none, (some 5), false⟩,
          ⟨.copy 6 (.tmp 16), none, (some 6), false⟩])
        (.ret [(.tmp 4), (.tmp 5), (.tmp 6)] [(.box 7 0), .none, .none]))))))
theorem k75a (r99 : Rel) : compileFn (E75a r99) Try.f75 sg75 hs75a = some c75a := by kernel_rfl
/- loop.example/g01334/impl.LeastOuterVolume -/
noncomputable def l43 (r60 r75 : Rel) : Deps := [(60, sg60, r60), (75, sg75, r75)]
noncomputable def E43 (r60 r75 : Rel) : Env := mkE Try.prog [0, 1, 4, 5, 6] [] (l43 r60 r75) []
noncomputable def hs43 : HS := []
noncomputable def c43 : Cmd :=
  .seq (.ops [⟨.box 1 .sh (.tmp 0) .none, none, (some 1), false⟩,
     ⟨.copy 2 (.const (.int .i64 0)), none, (some 2), false⟩,
     ⟨.copy 3 (.const (.bool false)), none, (some 3), false⟩])
   (.seq (.seq (.ops [⟨.loadB 7 (.tmp 1) none false, none, (some 7), false⟩,
       ⟨.call (some 8) 60 sg60 [(.tmp 7)] [.none], none, (some 8), false⟩,
       ⟨.un 9 .not (.tmp 8), none, (some 9), false⟩])
     (.cond (.tmp 9)
      (.seq (.ops [⟨.copy 2 (.const (.int .i64 0)), none, (some 2), false⟩,
         ⟨.copy 3 (.const (.bool false)), none, (some 3), false⟩])
       (.ret [(.tmp 2), (.tmp 3)] [.none, .none]))
      (.skip)))
    (.seq (.ops [⟨.loadB 11 (.tmp 1) none false, none, (some 11), false⟩,
       ⟨.mkfn 12 76 [(.tmp 1)], none, (some 12), false⟩,
       ⟨.call (some 13) 75 sg75 [(.tmp 11), (.tmp 12)] [.none, .none], none, (some 13), false⟩,
       ⟨.copy 10 (.tmp 13), none, (some 10), false⟩,
       ⟨.ext 14 10 0, none, (some 14), false⟩,
       ⟨.ext 15 10 1, none, (some 15), false⟩,
       ⟨.ext 16 10 2, none, (some 16), false⟩,
       ⟨.take 4 (.tmp 14) (.slot 14), none, (some 4), false⟩,
       ⟨.copy 5 (.tmp 15), none, (some 5), false⟩,
       ⟨.copy 6 (.tmp 16), none, (some 6), false⟩])
     (.seq (.ops [⟨.copy 17 (.tmp 5), none, (some 17), false⟩,
        ⟨.copy 2 (.tmp 17), none, (some 2), false⟩,
        ⟨.copy 3 (.const (.bool true)), none, (some 3), false⟩])
      (.ret [(.tmp 2), (.tmp 3)] [.none, .none]))))
theorem k43 (r60 r75 : Rel) : compileFn (E43 r60 r75) Try.f43 sg43 hs43 = some c43 := by kernel_rfl
/- loop.example/g01334/laws.FnExactLeastOuterVolume -/
noncomputable def l10 (r19 r21 r42 r43 r24 : Rel) : Deps := [(19, sg19, r19), (21, sg21, r21), (42, sg42, r42), (43, sg43, r43), (24, sg24, r24)]
noncomputable def E10 (r19 r21 r42 r43 r24 : Rel) : Env := mkE Try.prog [0, 1, 3, 4, 5, 6, 7, 8] [] (l10 r19 r21 r42 r43 r24) []
noncomputable def hs10 : HS := []
noncomputable def c10 : Cmd :=
  .seq (.ops [⟨.copy 2 (.const (.bool false)), none, (some 2), false⟩])
   (.seq (.ops [⟨.copy 3 (.const (.int .i64 1048576)), none, (some 3), false⟩])
    (.seq (.ops [⟨.copy 9 (.tmp 0), none, (some 9), false⟩,
       ⟨.copy 10 (.tmp 3), none, (some 10), false⟩,
       ⟨.call (some 11) 19 sg19 [(.tmp 9), (.tmp 10)] [.none, .none], none, (some 11), false⟩,
       ⟨.copy 3 (.tmp 11), none, (some 3), false⟩])
     (.seq (.seq (.ops [⟨.copy 12 (.tmp 3), none, (some 12), false⟩,
         ⟨.bin 13 .lss (.tmp 12) (.const (.int .i64 0)), none, (some 13), false⟩])
       (.cond (.tmp 13)
        (.seq (.ops [⟨.copy 2 (.const (.bool true)), none, (some 2), false⟩])
         (.ret [(.tmp 2)] [.none]))
        (.skip)))
      (.seq (.ops [⟨.copy 15 (.tmp 0), none, (some 15), false⟩,
         ⟨.call (some 16) 21 sg21 [(.tmp 15)] [.none], none, (some 16), false⟩,
         ⟨.call (some 17) 42 sg42 [(.tmp 16)] [.none], none, (some 17), false⟩,
         ⟨.copy 14 (.tmp 17), none, (some 14), false⟩,
         ⟨.ext 18 14 0, none, (some 18), false⟩,
         ⟨.ext 19 14 1, none, (some 19), false⟩,
         ⟨.copy 4 (.tmp 18), none, (some 4), false⟩,
         ⟨.copy 5 (.tmp 19), none, (some 5), false⟩])
       (.seq (.ops [⟨.copy 20 (.tmp 0), none, (some 20), false⟩,
          ⟨.call (some 21) 21 sg21 [(.tmp 20)] [.none], none, (some 21), false⟩,
          ⟨.take 6 (.tmp 21) (.slot 21), none, (some 6), false⟩])
        (.seq (.ops [⟨.copy 23 (.tmp 6), none, (some 23), false⟩,
           ⟨.call (some 24) 43 sg43 [(.tmp 23)] [.none], none, (some 24), false⟩,
           ⟨.copy 22 (.tmp 24), none, (some 22), false⟩,
           ⟨.ext 25 22 0, none, (some 25), false⟩,
           ⟨.ext 26 22 1, none, (some 26), false⟩,
           ⟨.copy 7 (.tmp 25), none, (some 7), false⟩,
           ⟨.copy 8 (.tmp 26), none, (some 8), false⟩])
         (.seq (.seq (.ops [⟨.copy 27 (.tmp 7), none, (some 27), false⟩,
             ⟨.copy 28 (.tmp 4), none, (some 28), false⟩,
             ⟨.bin 29 .neq (.tmp 27) (.tmp 28), none, (some 29), false⟩,
             ⟨.copy 30 (.tmp 29), none, (some 30), false⟩,
             ⟨.copy 31 (.tmp 8), (some (30, false)), (some 31), true⟩,
             ⟨.copy 32 (.tmp 5), (some (30, false)), (some 32), true⟩,
             ⟨.beq 33 true (.tmp 31) (.tmp 32), (some (30, false)), (some 33), true⟩,
             ⟨.pick 34 (.tmp 30) (.const (.bool true)) (.tmp 33), none, (some 34), false⟩])
           (.cond (.tmp 34)
            (.seq (.ops [⟨.copy 2 (.const (.bool false)), none, (some 2), false⟩])
             (.ret [(.tmp 2)] [.none]))
            (.skip)))
          (.seq (.seq (.ops [⟨.copy 35 (.tmp 6), none, (some 35), false⟩,
              ⟨.copy 36 (.tmp 0), none, (some 36), false⟩,
              ⟨.call (some 37) 21 sg21 [(.tmp 36)] [.none], none, (some 37), false⟩,
              ⟨.call (some 38) 24 sg24 [(.tmp 35), (.tmp 37)] [.none, .none], none, (some 38), false⟩,
              ⟨.un 39 .not (.tmp 38), none, (some 39), false⟩])
            (.cond (.tmp 39)
             (.seq (.ops [⟨.copy 2 (.const (.bool false)), none, (some 2), false⟩])
              (.ret [(.tmp 2)] [.none]))
             (.skip)))
           (.seq (.ops [⟨.copy 2 (.const (.bool true)), none, (some 2), false⟩])
            (.ret [(.tmp 2)] [.none]))))))))))
theorem k10 (r19 r21 r42 r43 r24 : Rel) : compileFn (E10 r19 r21 r42 r43 r24) Try.f10 sg10 hs10 = some c10 := by kernel_rfl
end Go.Proofs.Ytnkjbncagnfnoaa
