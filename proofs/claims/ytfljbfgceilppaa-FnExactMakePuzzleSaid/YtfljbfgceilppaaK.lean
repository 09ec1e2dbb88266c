/- The functions that DoesFit reaches, as commands, each checked by the kernel. Conditions: none. -/
import Derived.Test.YtfljbfgceilppaaDenC
import Derived.KernelRfl
import Derived.Test.YtfljbfgceilppaaProg
set_option linter.unusedVariables false
set_option linter.unusedSimpArgs false
set_option linter.unnecessarySimpa false
set_option autoImplicit false
set_option linter.unusedVariables false
set_option linter.unusedSimpArgs false
set_option linter.unnecessarySimpa false
namespace Go.Proofs.Ytfljbfgceilppaa
open Go.Den
abbrev sg3 : Sig := { ps := [.fl, .rd], rs := [.fl], pure := true }
abbrev sg14 : Sig := { ps := [.fl, .rd], rs := [.fl, .fl], pure := true }
abbrev sg15 : Sig := { ps := [.fl], rs := [.fl], pure := true }
abbrev sg16 : Sig := { ps := [.rd], rs := [.own], pure := true }
abbrev sg17 : Sig := { ps := [.fl, .rd], rs := [.fl, .fl], pure := true }
abbrev sg18 : Sig := { ps := [.rd, .rd], rs := [.fl], pure := true }
abbrev sg49 : Sig := { ps := [.rd], rs := [.fl], pure := true }
abbrev sg50 : Sig := { ps := [.fl, .fl], rs := [.fl], pure := true }
abbrev sg51 : Sig := { ps := [.fl, .rd], rs := [.fl], pure := true }
abbrev sg52 : Sig := { ps := [.rd], rs := [.fl], pure := true }
abbrev sg53 : Sig := { ps := [.fl, .fl], rs := [.fl], pure := true }
abbrev sg54 : Sig := { ps := [.fl, .rd], rs := [.fl], pure := true }
abbrev sg55 : Sig := { ps := [.fl, .fl, .fl], rs := [.fl], pure := true }
abbrev sg58 : Sig := { ps := [.fl, .fl, .fl], rs := [.fl], pure := true }
abbrev sg60 : Sig := { ps := [.fl, .fl, .fl, .rd], rs := [.fl], pure := true }
abbrev sg71 : Sig := { ps := [.rd], rs := [.own], pure := true }
abbrev sg72 : Sig := { ps := [.rd], rs := [.own], pure := true }
abbrev sg76 : Sig := { ps := [.fl], rs := [.fl], pure := true }
abbrev sg77 : Sig := { ps := [.rd, .fl, .fl], rs := [.fl], pure := true }
abbrev sg78 : Sig := { ps := [.fl, .fl, .fl, .rd], rs := [.fl], pure := true }
abbrev sg79 : Sig := { ps := [.rd, .fl, .fl], rs := [.fl], pure := true }
abbrev sg80 : Sig := { ps := [.rd], rs := [.fl], pure := true }
abbrev sg81 : Sig := { ps := [.fl], rs := [.fl], pure := true }
abbrev sg82 : Sig := { ps := [.rd, .fl], rs := [.fl, .fl], pure := true }
abbrev sg83 : Sig := { ps := [.rd, .fl], rs := [.fz, .fl], pure := true }
abbrev sg84 : Sig := { ps := [.rd], rs := [.fl], pure := true }
abbrev sg92 : Sig := { ps := [.rd], rs := [.fl], pure := true }
abbrev sg93 : Sig := { ps := [.rd, .fl], rs := [.fl, .own, .fl], pure := true }
abbrev sg94 : Sig := { ps := [.rd], rs := [.fl], pure := true }
abbrev sg95 : Sig := { ps := [.rd, .fn], rs := [.fl], pure := true }
abbrev sg96 : Sig := { ps := [.fl, .ptr .sh, .ptr .sh], rs := [.fl], pure := true }
abbrev sg97 : Sig := { ps := [.rd, .fl], rs := [.fl], pure := true }
abbrev sg98 : Sig := { ps := [.rd, .fl], rs := [.own], pure := true }
abbrev sg99 : Sig := { ps := [.rd], rs := [.fl], pure := true }
abbrev sg100 : Sig := { ps := [.own, .fl, .fl, .ptr .sh, .ptr .fn], rs := [.fz, .fl], pure := true }
abbrev sg102 : Sig := { ps := [.rd, .fl, .rd, .rd, .fl], rs := [.own, .fl], pure := true }
abbrev sg103 : Sig := { ps := [.fl, .fl], rs := [.fl], pure := true }
abbrev sg104 : Sig := { ps := [.rd, .fn], rs := [.fl], pure := true }
abbrev sg105 : Sig := { ps := [.rd, .fl, .fl, .fn], rs := [.fl], pure := false }
abbrev sg106 : Sig := { ps := [.own, .ptr .own], rs := [.fl], pure := false }
abbrev sg107 : Sig := { ps := [.own, .rd, .ptr .sh, .ptr .fn, .ptr .own, .ptr .own, .ptr .fn], rs := [.fl], pure := false }
/- loop.example/g01334/laws.toClue -/
noncomputable def l15 : Deps := []
noncomputable def E15 : Env := mkE Try.prog [0, 1, 3] [] (l15) []
noncomputable def hs15 : HS := []
noncomputable def c15 : Cmd :=
  .seq (.ops [⟨.box 1 .own (.tmp 0) .none, none, (some 1), false⟩,
     ⟨.alloc 2 .own [(.int .i64 0), (.int .i64 0), (.int .i64 0), (.int .i64 0)], none, (some 2), false⟩])
   (.seq (.ops [⟨.alloc 3 .own [(.int .i64 0), (.int .i64 0), (.int .i64 0), (.int .i64 0)], none, (some 3), false⟩])
    (.seq (.ops [⟨.fadd 4 (.tmp 1) 0, none, (some 4), false⟩,
       ⟨.loadB 5 (.tmp 4) none true, none, (some 5), false⟩,
       ⟨.fadd 6 (.tmp 3) 0, none, (some 6), false⟩,
       ⟨.storeB (.tmp 6) (.tmp 5) none .none, none, none, false⟩])
     (.seq (.ops [⟨.fadd 7 (.tmp 1) 1, none, (some 7), false⟩,
        ⟨.loadB 8 (.tmp 7) none true, none, (some 8), false⟩,
        ⟨.fadd 9 (.tmp 3) 1, none, (some 9), false⟩,
        ⟨.storeB (.tmp 9) (.tmp 8) none .none, none, none, false⟩])
      (.seq (.ops [⟨.fadd 10 (.tmp 1) 2, none, (some 10), false⟩,
         ⟨.loadB 11 (.tmp 10) none true, none, (some 11), false⟩,
         ⟨.fadd 12 (.tmp 3) 2, none, (some 12), false⟩,
         ⟨.storeB (.tmp 12) (.tmp 11) none .none, none, none, false⟩])
       (.seq (.ops [⟨.fadd 13 (.tmp 1) 3, none, (some 13), false⟩,
          ⟨.loadB 14 (.tmp 13) none true, none, (some 14), false⟩,
          ⟨.fadd 15 (.tmp 3) 3, none, (some 15), false⟩,
          ⟨.storeB (.tmp 15) (.tmp 14) none .none, none, none, false⟩])
        (.seq (.ops [⟨.loadB 16 (.tmp 3) (some 4) true, none, (some 16), false⟩,
           ⟨.storeB (.tmp 2) (.tmp 16) (some 4) .none, none, none, false⟩])
         (.ret [(.cell 2 (some 4) true)] [.none])))))))
theorem k15 : compileFn (E15) Try.f15 sg15 hs15 = some c15 := by kernel_rfl
/- loop.example/g01334/laws.toIntS -/
noncomputable def l16 : Deps := []
noncomputable def E16 : Env := mkE Try.prog [0, 1, 3, 4] [] (l16) []
noncomputable def hs16 : HS := [[1, 2, 5, 6, 7, 8, 9, 10, 11, 12, 13, 14, 15, 16, 17, 18, 19, 20, 21]]
noncomputable def c16 : Cmd :=
  .seq (.ops [⟨.copy 2 (.const (.slice none 0 0)), none, (some 2), false⟩])
   (.seq (.ops [⟨.copy 5 (.tmp 0), none, (some 5), false⟩,
      ⟨.len 6 false (.tmp 5), none, (some 6), false⟩,
      ⟨.mks 7 3 8 (.int .i64 0) (.tmp 6) (.tmp 6), none, (some 7), false⟩,
      ⟨.take 3 (.tmp 7) (.slot 7), none, (some 3), false⟩])
    (.seq (.seq (.ops [⟨.copy 4 (.const (.int .i64 0)), none, (some 4), false⟩])
      (.block 0 (.loop [true, false, false, true, true, false, false, false, false, false, false, false, false, false, false, false, false, false, false, false, false, false]
        (.seq (.seq (.ops [⟨.copy 8 (.tmp 4), none, (some 8), false⟩,
            ⟨.copy 9 (.tmp 0), none, (some 9), false⟩,
            ⟨.len 10 false (.tmp 9), none, (some 10), false⟩,
            ⟨.bin 11 .lss (.tmp 8) (.tmp 10), none, (some 11), false⟩])
          (.cond (.tmp 11)
           (.skip)
           (.exit 0)))
         (.seq (.block 1 (.ops [⟨.copy 14 (.tmp 3), none, (some 14), false⟩,
             ⟨.copy 15 (.tmp 4), none, (some 15), false⟩,
             ⟨.copy 16 (.tmp 0), none, (some 16), false⟩,
             ⟨.copy 17 (.tmp 4), none, (some 17), false⟩,
             ⟨.iadd 18 16 3 (.tmp 17), none, (some 18), false⟩,
             ⟨.loadE 19 16 18 none true, none, (some 19), false⟩,
             ⟨.iadd 20 14 3 (.tmp 15), none, (some 20), false⟩,
             ⟨.storeE 3 20 none (.tmp 19), none, none, false⟩]))
          (.ops [⟨.copy 12 (.tmp 4), none, (some 12), false⟩,
            ⟨.bin 13 .add (.tmp 12) (.const (.int .i64 1)), none, (some 13), false⟩,
            ⟨.copy 4 (.tmp 13), none, (some 4), false⟩]))))))
     (.seq (.ops [⟨.copy 21 (.tmp 3), none, (some 21), false⟩,
        ⟨.copy 2 (.tmp 21), none, (some 2), false⟩])
      (.ret [(.tmp 2)] [(.slot 3)]))))
theorem k16 : compileFn (E16) Try.f16 sg16 hs16 = some c16 := by kernel_rfl
/- loop.example/g01334/spec.l1In -/
noncomputable def l55 : Deps := []
noncomputable def E55 : Env := mkE Try.prog [0, 1, 2, 3, 4, 5] [] (l55) []
noncomputable def hs55 : HS := []
noncomputable def c55 : Cmd :=
  .seq (.ops [⟨.copy 6 (.const (.bool false)), none, (some 6), false⟩])
   (.seq (.ops [⟨.copy 7 (.tmp 0), none, (some 7), false⟩,
      ⟨.copy 8 (.tmp 1), none, (some 8), false⟩,
      ⟨.bin 9 .geq (.tmp 7) (.tmp 8), none, (some 9), false⟩,
      ⟨.copy 10 (.tmp 9), none, (some 10), false⟩,
      ⟨.copy 11 (.tmp 0), (some (10, true)), (some 11), true⟩,
      ⟨.copy 12 (.tmp 2), (some (10, true)), (some 12), true⟩,
      ⟨.bin 13 .leq (.tmp 11) (.tmp 12), (some (10, true)), (some 13), true⟩,
      ⟨.pick 14 (.tmp 10) (.tmp 13) (.const (.bool false)), none, (some 14), false⟩,
      ⟨.copy 6 (.tmp 14), none, (some 6), false⟩])
    (.ret [(.tmp 6)] [.none]))
theorem k55 : compileFn (E55) Try.f55 sg55 hs55 = some c55 := by kernel_rfl
/- loop.example/g01334/spec.pzThings -/
noncomputable def l76 (r55 : Rel) : Deps := [(55, sg55, r55)]
noncomputable def E76 (r55 : Rel) : Env := mkE Try.prog [0, 1] [] (l76 r55) []
noncomputable def hs76 : HS := []
noncomputable def c76 : Cmd :=
  .seq (.ops [⟨.copy 2 (.const (.bool false)), none, (some 2), false⟩])
   (.seq (.ops [⟨.copy 3 (.tmp 0), none, (some 3), false⟩,
      ⟨.call (some 4) 55 sg55 [(.tmp 3), (.const (.int .i64 2)), (.const (.int .i64 4))] [.none, .none, .none], none, (some 4), false⟩,
      ⟨.copy 2 (.tmp 4), none, (some 2), false⟩])
    (.ret [(.tmp 2)] [.none]))
theorem k76 (r55 : Rel) : compileFn (E76 r55) Try.f76 sg76 hs76 = some c76 := by kernel_rfl
/- loop.example/g01334/spec.l1All -/
noncomputable def l77 (r55 : Rel) : Deps := [(55, sg55, r55)]
noncomputable def E77 (r55 : Rel) : Env := mkE Try.prog [0, 1, 2, 3, 4, 5, 7, 8] [] (l77 r55) []
noncomputable def hs77 : HS := [[0, 3, 4, 5, 6, 7, 8, 12, 13, 14, 15, 16, 17, 18, 19, 20]]
noncomputable def c77 : Cmd :=
  .seq (.ops [⟨.copy 6 (.const (.bool false)), none, (some 6), false⟩])
   (.seq (.seq (.ops [⟨.copy 9 (.tmp 0), none, (some 9), false⟩,
       ⟨.len 10 false (.tmp 9), none, (some 10), false⟩,
       ⟨.copy 11 (.const (.int .i64 0)), none, (some 11), false⟩])
     (.block 0 (.loop [false, true, true, false, false, false, false, false, false, true, true, true, false, false, false, false, false, false, false, false, false]
       (.seq (.ops [⟨.bin 12 .lss (.tmp 11) (.tmp 10), none, (some 12), false⟩])
        (.seq (.cond (.tmp 12)
          (.skip)
          (.exit 0))
         (.seq (.block 1 (.seq (.ops [⟨.iadd 13 9 3 (.tmp 11), none, (some 13), false⟩,
              ⟨.loadE 14 9 13 none true, none, (some 14), false⟩,
              ⟨.copy 8 (.tmp 14), none, (some 8), false⟩])
            (.seq (.ops [⟨.copy 15 (.tmp 8), none, (some 15), false⟩,
               ⟨.copy 16 (.tmp 1), none, (some 16), false⟩,
               ⟨.copy 17 (.tmp 2), none, (some 17), false⟩,
               ⟨.call (some 18) 55 sg55 [(.tmp 15), (.tmp 16), (.tmp 17)] [.none, .none, .none], none, (some 18), false⟩,
               ⟨.un 19 .not (.tmp 18), none, (some 19), false⟩])
             (.cond (.tmp 19)
              (.seq (.ops [⟨.copy 6 (.const (.bool false)), none, (some 6), false⟩])
               (.ret [(.tmp 6)] [.none]))
              (.skip)))))
          (.ops [⟨.bin 20 .add (.tmp 11) (.const (.int .i64 1)), none, (some 20), false⟩,
            ⟨.copy 11 (.tmp 20), none, (some 11), false⟩])))))))
    (.seq (.ops [⟨.copy 6 (.const (.bool true)), none, (some 6), false⟩])
     (.ret [(.tmp 6)] [.none])))
theorem k77 (r55 : Rel) : compileFn (E77 r55) Try.f77 sg77 hs77 = some c77 := by kernel_rfl
/- loop.example/g01334/spec.pzHidden -/
noncomputable def l49 (r76 r77 : Rel) : Deps := [(76, sg76, r76), (77, sg77, r77)]
noncomputable def E49 (r76 r77 : Rel) : Env := mkE Try.prog [0, 1] [] (l49 r76 r77) []
noncomputable def hs49 : HS := []
noncomputable def c49 : Cmd :=
  .seq (.ops [⟨.copy 2 (.const (.bool false)), none, (some 2), false⟩])
   (.seq (.ops [⟨.copy 3 (.tmp 0), none, (some 3), false⟩,
      ⟨.len 4 false (.tmp 3), none, (some 4), false⟩,
      ⟨.call (some 5) 76 sg76 [(.tmp 4)] [.none], none, (some 5), false⟩,
      ⟨.copy 6 (.tmp 5), none, (some 6), false⟩,
      ⟨.copy 7 (.tmp 0), (some (6, true)), (some 7), false⟩,
      ⟨.call (some 8) 77 sg77 [(.tmp 7), (.const (.int .i64 1)), (.const (.int .i64 6))] [.none, .none, .none], (some (6, true)), (some 8), true⟩,
      ⟨.pick 9 (.tmp 6) (.tmp 8) (.const (.bool false)), none, (some 9), false⟩,
      ⟨.copy 2 (.tmp 9), none, (some 2), false⟩])
    (.ret [(.tmp 2)] [.none]))
theorem k49 (r76 r77 : Rel) : compileFn (E49 r76 r77) Try.f49 sg49 hs49 = some c49 := by kernel_rfl
/- loop.example/g01334/spec.pzClue -/
noncomputable def l50 (r55 : Rel) : Deps := [(55, sg55, r55)]
noncomputable def E50 (r55 : Rel) : Env := mkE Try.prog [0, 1, 2, 3, 5, 6] [] (l50 r55) []
noncomputable def hs50 : HS := []
noncomputable def c50 : Cmd :=
  .seq (.ops [⟨.box 3 .own (.tmp 1) .none, none, (some 3), false⟩,
     ⟨.copy 4 (.const (.bool false)), none, (some 4), false⟩])
   (.seq (.ops [⟨.fadd 7 (.tmp 3) 1, none, (some 7), false⟩,
      ⟨.loadB 8 (.tmp 7) none true, none, (some 8), false⟩,
      ⟨.bin 9 .eql (.tmp 8) (.const (.int .i64 0)), none, (some 9), false⟩,
      ⟨.copy 10 (.tmp 9), none, (some 10), false⟩,
      ⟨.fadd 11 (.tmp 3) 2, (some (10, true)), (some 11), false⟩,
      ⟨.loadB 12 (.tmp 11) none true, (some (10, true)), (some 12), true⟩,
      ⟨.bin 13 .eql (.tmp 12) (.const (.int .i64 0)), (some (10, true)), (some 13), true⟩,
      ⟨.pick 14 (.tmp 10) (.tmp 13) (.const (.bool false)), none, (some 14), false⟩,
      ⟨.copy 5 (.tmp 14), none, (some 5), false⟩])
    (.seq (.ops [⟨.fadd 15 (.tmp 3) 1, none, (some 15), false⟩,
       ⟨.loadB 16 (.tmp 15) none true, none, (some 16), false⟩,
       ⟨.copy 17 (.tmp 0), none, (some 17), false⟩,
       ⟨.bin 18 .sub (.tmp 17) (.const (.int .i64 1)), none, (some 18), false⟩,
       ⟨.call (some 19) 55 sg55 [(.tmp 16), (.const (.int .i64 0)), (.tmp 18)] [.none, .none, .none], none, (some 19), false⟩,
       ⟨.copy 20 (.tmp 19), none, (some 20), false⟩,
       ⟨.fadd 21 (.tmp 3) 2, (some (20, true)), (some 21), false⟩,
       ⟨.loadB 22 (.tmp 21) none true, (some (20, true)), (some 22), true⟩,
       ⟨.copy 23 (.tmp 0), (some (20, true)), (some 23), true⟩,
       ⟨.bin 24 .sub (.tmp 23) (.const (.int .i64 1)), (some (20, true)), (some 24), true⟩,
       ⟨.call (some 25) 55 sg55 [(.tmp 22), (.const (.int .i64 0)), (.tmp 24)] [.none, .none, .none], (some (20, true)), (some 25), true⟩,
       ⟨.pick 26 (.tmp 20) (.tmp 25) (.const (.bool false)), none, (some 26), false⟩,
       ⟨.copy 27 (.tmp 26), none, (some 27), false⟩,
       ⟨.fadd 28 (.tmp 3) 1, (some (27, true)), (some 28), false⟩,
       ⟨.loadB 29 (.tmp 28) none true, (some (27, true)), (some 29), true⟩,
       ⟨.fadd 30 (.tmp 3) 2, (some (27, true)), (some 30), false⟩,
       ⟨.loadB 31 (.tmp 30) none true, (some (27, true)), (some 31), true⟩,
       ⟨.bin 32 .neq (.tmp 29) (.tmp 31), (some (27, true)), (some 32), true⟩,
       ⟨.pick 33 (.tmp 27) (.tmp 32) (.const (.bool false)), none, (some 33), false⟩,
       ⟨.copy 6 (.tmp 33), none, (some 6), false⟩])
     (.seq (.seq (.ops [⟨.fadd 34 (.tmp 3) 0, none, (some 34), false⟩,
         ⟨.loadB 35 (.tmp 34) none true, none, (some 35), false⟩])
       (.block 0 (.seq (.ops [⟨.bin 37 .eql (.tmp 35) (.const (.int .i64 0)), none, (some 37), false⟩,
           ⟨.copy 36 (.tmp 37), none, (some 36), false⟩])
         (.cond (.tmp 36)
          (.seq (.ops [⟨.copy 38 (.tmp 5), none, (some 38), false⟩,
             ⟨.copy 39 (.tmp 38), none, (some 39), false⟩,
             ⟨.fadd 40 (.tmp 3) 3, (some (39, true)), (some 40), false⟩,
             ⟨.loadB 41 (.tmp 40) none true, (some (39, true)), (some 41), true⟩,
             ⟨.call (some 42) 55 sg55 [(.tmp 41), (.const (.int .i64 0)), (.const (.int .i64 24))] [.none, .none, .none], (some (39, true)), (some 42), true⟩,
             ⟨.pick 43 (.tmp 39) (.tmp 42) (.const (.bool false)), none, (some 43), false⟩,
             ⟨.copy 4 (.tmp 43), none, (some 4), false⟩])
           (.ret [(.tmp 4)] [.none]))
          (.seq (.ops [⟨.bin 45 .eql (.tmp 35) (.const (.int .i64 1)), none, (some 45), false⟩,
             ⟨.copy 44 (.tmp 45), none, (some 44), false⟩])
           (.cond (.tmp 44)
            (.seq (.ops [⟨.copy 46 (.tmp 6), none, (some 46), false⟩,
               ⟨.copy 47 (.tmp 46), none, (some 47), false⟩,
               ⟨.fadd 48 (.tmp 3) 3, (some (47, true)), (some 48), false⟩,
               ⟨.loadB 49 (.tmp 48) none true, (some (47, true)), (some 49), true⟩,
               ⟨.call (some 50) 55 sg55 [(.tmp 49), (.const (.int .i64 0)), (.const (.int .i64 1))] [.none, .none, .none], (some (47, true)), (some 50), true⟩,
               ⟨.pick 51 (.tmp 47) (.tmp 50) (.const (.bool false)), none, (some 51), false⟩,
               ⟨.copy 4 (.tmp 51), none, (some 4), false⟩])
             (.ret [(.tmp 4)] [.none]))
            (.seq (.ops [⟨.bin 53 .eql (.tmp 35) (.const (.int .i64 2)), none, (some 53), false⟩,
               ⟨.copy 52 (.tmp 53), none, (some 52), false⟩])
             (.cond (.tmp 52)
              (.seq (.ops [⟨.fadd 54 (.tmp 3) 1, none, (some 54), false⟩,
                 ⟨.loadB 55 (.tmp 54) none true, none, (some 55), false⟩,
                 ⟨.call (some 56) 55 sg55 [(.tmp 55), (.const (.int .i64 6)), (.const (.int .i64 24))] [.none, .none, .none], none, (some 56), false⟩,
                 ⟨.copy 57 (.tmp 56), none, (some 57), false⟩,
                 ⟨.fadd 58 (.tmp 3) 2, (some (57, true)), (some 58), false⟩,
                 ⟨.loadB 59 (.tmp 58) none true, (some (57, true)), (some 59), true⟩,
                 ⟨.bin 60 .eql (.tmp 59) (.const (.int .i64 0)), (some (57, true)), (some 60), true⟩,
                 ⟨.pick 61 (.tmp 57) (.tmp 60) (.const (.bool false)), none, (some 61), false⟩,
                 ⟨.copy 62 (.tmp 61), none, (some 62), false⟩,
                 ⟨.fadd 63 (.tmp 3) 3, (some (62, true)), (some 63), false⟩,
                 ⟨.loadB 64 (.tmp 63) none true, (some (62, true)), (some 64), true⟩,
                 ⟨.call (some 65) 55 sg55 [(.tmp 64), (.const (.int .i64 1)), (.const (.int .i64 4))] [.none, .none, .none], (some (62, true)), (some 65), true⟩,
                 ⟨.pick 66 (.tmp 62) (.tmp 65) (.const (.bool false)), none, (some 66), false⟩,
                 ⟨.copy 4 (.tmp 66), none, (some 4), false⟩])
               (.ret [(.tmp 4)] [.none]))
              (.seq (.ops [⟨.bin 68 .eql (.tmp 35) (.const (.int .i64 3)), none, (some 68), false⟩,
                 ⟨.copy 67 (.tmp 68), none, (some 67), false⟩])
               (.cond (.tmp 67)
                (.seq (.ops [⟨.fadd 69 (.tmp 3) 1, none, (some 69), false⟩,
                   ⟨.loadB 70 (.tmp 69) none true, none, (some 70), false⟩,
                   ⟨.call (some 71) 55 sg55 [(.tmp 70), (.const (.int .i64 1)), (.const (.int .i64 24))] [.none, .none, .none], none, (some 71), false⟩,
                   ⟨.copy 72 (.tmp 71), none, (some 72), false⟩,
                   ⟨.fadd 73 (.tmp 3) 2, (some (72, true)), (some 73), false⟩,
                   ⟨.loadB 74 (.tmp 73) none true, (some (72, true)), (some 74), true⟩,
                   ⟨.bin 75 .eql (.tmp 74) (.const (.int .i64 0)), (some (72, true)), (some 75), true⟩,
                   ⟨.pick 76 (.tmp 72) (.tmp 75) (.const (.bool false)), none, (some 76), false⟩,
                   ⟨.copy 77 (.tmp 76), none, (some 77), false⟩,
                   ⟨.fadd 78 (.tmp 3) 3, (some (77, true)), (some 78), false⟩,
                   ⟨.loadB 79 (.tmp 78) none true, (some (77, true)), (some 79), true⟩,
                   ⟨.call (some 80) 55 sg55 [(.tmp 79), (.const (.int .i64 0)), (.const (.int .i64 1))] [.none, .none, .none], (some (77, true)), (some 80), true⟩,
                   ⟨.pick 81 (.tmp 77) (.tmp 80) (.const (.bool false)), none, (some 81), false⟩,
                   ⟨.copy 4 (.tmp 81), none, (some 4), false⟩])
                 (.ret [(.tmp 4)] [.none]))
                (.seq (.ops [⟨.bin 83 .eql (.tmp 35) (.const (.int .i64 4)), none, (some 83), false⟩,
                   ⟨.copy 82 (.tmp 83), none, (some 82), false⟩])
                 (.cond (.tmp 82)
                  (.seq (.ops [⟨.copy 84 (.tmp 6), none, (some 84), false⟩,
                     ⟨.copy 85 (.tmp 84), none, (some 85), false⟩,
                     ⟨.fadd 86 (.tmp 3) 3, (some (85, true)), (some 86), false⟩,
                     ⟨.loadB 87 (.tmp 86) none true, (some (85, true)), (some 87), true⟩,
                     ⟨.call (some 88) 55 sg55 [(.tmp 87), (.const (.int .i64 1)), (.const (.int .i64 36))] [.none, .none, .none], (some (85, true)), (some 88), true⟩,
                     ⟨.pick 89 (.tmp 85) (.tmp 88) (.const (.bool false)), none, (some 89), false⟩,
                     ⟨.copy 4 (.tmp 89), none, (some 4), false⟩])
                   (.ret [(.tmp 4)] [.none]))
                  (.seq (.ops [⟨.bin 91 .eql (.tmp 35) (.const (.int .i64 5)), none, (some 91), false⟩,
                     ⟨.copy 90 (.tmp 91), none, (some 90), false⟩])
                   (.cond (.tmp 90)
                    (.seq (.ops [⟨.copy 92 (.tmp 5), none, (some 92), false⟩,
                       ⟨.copy 93 (.tmp 92), none, (some 93), false⟩,
                       ⟨.fadd 94 (.tmp 3) 3, (some (93, true)), (some 94), false⟩,
                       ⟨.loadB 95 (.tmp 94) none true, (some (93, true)), (some 95), true⟩,
                       ⟨.call (some 96) 55 sg55 [(.tmp 95), (.const (.int .i64 1)), (.const (.int .i64 6))] [.none, .none, .none], (some (93, true)), (some 96), true⟩,
                       ⟨.pick 97 (.tmp 93) (.tmp 96) (.const (.bool false)), none, (some 97), false⟩,
                       ⟨.copy 4 (.tmp 97), none, (some 4), false⟩])
                     (.ret [(.tmp 4)] [.none]))
                    (.skip)))))))))))))))
      (.seq (.ops [⟨.copy 4 (.const (.bool false)), none, (some 4), false⟩])
       (.ret [(.tmp 4)] [.none])))))
theorem k50 (r55 : Rel) : compileFn (E50 r55) Try.f50 sg50 hs50 = some c50 := by kernel_rfl
/- loop.example/g01334/spec.bxSum -/
noncomputable def l92 : Deps := []
noncomputable def E92 : Env := mkE Try.prog [0, 1, 3, 4, 5] [] (l92) []
noncomputable def hs92 : HS := [[0, 1, 2, 4, 5, 9, 10, 11, 12, 13, 14, 15, 16]]
noncomputable def c92 : Cmd :=
  .seq (.ops [⟨.copy 2 (.const (.int .i64 0)), none, (some 2), false⟩])
   (.seq (.ops [⟨.copy 3 (.const (.int .i64 0)), none, (some 3), false⟩])
    (.seq (.seq (.ops [⟨.copy 6 (.tmp 0), none, (some 6), false⟩,
        ⟨.len 7 false (.tmp 6), none, (some 7), false⟩,
        ⟨.copy 8 (.const (.int .i64 0)), none, (some 8), false⟩])
      (.block 0 (.loop [false, false, false, true, false, false, true, true, true, false, false, false, false, false, false, false, false]
        (.seq (.ops [⟨.bin 9 .lss (.tmp 8) (.tmp 7), none, (some 9), false⟩])
         (.seq (.cond (.tmp 9)
           (.skip)
           (.exit 0))
          (.seq (.block 1 (.seq (.ops [⟨.iadd 10 6 3 (.tmp 8), none, (some 10), false⟩,
               ⟨.loadE 11 6 10 none true, none, (some 11), false⟩,
               ⟨.copy 5 (.tmp 11), none, (some 5), false⟩])
             (.ops [⟨.copy 12 (.tmp 3), none, (some 12), false⟩,
               ⟨.copy 13 (.tmp 5), none, (some 13), false⟩,
               ⟨.bin 14 .add (.tmp 12) (.tmp 13), none, (some 14), false⟩,
               ⟨.copy 3 (.tmp 14), none, (some 3), false⟩])))
           (.ops [⟨.bin 15 .add (.tmp 8) (.const (.int .i64 1)), none, (some 15), false⟩,
             ⟨.copy 8 (.tmp 15), none, (some 8), false⟩])))))))
     (.seq (.ops [⟨.copy 16 (.tmp 3), none, (some 16), false⟩,
        ⟨.copy 2 (.tmp 16), none, (some 2), false⟩])
      (.ret [(.tmp 2)] [.none]))))
theorem k92 : compileFn (E92) Try.f92 sg92 hs92 = some c92 := by kernel_rfl
/- loop.example/g01334/spec.l1Own -/
noncomputable def l71 : Deps := []
noncomputable def E71 : Env := mkE Try.prog [0, 1] [] (l71) []
noncomputable def hs71 : HS := []
noncomputable def c71 : Cmd :=
  .seq (.ops [⟨.copy 2 (.const (.slice none 0 0)), none, (some 2), false⟩])
   (.seq (.ops [⟨.lit 3 3 1 [] [], none, (some 3), false⟩,
      ⟨.copy 4 (.tmp 0), none, (some 4), false⟩,
      ⟨.app 5 3 8 true (.tmp 3) (.tmp 4) [(.slot 3), .none], none, (some 5), false⟩,
      ⟨.take 2 (.tmp 5) (.slot 5), none, (some 2), false⟩])
    (.ret [(.tmp 2)] [(.slot 2)]))
theorem k71 : compileFn (E71) Try.f71 sg71 hs71 = some c71 := by kernel_rfl
/- loop.example/g01334/spec.bxPlans -/
noncomputable def l102 (r71 r102 : Rel) : Deps := [(71, sg71, r71), (102, sg102, r102)]
noncomputable def E102 (r71 r102 : Rel) : Env := mkE Try.prog [0, 1, 2, 3, 4, 5, 6, 7, 8, 9, 12, 13, 14, 15, 16, 17, 18] [] (l102 r71 r102) []
noncomputable def hs102 : HS := [[5, 6, 7, 8, 9, 10, 11, 16, 17, 18, 19, 20, 21, 22, 23, 24, 25, 26, 27, 28, 29, 30, 31, 35, 36, 37, 38, 39, 40, 41, 42, 43, 44, 45, 46, 47, 48, 49, 50, 51, 52, 53, 54, 55, 56, 57, 58, 59, 60, 61, 62, 63, 64, 65, 66, 67, 68, 69, 70, 71, 72, 73, 74, 75, 76, 77, 78, 79, 80, 81, 82, 83, 86, 87, 88, 89, 90, 91, 92]]
noncomputable def c102 : Cmd :=
  .seq (.ops [⟨.copy 10 (.const (.slice none 0 0)), none, (some 10), false⟩,
     ⟨.copy 11 (.const (.int .i64 0)), none, (some 11), false⟩])
   (.seq (.ops [⟨.copy 19 (.tmp 2), none, (some 19), false⟩,
      ⟨.len 20 false (.tmp 19), none, (some 20), false⟩,
      ⟨.copy 12 (.tmp 20), none, (some 12), false⟩])
    (.seq (.seq (.ops [⟨.copy 21 (.tmp 12), none, (some 21), false⟩,
        ⟨.copy 22 (.tmp 0), none, (some 22), false⟩,
        ⟨.len 23 false (.tmp 22), none, (some 23), false⟩,
        ⟨.bin 24 .eql (.tmp 21) (.tmp 23), none, (some 24), false⟩])
      (.cond (.tmp 24)
       (.seq (.ops [⟨.copy 25 (.tmp 2), none, (some 25), false⟩,
          ⟨.call (some 26) 71 sg71 [(.tmp 25)] [.none], none, (some 26), false⟩,
          ⟨.take 10 (.tmp 26) (.slot 26), none, (some 10), false⟩,
          ⟨.copy 11 (.const (.int .i64 1)), none, (some 11), false⟩])
        (.ret [(.tmp 10), (.tmp 11)] [(.slot 10), .none]))
       (.skip)))
     (.seq (.ops [⟨.copy 13 (.const (.slice none 0 0)), none, (some 13), false⟩])
      (.seq (.ops [⟨.copy 14 (.const (.int .i64 0)), none, (some 14), false⟩])
       (.seq (.seq (.ops [⟨.copy 15 (.const (.int .i64 0)), none, (some 15), false⟩])
         (.block 0 (.loop [true, true, true, true, true, false, false, false, false, false, false, false, true, true, true, true, false, false, false, false, false, false, false, false, false, false, false, false, false, false, false, false, false, false, false, false, false, false, false, false, false, false, false, false, false, false, false, false, false, false, false, false, false, false, false, false, false, false, false, false, false, false, false, false, false, false, false, false, false, false, false, false, false, false, false, false, false, false, false, false, false, false, false, false, false, false, false, false, false, false, false, false, false]
           (.seq (.seq (.ops [⟨.copy 27 (.tmp 15), none, (some 27), false⟩,
               ⟨.copy 28 (.tmp 3), none, (some 28), false⟩,
               ⟨.len 29 false (.tmp 28), none, (some 29), false⟩,
               ⟨.bin 30 .leq (.tmp 27) (.tmp 29), none, (some 30), false⟩,
               ⟨.copy 31 (.tmp 30), none, (some 31), false⟩,
               ⟨.copy 32 (.tmp 15), (some (31, true)), (some 32), true⟩,
               ⟨.copy 33 (.tmp 4), (some (31, true)), (some 33), true⟩,
               ⟨.bin 34 .lss (.tmp 32) (.tmp 33), (some (31, true)), (some 34), true⟩,
               ⟨.pick 35 (.tmp 31) (.tmp 34) (.const (.bool false)), none, (some 35), false⟩])
             (.cond (.tmp 35)
              (.skip)
              (.exit 0)))
            (.seq (.block 1 (.seq (.ops [⟨.copy 38 (.tmp 3), none, (some 38), false⟩,
                 ⟨.call (some 39) 71 sg71 [(.tmp 38)] [.none], none, (some 39), false⟩,
                 ⟨.take 16 (.tmp 39) (.slot 39), none, (some 16), false⟩])
               (.seq (.seq (.ops [⟨.copy 40 (.tmp 15), none, (some 40), false⟩,
                   ⟨.copy 41 (.tmp 3), none, (some 41), false⟩,
                   ⟨.len 42 false (.tmp 41), none, (some 42), false⟩,
                   ⟨.bin 43 .eql (.tmp 40) (.tmp 42), none, (some 43), false⟩])
                 (.cond (.tmp 43)
                  (.ops [⟨.copy 44 (.tmp 16), none, (some 44), false⟩,
                    ⟨.lit 45 3 1 [(.const (.int .i64 0))] [.none], none, (some 45), false⟩,
                    ⟨.app 46 3 8 true (.tmp 44) (.tmp 45) [(.slot 16), .none], none, (some 46), false⟩,
                    ⟨.take 16 (.tmp 46) (.slot 46), none, (some 16), false⟩])
                  (.skip)))
                (.seq (.seq (.ops [⟨.copy 47 (.tmp 16), none, (some 47), false⟩,
                    ⟨.copy 48 (.tmp 15), none, (some 48), false⟩,
                    ⟨.iadd 49 47 3 (.tmp 48), none, (some 49), false⟩,
                    ⟨.loadE 50 47 49 none true, none, (some 50), false⟩,
                    ⟨.copy 51 (.tmp 0), none, (some 51), false⟩,
                    ⟨.copy 52 (.tmp 12), none, (some 52), false⟩,
                    ⟨.iadd 53 51 3 (.tmp 52), none, (some 53), false⟩,
                    ⟨.loadE 54 51 53 none true, none, (some 54), false⟩,
                    ⟨.bin 55 .add (.tmp 50) (.tmp 54), none, (some 55), false⟩,
                    ⟨.copy 56 (.tmp 1), none, (some 56), false⟩,
                    ⟨.bin 57 .gtr (.tmp 55) (.tmp 56), none, (some 57), false⟩])
                  (.cond (.tmp 57)
                   (.exit 1)
                   (.skip)))
                 (.seq (.ops [⟨.copy 58 (.tmp 16), none, (some 58), false⟩,
                    ⟨.copy 59 (.tmp 15), none, (some 59), false⟩,
                    ⟨.iadd 60 58 3 (.tmp 59), none, (some 60), false⟩,
                    ⟨.loadE 61 58 60 none true, none, (some 61), false⟩,
                    ⟨.copy 62 (.tmp 0), none, (some 62), false⟩,
                    ⟨.copy 63 (.tmp 12), none, (some 63), false⟩,
                    ⟨.iadd 64 62 3 (.tmp 63), none, (some 64), false⟩,
                    ⟨.loadE 65 62 64 none true, none, (some 65), false⟩,
                    ⟨.bin 66 .add (.tmp 61) (.tmp 65), none, (some 66), false⟩,
                    ⟨.iadd 67 58 3 (.tmp 59), none, (some 67), false⟩,
                    ⟨.storeE 16 67 none (.tmp 66), none, none, false⟩])
                  (.seq (.ops [⟨.copy 69 (.tmp 0), none, (some 69), false⟩,
                     ⟨.copy 70 (.tmp 1), none, (some 70), false⟩,
                     ⟨.copy 71 (.tmp 2), none, (some 71), false⟩,
                     ⟨.call (some 72) 71 sg71 [(.tmp 71)] [.none], none, (some 72), false⟩,
                     ⟨.copy 73 (.tmp 15), none, (some 73), false⟩,
                     ⟨.lit 74 3 1 [(.tmp 73)] [.none], none, (some 74), false⟩,
                     ⟨.app 75 3 8 true (.tmp 72) (.tmp 74) [(.slot 72), .none], none, (some 75), false⟩,
                     ⟨.copy 76 (.tmp 16), none, (some 76), false⟩,
                     ⟨.copy 77 (.tmp 4), none, (some 77), false⟩,
                     ⟨.call (some 78) 102 sg102 [(.tmp 69), (.tmp 70), (.tmp 75), (.tmp 76), (.tmp 77)] [.none, .none, .none, .none, .none], none, (some 78), false⟩,
                     ⟨.copy 68 (.tmp 78), none, (some 68), false⟩,
                     ⟨.ext 79 68 0, none, (some 79), false⟩,
                     ⟨.ext 80 68 1, none, (some 80), false⟩,
                     ⟨.take 17 (.tmp 79) (.slot 79), none, (some 17), false⟩,
                     ⟨.copy 18 (.tmp 80), none, (some 18), false⟩])
                   (.seq (.seq (.ops [⟨.copy 81 (.tmp 18), none, (some 81), false⟩,
                       ⟨.bin 82 .gtr (.tmp 81) (.const (.int .i64 0)), none, (some 82), false⟩,
                       ⟨.copy 83 (.tmp 82), none, (some 83), false⟩,
                       ⟨.copy 84 (.tmp 14), (some (83, true)), (some 84), true⟩,
                       ⟨.bin 85 .eql (.tmp 84) (.const (.int .i64 0)), (some (83, true)), (some 85), true⟩,
                       ⟨.pick 86 (.tmp 83) (.tmp 85) (.const (.bool false)), none, (some 86), false⟩])
                     (.cond (.tmp 86)
                      (.ops [⟨.copy 87 (.tmp 17), none, (some 87), false⟩,
                        ⟨.take 13 (.tmp 87) (.slot 17), none, (some 13), false⟩])
                      (.skip)))
                    (.ops [⟨.copy 88 (.tmp 14), none, (some 88), false⟩,
                      ⟨.copy 89 (.tmp 18), none, (some 89), false⟩,
                      ⟨.bin 90 .add (.tmp 88) (.tmp 89), none, (some 90), false⟩,
                      ⟨.copy 14 (.tmp 90), none, (some 14), false⟩]))))))))
             (.ops [⟨.copy 36 (.tmp 15), none, (some 36), false⟩,
               ⟨.bin 37 .add (.tmp 36) (.const (.int .i64 1)), none, (some 37), false⟩,
               ⟨.copy 15 (.tmp 37), none, (some 15), false⟩]))))))
        (.seq (.ops [⟨.copy 91 (.tmp 13), none, (some 91), false⟩,
           ⟨.copy 92 (.tmp 14), none, (some 92), false⟩,
           ⟨.copy 10 (.tmp 91), none, (some 10), false⟩,
           ⟨.copy 11 (.tmp 92), none, (some 11), false⟩])
         (.ret [(.tmp 10), (.tmp 11)] [(.slot 13), .none])))))))
theorem k102 (r71 r102 : Rel) : compileFn (E102 r71 r102) Try.f102 sg102 hs102 = some c102 := by kernel_rfl
/- loop.example/g01334/spec.bxFew -/
noncomputable def l93 (r102 : Rel) : Deps := [(102, sg102, r102)]
noncomputable def E93 (r102 : Rel) : Env := mkE Try.prog [0, 1, 2, 3, 7, 8, 9] [] (l93 r102) []
noncomputable def hs93 : HS := [[2, 3, 4, 5, 6, 8, 9, 10, 11, 12, 13, 14, 15, 16, 17, 18, 19, 20, 21, 22, 23]]
noncomputable def c93 : Cmd :=
  .seq (.ops [⟨.copy 4 (.const (.int .i64 0)), none, (some 4), false⟩,
     ⟨.copy 5 (.const (.slice none 0 0)), none, (some 5), false⟩,
     ⟨.copy 6 (.const (.int .i64 0)), none, (some 6), false⟩])
   (.seq (.ops [⟨.copy 7 (.const (.int .i64 1)), none, (some 7), false⟩])
    (.block 0 (.loop [true, true, false, false, false, false, false, true, false, false, false, false, false, false, false, false, false, false, false, false, false, false, false, false]
      (.seq (.block 1 (.seq (.ops [⟨.copy 13 (.tmp 0), none, (some 13), false⟩,
           ⟨.copy 14 (.tmp 1), none, (some 14), false⟩,
           ⟨.copy 15 (.tmp 7), none, (some 15), false⟩,
           ⟨.call (some 16) 102 sg102 [(.tmp 13), (.tmp 14), (.const (.slice none 0 0)), (.const (.slice none 0 0)), (.tmp 15)] [.none, .none, .none, .none, .none], none, (some 16), false⟩,
           ⟨.copy 12 (.tmp 16), none, (some 12), false⟩,
           ⟨.ext 17 12 0, none, (some 17), false⟩,
           ⟨.ext 18 12 1, none, (some 18), false⟩,
           ⟨.take 8 (.tmp 17) (.slot 17), none, (some 8), false⟩,
           ⟨.copy 9 (.tmp 18), none, (some 9), false⟩])
         (.seq (.ops [⟨.copy 19 (.tmp 9), none, (some 19), false⟩,
            ⟨.bin 20 .gtr (.tmp 19) (.const (.int .i64 0)), none, (some 20), false⟩])
          (.cond (.tmp 20)
           (.seq (.ops [⟨.copy 21 (.tmp 7), none, (some 21), false⟩,
              ⟨.copy 22 (.tmp 8), none, (some 22), false⟩,
              ⟨.copy 23 (.tmp 9), none, (some 23), false⟩,
              ⟨.copy 4 (.tmp 21), none, (some 4), false⟩,
              ⟨.copy 5 (.tmp 22), none, (some 5), false⟩,
              ⟨.copy 6 (.tmp 23), none, (some 6), false⟩])
            (.ret [(.tmp 4), (.tmp 5), (.tmp 6)] [.none, (.slot 8), .none]))
           (.skip)))))
       (.ops [⟨.copy 10 (.tmp 7), none, (some 10), false⟩,
         ⟨.bin 11 .add (.tmp 10) (.const (.int .i64 1)), none, (some 11), false⟩,
         ⟨.copy 7 (.tmp 11), none, (some 7), false⟩])))))
theorem k93 (r102 : Rel) : compileFn (E93 r102) Try.f93 sg93 hs93 = some c93 := by kernel_rfl
/- loop.example/g01334/spec.l1Most -/
noncomputable def l103 : Deps := []
noncomputable def E103 : Env := mkE Try.prog [0, 1, 2, 3] [] (l103) []
noncomputable def hs103 : HS := []
noncomputable def c103 : Cmd :=
  .seq (.ops [⟨.copy 4 (.const (.int .i64 0)), none, (some 4), false⟩])
   (.seq (.seq (.ops [⟨.copy 5 (.tmp 0), none, (some 5), false⟩,
       ⟨.copy 6 (.tmp 1), none, (some 6), false⟩,
       ⟨.bin 7 .gtr (.tmp 5) (.tmp 6), none, (some 7), false⟩])
     (.cond (.tmp 7)
      (.seq (.ops [⟨.copy 8 (.tmp 0), none, (some 8), false⟩,
         ⟨.copy 4 (.tmp 8), none, (some 4), false⟩])
       (.ret [(.tmp 4)] [.none]))
      (.skip)))
    (.seq (.ops [⟨.copy 9 (.tmp 1), none, (some 9), false⟩,
       ⟨.copy 4 (.tmp 9), none, (some 4), false⟩])
     (.ret [(.tmp 4)] [.none])))
theorem k103 : compileFn (E103) Try.f103 sg103 hs103 = some c103 := by kernel_rfl
/- loop.example/g01334/spec.bxMost -/
noncomputable def l94 (r103 : Rel) : Deps := [(103, sg103, r103)]
noncomputable def E94 (r103 : Rel) : Env := mkE Try.prog [0, 1, 3, 4, 5] [] (l94 r103) []
noncomputable def hs94 : HS := [[0, 1, 2, 4, 5, 9, 10, 11, 12, 13, 14, 15, 16]]
noncomputable def c94 : Cmd :=
  .seq (.ops [⟨.copy 2 (.const (.int .i64 0)), none, (some 2), false⟩])
   (.seq (.ops [⟨.copy 3 (.const (.int .i64 0)), none, (some 3), false⟩])
    (.seq (.seq (.ops [⟨.copy 6 (.tmp 0), none, (some 6), false⟩,
        ⟨.len 7 false (.tmp 6), none, (some 7), false⟩,
        ⟨.copy 8 (.const (.int .i64 0)), none, (some 8), false⟩])
      (.block 0 (.loop [false, false, false, true, false, false, true, true, true, false, false, false, false, false, false, false, false]
        (.seq (.ops [⟨.bin 9 .lss (.tmp 8) (.tmp 7), none, (some 9), false⟩])
         (.seq (.cond (.tmp 9)
           (.skip)
           (.exit 0))
          (.seq (.block 1 (.seq (.ops [⟨.iadd 10 6 3 (.tmp 8), none, (some 10), false⟩,
               ⟨.loadE 11 6 10 none true, none, (some 11), false⟩,
               ⟨.copy 5 (.tmp 11), none, (some 5), false⟩])
             (.ops [⟨.copy 12 (.tmp 3), none, (some 12), false⟩,
               ⟨.copy 13 (.tmp 5), none, (some 13), false⟩,
               ⟨.call (some 14) 103 sg103 [(.tmp 12), (.tmp 13)] [.none, .none], none, (some 14), false⟩,
               ⟨.copy 3 (.tmp 14), none, (some 3), false⟩])))
           (.ops [⟨.bin 15 .add (.tmp 8) (.const (.int .i64 1)), none, (some 15), false⟩,
             ⟨.copy 8 (.tmp 15), none, (some 8), false⟩])))))))
     (.seq (.ops [⟨.copy 16 (.tmp 3), none, (some 16), false⟩,
        ⟨.copy 2 (.tmp 16), none, (some 2), false⟩])
      (.ret [(.tmp 2)] [.none]))))
theorem k94 (r103 : Rel) : compileFn (E94 r103) Try.f94 sg94 hs94 = some c94 := by kernel_rfl
/- loop.example/g01334/spec.pzValue -/
noncomputable def l78 (r92 r93 r94 : Rel) : Deps := [(92, sg92, r92), (93, sg93, r93), (94, sg94, r94)]
noncomputable def E78 (r92 r93 r94 : Rel) : Env := mkE Try.prog [0, 1, 2, 3, 4, 5, 6, 7, 9, 10, 11, 12, 13, 14, 15] [] (l78 r92 r93 r94) []
noncomputable def hs78 : HS := [[0, 2, 4, 5, 6, 7, 8, 9, 10, 11, 13, 14, 15, 16, 17, 18, 19, 20, 21, 22, 23, 24, 25, 26, 27, 28, 29, 30, 31, 32, 33, 34, 35, 36, 37, 38, 39, 40, 41, 42, 43, 44, 45, 46, 47, 48, 49, 50, 51, 52, 53, 54, 55, 56, 57, 58, 59, 60, 61, 62, 63, 64, 65, 66, 67, 68, 69, 70, 71, 72, 73, 74, 75, 76, 77, 78, 79, 80, 81, 82], [0, 2, 4, 5, 6, 7, 8, 9, 10, 11, 14, 15, 16, 17, 18, 19, 20, 21, 22, 23, 24, 25, 26, 27, 28, 29, 30, 31, 32, 33, 34, 35, 36, 37, 38, 39, 40, 41, 42, 43, 44, 45, 46, 47, 48, 49, 50, 54, 55, 56, 57, 58, 59, 60, 61, 62, 63, 64, 65, 66, 67, 68, 69, 70, 71, 72, 73, 74, 75, 76, 77, 78, 79, 80, 81, 82]]
noncomputable def c78 : Cmd :=
  .seq (.ops [⟨.copy 8 (.const (.int .i64 0)), none, (some 8), false⟩])
   (.seq (.seq (.ops [⟨.copy 16 (.tmp 0), none, (some 16), false⟩])
     (.block 0 (.seq (.ops [⟨.bin 18 .eql (.tmp 16) (.const (.int .i64 0)), none, (some 18), false⟩,
         ⟨.copy 17 (.tmp 18), none, (some 17), false⟩])
       (.cond (.tmp 17)
        (.seq (.ops [⟨.copy 19 (.tmp 3), none, (some 19), false⟩,
           ⟨.call (some 20) 92 sg92 [(.tmp 19)] [.none], none, (some 20), false⟩,
           ⟨.copy 8 (.tmp 20), none, (some 8), false⟩])
         (.ret [(.tmp 8)] [.none]))
        (.seq (.ops [⟨.bin 22 .eql (.tmp 16) (.const (.int .i64 1)), none, (some 22), false⟩,
           ⟨.copy 21 (.tmp 22), none, (some 21), false⟩])
         (.cond (.tmp 21)
          (.seq (.seq (.ops [⟨.copy 23 (.tmp 3), none, (some 23), false⟩,
              ⟨.copy 24 (.tmp 1), none, (some 24), false⟩,
              ⟨.iadd 25 23 3 (.tmp 24), none, (some 25), false⟩,
              ⟨.loadE 26 23 25 none true, none, (some 26), false⟩,
              ⟨.copy 27 (.tmp 3), none, (some 27), false⟩,
              ⟨.copy 28 (.tmp 2), none, (some 28), false⟩,
              ⟨.iadd 29 27 3 (.tmp 28), none, (some 29), false⟩,
              ⟨.loadE 30 27 29 none true, none, (some 30), false⟩,
              ⟨.bin 31 .gtr (.tmp 26) (.tmp 30), none, (some 31), false⟩])
            (.cond (.tmp 31)
             (.seq (.ops [⟨.copy 8 (.const (.int .i64 1)), none, (some 8), false⟩])
              (.ret [(.tmp 8)] [.none]))
             (.skip)))
           (.seq (.ops [⟨.copy 8 (.const (.int .i64 0)), none, (some 8), false⟩])
            (.ret [(.tmp 8)] [.none])))
          (.seq (.ops [⟨.bin 33 .eql (.tmp 16) (.const (.int .i64 2)), none, (some 33), false⟩,
             ⟨.copy 32 (.tmp 33), none, (some 32), false⟩])
           (.cond (.tmp 32)
            (.seq (.ops [⟨.copy 35 (.tmp 3), none, (some 35), false⟩,
               ⟨.copy 36 (.tmp 1), none, (some 36), false⟩,
               ⟨.call (some 37) 93 sg93 [(.tmp 35), (.tmp 36)] [.none, .none], none, (some 37), false⟩,
               ⟨.copy 34 (.tmp 37), none, (some 34), false⟩,
               ⟨.ext 38 34 0, none, (some 38), false⟩,
               ⟨.ext 39 34 1, none, (some 39), false⟩,
               ⟨.ext 40 34 2, none, (some 40), false⟩,
               ⟨.copy 9 (.tmp 38), none, (some 9), false⟩,
               ⟨.take 10 (.tmp 39) (.slot 39), none, (some 10), false⟩,
               ⟨.copy 11 (.tmp 40), none, (some 11), false⟩])
             (.seq (.ops [⟨.copy 41 (.tmp 9), none, (some 41), false⟩,
                ⟨.copy 8 (.tmp 41), none, (some 8), false⟩])
              (.ret [(.tmp 8)] [.none])))
            (.seq (.ops [⟨.bin 43 .eql (.tmp 16) (.const (.int .i64 3)), none, (some 43), false⟩,
               ⟨.copy 42 (.tmp 43), none, (some 42), false⟩])
             (.cond (.tmp 42)
              (.seq (.seq (.ops [⟨.copy 12 (.const (.int .i64 1)), none, (some 12), false⟩])
                (.block 1 (.loop [false, true, false, true, false, false, false, false, false, false, false, false, true, false, false, false, false, false, false, false, false, false, false, false, false, false, false, false, false, false, false, false, false, false, false, false, false, false, false, false, false, false, false, false, false, false, false, false, false, false, false, false, false, false, false, false, false, false, false, false, false, false, false, false, false, false, false, false, false, false, false, false, false, false, false, false, false, false, false, false, false, false, false]
                  (.seq (.seq (.ops [⟨.copy 44 (.tmp 12), none, (some 44), false⟩,
                      ⟨.copy 45 (.tmp 3), none, (some 45), false⟩,
                      ⟨.len 46 false (.tmp 45), none, (some 46), false⟩,
                      ⟨.bin 47 .shl (.const (.int .i64 1)) (.tmp 46), none, (some 47), false⟩,
                      ⟨.bin 48 .lss (.tmp 44) (.tmp 47), none, (some 48), false⟩])
                    (.cond (.tmp 48)
                     (.skip)
                     (.exit 1)))
                   (.seq (.block 2 (.seq (.ops [⟨.copy 13 (.const (.int .i64 0)), none, (some 13), false⟩])
                      (.seq (.seq (.ops [⟨.copy 51 (.tmp 3), none, (some 51), false⟩,
                          ⟨.len 52 false (.tmp 51), none, (some 52), false⟩,
                          ⟨.copy 53 (.const (.int .i64 0)), none, (some 53), false⟩])
                        (.block 3 (.loop [false, true, false, true, false, false, false, false, false, false, false, false, true, true, false, false, false, false, false, false, false, false, false, false, false, false, false, false, false, false, false, false, false, false, false, false, false, false, false, false, false, false, false, false, false, false, false, false, false, false, false, true, true, true, false, false, false, false, false, false, false, false, false, false, false, false, false, false, false, false, false, false, false, false, false, false, false, false, false, false, false, false, false]
                          (.seq (.ops [⟨.bin 54 .lss (.tmp 53) (.tmp 52), none, (some 54), false⟩])
                           (.seq (.cond (.tmp 54)
                             (.skip)
                             (.exit 3))
                            (.seq (.block 4 (.seq (.ops [⟨.copy 55 (.tmp 53), none, (some 55), false⟩,
                                 ⟨.iadd 56 51 3 (.tmp 53), none, (some 56), false⟩,
                                 ⟨.loadE 57 51 56 none true, none, (some 57), false⟩,
                                 ⟨.copy 14 (.tmp 55), none, (some 14), false⟩,
                                 ⟨.copy 15 (.tmp 57), none, (some 15), false⟩])
                               (.ops [⟨.copy 58 (.tmp 13), none, (some 58), false⟩,
                                 ⟨.copy 59 (.tmp 12), none, (some 59), false⟩,
                                 ⟨.copy 60 (.tmp 14), none, (some 60), false⟩,
                                 ⟨.bin 61 .shr (.tmp 59) (.tmp 60), none, (some 61), false⟩,
                                 ⟨.bin 62 .and (.tmp 61) (.const (.int .i64 1)), none, (some 62), false⟩,
                                 ⟨.copy 63 (.tmp 15), none, (some 63), false⟩,
                                 ⟨.bin 64 .mul (.tmp 62) (.tmp 63), none, (some 64), false⟩,
                                 ⟨.bin 65 .add (.tmp 58) (.tmp 64), none, (some 65), false⟩,
                                 ⟨.copy 13 (.tmp 65), none, (some 13), false⟩])))
                             (.ops [⟨.bin 66 .add (.tmp 53) (.const (.int .i64 1)), none, (some 66), false⟩,
                               ⟨.copy 53 (.tmp 66), none, (some 53), false⟩])))))))
                       (.seq (.ops [⟨.copy 67 (.tmp 13), none, (some 67), false⟩,
                          ⟨.copy 68 (.tmp 1), none, (some 68), false⟩,
                          ⟨.bin 69 .eql (.tmp 67) (.tmp 68), none, (some 69), false⟩])
                        (.cond (.tmp 69)
                         (.seq (.ops [⟨.copy 8 (.const (.int .i64 1)), none, (some 8), false⟩])
                          (.ret [(.tmp 8)] [.none]))
                         (.skip))))))
                    (.ops [⟨.copy 49 (.tmp 12), none, (some 49), false⟩,
                      ⟨.bin 50 .add (.tmp 49) (.const (.int .i64 1)), none, (some 50), false⟩,
                      ⟨.copy 12 (.tmp 50), none, (some 12), false⟩]))))))
               (.seq (.ops [⟨.copy 8 (.const (.int .i64 0)), none, (some 8), false⟩])
                (.ret [(.tmp 8)] [.none])))
              (.seq (.ops [⟨.bin 71 .eql (.tmp 16) (.const (.int .i64 4)), none, (some 71), false⟩,
                 ⟨.copy 70 (.tmp 71), none, (some 70), false⟩])
               (.cond (.tmp 70)
                (.seq (.ops [⟨.copy 72 (.tmp 3), none, (some 72), false⟩,
                   ⟨.copy 73 (.tmp 1), none, (some 73), false⟩,
                   ⟨.iadd 74 72 3 (.tmp 73), none, (some 74), false⟩,
                   ⟨.loadE 75 72 74 none true, none, (some 75), false⟩,
                   ⟨.copy 76 (.tmp 3), none, (some 76), false⟩,
                   ⟨.copy 77 (.tmp 2), none, (some 77), false⟩,
                   ⟨.iadd 78 76 3 (.tmp 77), none, (some 78), false⟩,
                   ⟨.loadE 79 76 78 none true, none, (some 79), false⟩,
                   ⟨.bin 80 .mul (.tmp 75) (.tmp 79), none, (some 80), false⟩,
                   ⟨.copy 8 (.tmp 80), none, (some 8), false⟩])
                 (.ret [(.tmp 8)] [.none]))
                (.skip)))))))))))))
    (.seq (.ops [⟨.copy 81 (.tmp 3), none, (some 81), false⟩,
       ⟨.call (some 82) 94 sg94 [(.tmp 81)] [.none], none, (some 82), false⟩,
       ⟨.copy 8 (.tmp 82), none, (some 8), false⟩])
     (.ret [(.tmp 8)] [.none])))
theorem k78 (r92 r93 r94 : Rel) : compileFn (E78 r92 r93 r94) Try.f78 sg78 hs78 = some c78 := by kernel_rfl
/- loop.example/g01334/spec.pzFits -/
noncomputable def l51 (r78 : Rel) : Deps := [(78, sg78, r78)]
noncomputable def E51 (r78 : Rel) : Env := mkE Try.prog [0, 1, 2, 3] [] (l51 r78) []
noncomputable def hs51 : HS := []
noncomputable def c51 : Cmd :=
  .seq (.ops [⟨.box 2 .own (.tmp 0) .none, none, (some 2), false⟩,
     ⟨.copy 4 (.const (.bool false)), none, (some 4), false⟩])
   (.seq (.ops [⟨.fadd 5 (.tmp 2) 0, none, (some 5), false⟩,
      ⟨.loadB 6 (.tmp 5) none true, none, (some 6), false⟩,
      ⟨.fadd 7 (.tmp 2) 1, none, (some 7), false⟩,
      ⟨.loadB 8 (.tmp 7) none true, none, (some 8), false⟩,
      ⟨.fadd 9 (.tmp 2) 2, none, (some 9), false⟩,
      ⟨.loadB 10 (.tmp 9) none true, none, (some 10), false⟩,
      ⟨.copy 11 (.tmp 1), none, (some 11), false⟩,
      ⟨.call (some 12) 78 sg78 [(.tmp 6), (.tmp 8), (.tmp 10), (.tmp 11)] [.none, .none, .none, .none], none, (some 12), false⟩,
      ⟨.fadd 13 (.tmp 2) 3, none, (some 13), false⟩,
      ⟨.loadB 14 (.tmp 13) none true, none, (some 14), false⟩,
      ⟨.bin 15 .eql (.tmp 12) (.tmp 14), none, (some 15), false⟩,
      ⟨.copy 4 (.tmp 15), none, (some 4), false⟩])
    (.ret [(.tmp 4)] [.none]))
theorem k51 (r78 : Rel) : compileFn (E51 r78) Try.f51 sg51 hs51 = some c51 := by kernel_rfl
/- loop.example/g01334/spec.DoesFit -/
noncomputable def l14 (r49 r50 r51 : Rel) : Deps := [(49, sg49, r49), (50, sg50, r50), (51, sg51, r51)]
noncomputable def E14 (r49 r50 r51 : Rel) : Env := mkE Try.prog [0, 1, 2, 3] [] (l14 r49 r50 r51) []
noncomputable def hs14 : HS := []
noncomputable def c14 : Cmd :=
  .seq (.ops [⟨.box 2 .own (.tmp 0) .none, none, (some 2), false⟩,
     ⟨.copy 4 (.const (.bool false)), none, (some 4), false⟩,
     ⟨.copy 5 (.const (.bool false)), none, (some 5), false⟩])
   (.seq (.seq (.ops [⟨.copy 6 (.tmp 1), none, (some 6), false⟩,
       ⟨.call (some 7) 49 sg49 [(.tmp 6)] [.none], none, (some 7), false⟩,
       ⟨.un 8 .not (.tmp 7), none, (some 8), false⟩,
       ⟨.copy 9 (.tmp 8), none, (some 9), false⟩,
       ⟨.copy 10 (.tmp 1), (some (9, false)), (some 10), false⟩,
       ⟨.len 11 false (.tmp 10), (some (9, false)), (some 11), true⟩,
       ⟨.loadB 12 (.tmp 2) (some 4) true, (some (9, false)), (some 12), true⟩,
       ⟨.call (some 13) 50 sg50 [(.tmp 11), (.tmp 12)] [.none, .none], (some (9, false)), (some 13), true⟩,
       ⟨.un 14 .not (.tmp 13), (some (9, false)), (some 14), true⟩,
       ⟨.pick 15 (.tmp 9) (.const (.bool true)) (.tmp 14), none, (some 15), false⟩])
     (.cond (.tmp 15)
      (.seq (.ops [⟨.copy 4 (.const (.bool false)), none, (some 4), false⟩,
         ⟨.copy 5 (.const (.bool false)), none, (some 5), false⟩])
       (.ret [(.tmp 4), (.tmp 5)] [.none, .none]))
      (.skip)))
    (.seq (.ops [⟨.loadB 16 (.tmp 2) (some 4) true, none, (some 16), false⟩,
       ⟨.copy 17 (.tmp 1), none, (some 17), false⟩,
       ⟨.call (some 18) 51 sg51 [(.tmp 16), (.tmp 17)] [.none, .none], none, (some 18), false⟩,
       ⟨.copy 4 (.tmp 18), none, (some 4), false⟩,
       ⟨.copy 5 (.const (.bool true)), none, (some 5), false⟩])
     (.ret [(.tmp 4), (.tmp 5)] [.none, .none])))
theorem k14 (r49 r50 r51 : Rel) : compileFn (E14 r49 r50 r51) Try.f14 sg14 hs14 = some c14 := by kernel_rfl
/- loop.example/g01334/impl.within -/
noncomputable def l58 : Deps := []
noncomputable def E58 : Env := mkE Try.prog [0, 1, 2, 3, 4, 5] [] (l58) []
noncomputable def hs58 : HS := []
noncomputable def c58 : Cmd :=
  .seq (.ops [⟨.copy 6 (.const (.bool false)), none, (some 6), false⟩])
   (.seq (.ops [⟨.copy 7 (.tmp 1), none, (some 7), false⟩,
      ⟨.copy 8 (.tmp 0), none, (some 8), false⟩,
      ⟨.bin 9 .leq (.tmp 7) (.tmp 8), none, (some 9), false⟩,
      ⟨.copy 10 (.tmp 9), none, (some 10), false⟩,
      ⟨.copy 11 (.tmp 0), (some (10, true)), (some 11), true⟩,
      ⟨.copy 12 (.tmp 2), (some (10, true)), (some 12), true⟩,
      ⟨.bin 13 .leq (.tmp 11) (.tmp 12), (some (10, true)), (some 13), true⟩,
      ⟨.pick 14 (.tmp 10) (.tmp 13) (.const (.bool false)), none, (some 14), false⟩,
      ⟨.copy 6 (.tmp 14), none, (some 6), false⟩])
    (.ret [(.tmp 6)] [.none]))
theorem k58 : compileFn (E58) Try.f58 sg58 hs58 = some c58 := by kernel_rfl
/- loop.example/g01334/impl.areWithin$1 -/
noncomputable def l96 (r58 : Rel) : Deps := [(58, sg58, r58)]
noncomputable def E96 (r58 : Rel) : Env := mkE Try.prog [0, 3] [] (l96 r58) []
noncomputable def hs96 : HS := []
noncomputable def c96 : Cmd :=
  .seq (.ops [⟨.copy 4 (.const (.bool false)), none, (some 4), false⟩])
   (.seq (.ops [⟨.copy 5 (.tmp 0), none, (some 5), false⟩,
      ⟨.loadB 6 (.tmp 1) none true, none, (some 6), false⟩,
      ⟨.loadB 7 (.tmp 2) none true, none, (some 7), false⟩,
      ⟨.call (some 8) 58 sg58 [(.tmp 5), (.tmp 6), (.tmp 7)] [.none, .none, .none], none, (some 8), false⟩,
      ⟨.un 9 .not (.tmp 8), none, (some 9), false⟩,
      ⟨.copy 4 (.tmp 9), none, (some 4), false⟩])
    (.ret [(.tmp 4)] [.none]))
theorem k96 (r58 : Rel) : compileFn (E96 r58) Try.f96 sg96 hs96 = some c96 := by kernel_rfl
/- slices.IndexFunc[[]int,int] -/
noncomputable def l104 (r96 : Rel) : Deps := [(96, sg96, r96)]
noncomputable def E104 (r96 : Rel) : Env := mkE Try.prog [0, 1, 2, 3, 5] [] (l104 r96) [(11, 96, 2)]
noncomputable def hs104 : HS := [[2, 3, 4, 5, 6, 9, 10, 11, 12, 13, 14, 15, 16, 17, 18]]
noncomputable def c104 : Cmd :=
  .seq (.ops [⟨.copy 4 (.const (.int .i64 0)), none, (some 4), false⟩])
   (.seq (.seq (.ops [⟨.copy 6 (.tmp 0), none, (some 6), false⟩,
       ⟨.len 7 false (.tmp 6), none, (some 7), false⟩,
       ⟨.copy 8 (.const (.int .i64 0)), none, (some 8), false⟩])
     (.block 0 (.loop [true, true, false, false, false, false, false, true, true, false, false, false, false, false, false, false, false, false, false]
       (.seq (.ops [⟨.bin 9 .lss (.tmp 8) (.tmp 7), none, (some 9), false⟩])
        (.seq (.cond (.tmp 9)
          (.skip)
          (.exit 0))
         (.seq (.block 1 (.seq (.ops [⟨.copy 10 (.tmp 8), none, (some 10), false⟩,
              ⟨.copy 5 (.tmp 10), none, (some 5), false⟩])
            (.seq (.ops [⟨.copy 11 (.tmp 1), none, (some 11), false⟩,
               ⟨.copy 12 (.tmp 0), none, (some 12), false⟩,
               ⟨.copy 13 (.tmp 5), none, (some 13), false⟩,
               ⟨.iadd 14 12 3 (.tmp 13), none, (some 14), false⟩,
               ⟨.loadE 15 12 14 none true, none, (some 15), false⟩,
               ⟨.callv (some 16) (.tmp 11) 96 2 sg96 [(.tmp 15)] [.none], none, (some 16), false⟩])
             (.cond (.tmp 16)
              (.seq (.ops [⟨.copy 17 (.tmp 5), none, (some 17), false⟩,
                 ⟨.copy 4 (.tmp 17), none, (some 4), false⟩])
               (.ret [(.tmp 4)] [.none]))
              (.skip)))))
          (.ops [⟨.bin 18 .add (.tmp 8) (.const (.int .i64 1)), none, (some 18), false⟩,
            ⟨.copy 8 (.tmp 18), none, (some 8), false⟩])))))))
    (.seq (.ops [⟨.copy 4 (.const (.int .i64 (-1))), none, (some 4), false⟩])
     (.ret [(.tmp 4)] [.none])))
theorem k104 (r96 : Rel) : compileFn (E104 r96) Try.f104 sg104 hs104 = some c104 := by kernel_rfl
/- slices.ContainsFunc[[]int,int] -/
noncomputable def l95 (r104 : Rel) : Deps := [(104, sg104, r104)]
noncomputable def E95 (r104 : Rel) : Env := mkE Try.prog [0, 1, 2, 3] [] (l95 r104) []
noncomputable def hs95 : HS := []
noncomputable def c95 : Cmd :=
  .seq (.ops [⟨.copy 4 (.const (.bool false)), none, (some 4), false⟩])
   (.seq (.ops [⟨.copy 5 (.tmp 0), none, (some 5), false⟩,
      ⟨.copy 6 (.tmp 1), none, (some 6), false⟩,
      ⟨.call (some 7) 104 sg104 [(.tmp 5), (.tmp 6)] [.none, .none], none, (some 7), false⟩,
      ⟨.bin 8 .geq (.tmp 7) (.const (.int .i64 0)), none, (some 8), false⟩,
      ⟨.copy 4 (.tmp 8), none, (some 4), false⟩])
    (.ret [(.tmp 4)] [.none]))
theorem k95 (r104 : Rel) : compileFn (E95 r104) Try.f95 sg95 hs95 = some c95 := by kernel_rfl
/- loop.example/g01334/impl.areWithin -/
noncomputable def l79 (r95 : Rel) : Deps := [(95, sg95, r95)]
noncomputable def E79 (r95 : Rel) : Env := mkE Try.prog [0, 1, 2, 3, 4, 5] [] (l79 r95) []
noncomputable def hs79 : HS := []
noncomputable def c79 : Cmd :=
  .seq (.ops [⟨.box 4 .own (.tmp 1) .none, none, (some 4), false⟩,
     ⟨.box 5 .own (.tmp 2) .none, none, (some 5), false⟩,
     ⟨.copy 6 (.const (.bool false)), none, (some 6), false⟩])
   (.seq (.ops [⟨.copy 7 (.tmp 0), none, (some 7), false⟩,
      ⟨.mkfn 8 96 [(.tmp 4), (.tmp 5)], none, (some 8), false⟩,
      ⟨.call (some 9) 95 sg95 [(.tmp 7), (.tmp 8)] [.none, .none], none, (some 9), false⟩,
      ⟨.un 10 .not (.tmp 9), none, (some 10), false⟩,
      ⟨.copy 6 (.tmp 10), none, (some 6), false⟩])
    (.ret [(.tmp 6)] [.none]))
theorem k79 (r95 : Rel) : compileFn (E79 r95) Try.f79 sg79 hs79 = some c79 := by kernel_rfl
/- loop.example/g01334/impl.areHidden -/
noncomputable def l52 (r58 r79 : Rel) : Deps := [(58, sg58, r58), (79, sg79, r79)]
noncomputable def E52 (r58 r79 : Rel) : Env := mkE Try.prog [0, 1] [] (l52 r58 r79) []
noncomputable def hs52 : HS := []
noncomputable def c52 : Cmd :=
  .seq (.ops [⟨.copy 2 (.const (.bool false)), none, (some 2), false⟩])
   (.seq (.ops [⟨.copy 3 (.tmp 0), none, (some 3), false⟩,
      ⟨.len 4 false (.tmp 3), none, (some 4), false⟩,
      ⟨.call (some 5) 58 sg58 [(.tmp 4), (.const (.int .i64 2)), (.const (.int .i64 4))] [.none, .none, .none], none, (some 5), false⟩,
      ⟨.copy 6 (.tmp 5), none, (some 6), false⟩,
      ⟨.copy 7 (.tmp 0), (some (6, true)), (some 7), false⟩,
      ⟨.call (some 8) 79 sg79 [(.tmp 7), (.const (.int .i64 1)), (.const (.int .i64 6))] [.none, .none, .none], (some (6, true)), (some 8), true⟩,
      ⟨.pick 9 (.tmp 6) (.tmp 8) (.const (.bool false)), none, (some 9), false⟩,
      ⟨.copy 2 (.tmp 9), none, (some 2), false⟩])
    (.ret [(.tmp 2)] [.none]))
theorem k52 (r58 r79 : Rel) : compileFn (E52 r58 r79) Try.f52 sg52 hs52 = some c52 := by kernel_rfl
/- loop.example/g01334/impl.IsClue -/
noncomputable def l53 (r58 : Rel) : Deps := [(58, sg58, r58)]
noncomputable def E53 (r58 : Rel) : Env := mkE Try.prog [0, 1, 2, 3, 5, 6] [] (l53 r58) []
noncomputable def hs53 : HS := []
noncomputable def c53 : Cmd :=
  .seq (.ops [⟨.box 3 .own (.tmp 1) .none, none, (some 3), false⟩,
     ⟨.copy 4 (.const (.bool false)), none, (some 4), false⟩])
   (.seq (.seq (.ops [⟨.copy 7 (.tmp 0), none, (some 7), false⟩,
       ⟨.call (some 8) 58 sg58 [(.tmp 7), (.const (.int .i64 2)), (.const (.int .i64 4))] [.none, .none, .none], none, (some 8), false⟩,
       ⟨.un 9 .not (.tmp 8), none, (some 9), false⟩])
     (.cond (.tmp 9)
      (.seq (.ops [⟨.copy 4 (.const (.bool false)), none, (some 4), false⟩])
       (.ret [(.tmp 4)] [.none]))
      (.skip)))
    (.seq (.ops [⟨.fadd 10 (.tmp 3) 1, none, (some 10), false⟩,
       ⟨.loadB 11 (.tmp 10) none true, none, (some 11), false⟩,
       ⟨.bin 12 .geq (.tmp 11) (.const (.int .i64 0)), none, (some 12), false⟩,
       ⟨.copy 13 (.tmp 12), none, (some 13), false⟩,
       ⟨.fadd 14 (.tmp 3) 1, (some (13, true)), (some 14), false⟩,
       ⟨.loadB 15 (.tmp 14) none true, (some (13, true)), (some 15), true⟩,
       ⟨.copy 16 (.tmp 0), (some (13, true)), (some 16), true⟩,
       ⟨.bin 17 .lss (.tmp 15) (.tmp 16), (some (13, true)), (some 17), true⟩,
       ⟨.pick 18 (.tmp 13) (.tmp 17) (.const (.bool false)), none, (some 18), false⟩,
       ⟨.copy 19 (.tmp 18), none, (some 19), false⟩,
       ⟨.fadd 20 (.tmp 3) 2, (some (19, true)), (some 20), false⟩,
       ⟨.loadB 21 (.tmp 20) none true, (some (19, true)), (some 21), true⟩,
       ⟨.bin 22 .geq (.tmp 21) (.const (.int .i64 0)), (some (19, true)), (some 22), true⟩,
       ⟨.pick 23 (.tmp 19) (.tmp 22) (.const (.bool false)), none, (some 23), false⟩,
       ⟨.copy 24 (.tmp 23), none, (some 24), false⟩,
       ⟨.fadd 25 (.tmp 3) 2, (some (24, true)), (some 25), false⟩,
       ⟨.loadB 26 (.tmp 25) none true, (some (24, true)), (some 26), true⟩,
       ⟨.copy 27 (.tmp 0), (some (24, true)), (some 27), true⟩,
       ⟨.bin 28 .lss (.tmp 26) (.tmp 27), (some (24, true)), (some 28), true⟩,
       ⟨.pick 29 (.tmp 24) (.tmp 28) (.const (.bool false)), none, (some 29), false⟩,
       ⟨.copy 30 (.tmp 29), none, (some 30), false⟩,
       ⟨.fadd 31 (.tmp 3) 1, (some (30, true)), (some 31), false⟩,
       ⟨.loadB 32 (.tmp 31) none true, (some (30, true)), (some 32), true⟩,
       ⟨.fadd 33 (.tmp 3) 2, (some (30, true)), (some 33), false⟩,
       ⟨.loadB 34 (.tmp 33) none true, (some (30, true)), (some 34), true⟩,
       ⟨.bin 35 .neq (.tmp 32) (.tmp 34), (some (30, true)), (some 35), true⟩,
       ⟨.pick 36 (.tmp 30) (.tmp 35) (.const (.bool false)), none, (some 36), false⟩,
       ⟨.copy 5 (.tmp 36), none, (some 5), false⟩])
     (.seq (.ops [⟨.fadd 37 (.tmp 3) 1, none, (some 37), false⟩,
        ⟨.loadB 38 (.tmp 37) none true, none, (some 38), false⟩,
        ⟨.bin 39 .eql (.tmp 38) (.const (.int .i64 0)), none, (some 39), false⟩,
        ⟨.copy 40 (.tmp 39), none, (some 40), false⟩,
        ⟨.fadd 41 (.tmp 3) 2, (some (40, true)), (some 41), false⟩,
        ⟨.loadB 42 (.tmp 41) none true, (some (40, true)), (some 42), true⟩,
        ⟨.bin 43 .eql (.tmp 42) (.const (.int .i64 0)), (some (40, true)), (some 43), true⟩,
        ⟨.pick 44 (.tmp 40) (.tmp 43) (.const (.bool false)), none, (some 44), false⟩,
        ⟨.copy 6 (.tmp 44), none, (some 6), false⟩])
      (.seq (.seq (.ops [⟨.fadd 45 (.tmp 3) 0, none, (some 45), false⟩,
          ⟨.loadB 46 (.tmp 45) none true, none, (some 46), false⟩])
        (.block 0 (.seq (.ops [⟨.bin 48 .eql (.tmp 46) (.const (.int .i64 0)), none, (some 48), false⟩,
            ⟨.copy 47 (.tmp 48), none, (some 47), false⟩])
          (.cond (.tmp 47)
           (.seq (.ops [⟨.copy 49 (.tmp 6), none, (some 49), false⟩,
              ⟨.copy 50 (.tmp 49), none, (some 50), false⟩,
              ⟨.fadd 51 (.tmp 3) 3, (some (50, true)), (some 51), false⟩,
              ⟨.loadB 52 (.tmp 51) none true, (some (50, true)), (some 52), true⟩,
              ⟨.call (some 53) 58 sg58 [(.tmp 52), (.const (.int .i64 0)), (.const (.int .i64 24))] [.none, .none, .none], (some (50, true)), (some 53), true⟩,
              ⟨.pick 54 (.tmp 50) (.tmp 53) (.const (.bool false)), none, (some 54), false⟩,
              ⟨.copy 4 (.tmp 54), none, (some 4), false⟩])
            (.ret [(.tmp 4)] [.none]))
           (.seq (.ops [⟨.bin 56 .eql (.tmp 46) (.const (.int .i64 1)), none, (some 56), false⟩,
              ⟨.copy 55 (.tmp 56), none, (some 55), false⟩])
            (.cond (.tmp 55)
             (.seq (.ops [⟨.copy 57 (.tmp 5), none, (some 57), false⟩,
                ⟨.copy 58 (.tmp 57), none, (some 58), false⟩,
                ⟨.fadd 59 (.tmp 3) 3, (some (58, true)), (some 59), false⟩,
                ⟨.loadB 60 (.tmp 59) none true, (some (58, true)), (some 60), true⟩,
                ⟨.call (some 61) 58 sg58 [(.tmp 60), (.const (.int .i64 0)), (.const (.int .i64 1))] [.none, .none, .none], (some (58, true)), (some 61), true⟩,
                ⟨.pick 62 (.tmp 58) (.tmp 61) (.const (.bool false)), none, (some 62), false⟩,
                ⟨.copy 4 (.tmp 62), none, (some 4), false⟩])
              (.ret [(.tmp 4)] [.none]))
             (.seq (.ops [⟨.bin 64 .eql (.tmp 46) (.const (.int .i64 2)), none, (some 64), false⟩,
                ⟨.copy 63 (.tmp 64), none, (some 63), false⟩])
              (.cond (.tmp 63)
               (.seq (.ops [⟨.fadd 65 (.tmp 3) 1, none, (some 65), false⟩,
                  ⟨.loadB 66 (.tmp 65) none true, none, (some 66), false⟩,
                  ⟨.call (some 67) 58 sg58 [(.tmp 66), (.const (.int .i64 6)), (.const (.int .i64 24))] [.none, .none, .none], none, (some 67), false⟩,
                  ⟨.copy 68 (.tmp 67), none, (some 68), false⟩,
                  ⟨.fadd 69 (.tmp 3) 2, (some (68, true)), (some 69), false⟩,
                  ⟨.loadB 70 (.tmp 69) none true, (some (68, true)), (some 70), true⟩,
                  ⟨.bin 71 .eql (.tmp 70) (.const (.int .i64 0)), (some (68, true)), (some 71), true⟩,
                  ⟨.pick 72 (.tmp 68) (.tmp 71) (.const (.bool false)), none, (some 72), false⟩,
                  ⟨.copy 73 (.tmp 72), none, (some 73), false⟩,
                  ⟨.fadd 74 (.tmp 3) 3, (some (73, true)), (some 74), false⟩,
                  ⟨.loadB 75 (.tmp 74) none true, (some (73, true)), (some 75), true⟩,
                  ⟨.call (some 76) 58 sg58 [(.tmp 75), (.const (.int .i64 1)), (.const (.int .i64 4))] [.none, .none, .none], (some (73, true)), (some 76), true⟩,
                  ⟨.pick 77 (.tmp 73) (.tmp 76) (.const (.bool false)), none, (some 77), false⟩,
                  ⟨.copy 4 (.tmp 77), none, (some 4), false⟩])
                (.ret [(.tmp 4)] [.none]))
               (.seq (.ops [⟨.bin 79 .eql (.tmp 46) (.const (.int .i64 3)), none, (some 79), false⟩,
                  ⟨.copy 78 (.tmp 79), none, (some 78), false⟩])
                (.cond (.tmp 78)
                 (.seq (.ops [⟨.fadd 80 (.tmp 3) 1, none, (some 80), false⟩,
                    ⟨.loadB 81 (.tmp 80) none true, none, (some 81), false⟩,
                    ⟨.call (some 82) 58 sg58 [(.tmp 81), (.const (.int .i64 1)), (.const (.int .i64 24))] [.none, .none, .none], none, (some 82), false⟩,
                    ⟨.copy 83 (.tmp 82), none, (some 83), false⟩,
                    ⟨.fadd 84 (.tmp 3) 2, (some (83, true)), (some 84), false⟩,
                    ⟨.loadB 85 (.tmp 84) none true, (some (83, true)), (some 85), true⟩,
                    ⟨.bin 86 .eql (.tmp 85) (.const (.int .i64 0)), (some (83, true)), (some 86), true⟩,
                    ⟨.pick 87 (.tmp 83) (.tmp 86) (.const (.bool false)), none, (some 87), false⟩,
                    ⟨.copy 88 (.tmp 87), none, (some 88), false⟩,
                    ⟨.fadd 89 (.tmp 3) 3, (some (88, true)), (some 89), false⟩,
                    ⟨.loadB 90 (.tmp 89) none true, (some (88, true)), (some 90), true⟩,
                    ⟨.call (some 91) 58 sg58 [(.tmp 90), (.const (.int .i64 0)), (.const (.int .i64 1))] [.none, .none, .none], (some (88, true)), (some 91), true⟩,
                    ⟨.pick 92 (.tmp 88) (.tmp 91) (.const (.bool false)), none, (some 92), false⟩,
                    ⟨.copy 4 (.tmp 92), none, (some 4), false⟩])
                  (.ret [(.tmp 4)] [.none]))
                 (.seq (.ops [⟨.bin 94 .eql (.tmp 46) (.const (.int .i64 4)), none, (some 94), false⟩,
                    ⟨.copy 93 (.tmp 94), none, (some 93), false⟩])
                  (.cond (.tmp 93)
                   (.seq (.ops [⟨.copy 95 (.tmp 5), none, (some 95), false⟩,
                      ⟨.copy 96 (.tmp 95), none, (some 96), false⟩,
                      ⟨.fadd 97 (.tmp 3) 3, (some (96, true)), (some 97), false⟩,
                      ⟨.loadB 98 (.tmp 97) none true, (some (96, true)), (some 98), true⟩,
                      ⟨.call (some 99) 58 sg58 [(.tmp 98), (.const (.int .i64 1)), (.const (.int .i64 36))] [.none, .none, .none], (some (96, true)), (some 99), true⟩,
                      ⟨.pick 100 (.tmp 96) (.tmp 99) (.const (.bool false)), none, (some 100), false⟩,
                      ⟨.copy 4 (.tmp 100), none, (some 4), false⟩])
                    (.ret [(.tmp 4)] [.none]))
                   (.seq (.ops [⟨.bin 102 .eql (.tmp 46) (.const (.int .i64 5)), none, (some 102), false⟩,
                      ⟨.copy 101 (.tmp 102), none, (some 101), false⟩])
                    (.cond (.tmp 101)
                     (.seq (.ops [⟨.copy 103 (.tmp 6), none, (some 103), false⟩,
                        ⟨.copy 104 (.tmp 103), none, (some 104), false⟩,
                        ⟨.fadd 105 (.tmp 3) 3, (some (104, true)), (some 105), false⟩,
                        ⟨.loadB 106 (.tmp 105) none true, (some (104, true)), (some 106), true⟩,
                        ⟨.call (some 107) 58 sg58 [(.tmp 106), (.const (.int .i64 1)), (.const (.int .i64 6))] [.none, .none, .none], (some (104, true)), (some 107), true⟩,
                        ⟨.pick 108 (.tmp 104) (.tmp 107) (.const (.bool false)), none, (some 108), false⟩,
                        ⟨.copy 4 (.tmp 108), none, (some 4), false⟩])
                      (.ret [(.tmp 4)] [.none]))
                     (.skip)))))))))))))))
       (.seq (.ops [⟨.copy 4 (.const (.bool false)), none, (some 4), false⟩])
        (.ret [(.tmp 4)] [.none]))))))
theorem k53 (r58 : Rel) : compileFn (E53 r58) Try.f53 sg53 hs53 = some c53 := by kernel_rfl
/- loop.example/g01334/impl.sum -/
noncomputable def l80 : Deps := []
noncomputable def E80 : Env := mkE Try.prog [0, 1, 3, 4, 5] [] (l80) []
noncomputable def hs80 : HS := [[0, 1, 2, 4, 5, 9, 10, 11, 12, 13, 14, 15, 16]]
noncomputable def c80 : Cmd :=
  .seq (.ops [⟨.copy 2 (.const (.int .i64 0)), none, (some 2), false⟩])
   (.seq (.ops [⟨.copy 3 (.const (.int .i64 0)), none, (some 3), false⟩])
    (.seq (.seq (.ops [⟨.copy 6 (.tmp 0), none, (some 6), false⟩,
        ⟨.len 7 false (.tmp 6), none, (some 7), false⟩,
        ⟨.copy 8 (.const (.int .i64 0)), none, (some 8), false⟩])
      (.block 0 (.loop [false, false, false, true, false, false, true, true, true, false, false, false, false, false, false, false, false]
        (.seq (.ops [⟨.bin 9 .lss (.tmp 8) (.tmp 7), none, (some 9), false⟩])
         (.seq (.cond (.tmp 9)
           (.skip)
           (.exit 0))
          (.seq (.block 1 (.seq (.ops [⟨.iadd 10 6 3 (.tmp 8), none, (some 10), false⟩,
               ⟨.loadE 11 6 10 none true, none, (some 11), false⟩,
               ⟨.copy 5 (.tmp 11), none, (some 5), false⟩])
             (.ops [⟨.copy 12 (.tmp 3), none, (some 12), false⟩,
               ⟨.copy 13 (.tmp 5), none, (some 13), false⟩,
               ⟨.bin 14 .add (.tmp 12) (.tmp 13), none, (some 14), false⟩,
               ⟨.copy 3 (.tmp 14), none, (some 3), false⟩])))
           (.ops [⟨.bin 15 .add (.tmp 8) (.const (.int .i64 1)), none, (some 15), false⟩,
             ⟨.copy 8 (.tmp 15), none, (some 8), false⟩])))))))
     (.seq (.ops [⟨.copy 16 (.tmp 3), none, (some 16), false⟩,
        ⟨.copy 2 (.tmp 16), none, (some 2), false⟩])
      (.ret [(.tmp 2)] [.none]))))
theorem k80 : compileFn (E80) Try.f80 sg80 hs80 = some c80 := by kernel_rfl
/- loop.example/g01334/impl.bit -/
noncomputable def l81 : Deps := []
noncomputable def E81 : Env := mkE Try.prog [0, 1] [] (l81) []
noncomputable def hs81 : HS := []
noncomputable def c81 : Cmd :=
  .seq (.ops [⟨.copy 2 (.const (.int .i64 0)), none, (some 2), false⟩])
   (.seq (.seq (.ops [⟨.copy 3 (.tmp 0), none, (some 3), false⟩])
     (.cond (.tmp 3)
      (.seq (.ops [⟨.copy 2 (.const (.int .i64 1)), none, (some 2), false⟩])
       (.ret [(.tmp 2)] [.none]))
      (.skip)))
    (.seq (.ops [⟨.copy 2 (.const (.int .i64 0)), none, (some 2), false⟩])
     (.ret [(.tmp 2)] [.none])))
theorem k81 : compileFn (E81) Try.f81 sg81 hs81 = some c81 := by kernel_rfl
/- loop.example/g01334/impl.AreThings -/
noncomputable def l99 (r58 r79 : Rel) : Deps := [(58, sg58, r58), (79, sg79, r79)]
noncomputable def E99 (r58 r79 : Rel) : Env := mkE Try.prog [0, 1] [] (l99 r58 r79) []
noncomputable def hs99 : HS := []
noncomputable def c99 : Cmd :=
  .seq (.ops [⟨.copy 2 (.const (.bool false)), none, (some 2), false⟩])
   (.seq (.ops [⟨.copy 3 (.tmp 0), none, (some 3), false⟩,
      ⟨.len 4 false (.tmp 3), none, (some 4), false⟩,
      ⟨.call (some 5) 58 sg58 [(.tmp 4), (.const (.int .i64 1)), (.const (.int .i64 9))] [.none, .none, .none], none, (some 5), false⟩,
      ⟨.copy 6 (.tmp 5), none, (some 6), false⟩,
      ⟨.copy 7 (.tmp 0), (some (6, true)), (some 7), false⟩,
      ⟨.call (some 8) 79 sg79 [(.tmp 7), (.const (.int .i64 1)), (.const (.int .i64 100))] [.none, .none, .none], (some (6, true)), (some 8), true⟩,
      ⟨.pick 9 (.tmp 6) (.tmp 8) (.const (.bool false)), none, (some 9), false⟩,
      ⟨.copy 2 (.tmp 9), none, (some 2), false⟩])
    (.ret [(.tmp 2)] [.none]))
theorem k99 (r58 r79 : Rel) : compileFn (E99 r58 r79) Try.f99 sg99 hs99 = some c99 := by kernel_rfl
/- slices.Max[[]int,int] -/
noncomputable def l84 : Deps := []
noncomputable def E84 : Env := mkE Try.prog [0, 1, 3, 4] [] (l84) []
noncomputable def hs84 : HS := [[1, 2, 5, 6, 7, 8, 9, 10, 11, 12, 13, 14, 15, 16, 17, 18, 19, 20, 21, 22, 23, 24]]
noncomputable def c84 : Cmd :=
  .seq (.ops [⟨.copy 2 (.const (.int .i64 0)), none, (some 2), false⟩])
   (.seq (.seq (.ops [⟨.copy 5 (.tmp 0), none, (some 5), false⟩,
       ⟨.len 6 false (.tmp 5), none, (some 6), false⟩,
       ⟨.bin 7 .lss (.tmp 6) (.const (.int .i64 1)), none, (some 7), false⟩])
     (.cond (.tmp 7)
      (.ops [⟨.fail, none, (some 8), false⟩,
        ⟨.fail, none, none, false⟩])
      (.skip)))
    (.seq (.ops [⟨.copy 9 (.tmp 0), none, (some 9), false⟩,
       ⟨.iadd 10 9 3 (.const (.int .i64 0)), none, (some 10), false⟩,
       ⟨.loadE 11 9 10 none true, none, (some 11), false⟩,
       ⟨.copy 3 (.tmp 11), none, (some 3), false⟩])
     (.seq (.seq (.ops [⟨.copy 4 (.const (.int .i64 1)), none, (some 4), false⟩])
       (.block 0 (.loop [true, false, false, true, true, false, false, false, false, false, false, false, false, false, false, false, false, false, false, false, false, false, false, false, false]
         (.seq (.seq (.ops [⟨.copy 12 (.tmp 4), none, (some 12), false⟩,
             ⟨.copy 13 (.tmp 0), none, (some 13), false⟩,
             ⟨.len 14 false (.tmp 13), none, (some 14), false⟩,
             ⟨.bin 15 .lss (.tmp 12) (.tmp 14), none, (some 15), false⟩])
           (.cond (.tmp 15)
            (.skip)
            (.exit 0)))
          (.seq (.block 1 (.ops [⟨.copy 18 (.tmp 3), none, (some 18), false⟩,
              ⟨.copy 19 (.tmp 0), none, (some 19), false⟩,
              ⟨.copy 20 (.tmp 4), none, (some 20), false⟩,
              ⟨.iadd 21 19 3 (.tmp 20), none, (some 21), false⟩,
              ⟨.loadE 22 19 21 none true, none, (some 22), false⟩,
              ⟨.mm 23 true (.tmp 18) (.tmp 22), none, (some 23), false⟩,
              ⟨.copy 3 (.tmp 23), none, (some 3), false⟩]))
           (.ops [⟨.copy 16 (.tmp 4), none, (some 16), false⟩,
             ⟨.bin 17 .add (.tmp 16) (.const (.int .i64 1)), none, (some 17), false⟩,
             ⟨.copy 4 (.tmp 17), none, (some 4), false⟩]))))))
      (.seq (.ops [⟨.copy 24 (.tmp 3), none, (some 24), false⟩,
         ⟨.copy 2 (.tmp 24), none, (some 2), false⟩])
       (.ret [(.tmp 2)] [.none])))))
theorem k84 : compileFn (E84) Try.f84 sg84 hs84 = some c84 := by kernel_rfl
/- loop.example/g01334/impl.areRoomy -/
noncomputable def l97 (r99 r84 r58 : Rel) : Deps := [(99, sg99, r99), (84, sg84, r84), (58, sg58, r58)]
noncomputable def E97 (r99 r84 r58 : Rel) : Env := mkE Try.prog [0, 1, 2, 3] [] (l97 r99 r84 r58) []
noncomputable def hs97 : HS := []
noncomputable def c97 : Cmd :=
  .seq (.ops [⟨.copy 4 (.const (.bool false)), none, (some 4), false⟩])
   (.seq (.ops [⟨.copy 5 (.tmp 0), none, (some 5), false⟩,
      ⟨.call (some 6) 99 sg99 [(.tmp 5)] [.none], none, (some 6), false⟩,
      ⟨.copy 7 (.tmp 6), none, (some 7), false⟩,
      ⟨.copy 8 (.tmp 1), (some (7, true)), (some 8), true⟩,
      ⟨.copy 9 (.tmp 0), (some (7, true)), (some 9), false⟩,
      ⟨.call (some 10) 84 sg84 [(.tmp 9)] [.none], (some (7, true)), (some 10), true⟩,
      ⟨.call (some 11) 58 sg58 [(.tmp 8), (.tmp 10), (.const (.int .i64 1000))] [.none, .none, .none], (some (7, true)), (some 11), true⟩,
      ⟨.pick 12 (.tmp 7) (.tmp 11) (.const (.bool false)), none, (some 12), false⟩,
      ⟨.copy 4 (.tmp 12), none, (some 4), false⟩])
    (.ret [(.tmp 4)] [.none]))
theorem k97 (r99 r84 r58 : Rel) : compileFn (E97 r99 r84 r58) Try.f97 sg97 hs97 = some c97 := by kernel_rfl
/- slices.Clone[[]int,int] -/
noncomputable def l72 : Deps := []
noncomputable def E72 : Env := mkE Try.prog [0, 1] [] (l72) []
noncomputable def hs72 : HS := []
noncomputable def c72 : Cmd :=
  .seq (.ops [⟨.copy 2 (.const (.slice none 0 0)), none, (some 2), false⟩])
   (.seq (.seq (.ops [⟨.copy 3 (.tmp 0), none, (some 3), false⟩,
       ⟨.isnil 4 false (.tmp 3), none, (some 4), false⟩])
     (.cond (.tmp 4)
      (.seq (.ops [⟨.copy 2 (.const (.slice none 0 0)), none, (some 2), false⟩])
       (.ret [(.tmp 2)] [.none]))
      (.skip)))
    (.seq (.ops [⟨.lit 5 3 1 [] [], none, (some 5), false⟩,
       ⟨.copy 6 (.tmp 0), none, (some 6), false⟩,
       ⟨.app 7 3 8 true (.tmp 5) (.tmp 6) [(.slot 5), .none], none, (some 7), false⟩,
       ⟨.take 2 (.tmp 7) (.slot 7), none, (some 2), false⟩])
     (.ret [(.tmp 2)] [(.slot 2)])))
theorem k72 : compileFn (E72) Try.f72 sg72 hs72 = some c72 := by kernel_rfl
/- loop.example/g01334/impl.fewest$1 -/
noncomputable def l106 : Deps := []
noncomputable def E106 : Env := mkE Try.prog [0, 2] [] (l106) []
noncomputable def hs106 : HS := []
noncomputable def c106 : Cmd :=
  .seq (.ops [⟨.copy 3 (.const (.bool false)), none, (some 3), false⟩])
   (.seq (.ops [⟨.copy 4 (.tmp 0), none, (some 4), false⟩,
      ⟨.storeB (.tmp 1) (.tmp 4) none (.slot 0), none, none, false⟩])
    (.seq (.ops [⟨.copy 3 (.const (.bool false)), none, (some 3), false⟩])
     (.ret [(.tmp 3)] [.none])))
theorem k106 : compileFn (E106) Try.f106 sg106 hs106 = some c106 := by kernel_rfl
/- loop.example/g01334/impl.plans$1 -/
noncomputable def l107 (r72 r106 r107 : Rel) : Deps := [(72, sg72, r72), (106, sg106, r106), (107, sg107, r107)]
noncomputable def E107 (r72 r106 r107 : Rel) : Env := mkE Try.prog [0, 1, 7, 8, 10, 11, 12] [] (l107 r72 r106 r107) [(19, 106, 1), (56, 107, 5)]
noncomputable def hs107 : HS := [[3, 4, 7, 8, 9, 11, 12, 13, 14, 15, 16, 17, 18, 19, 20, 21, 22, 23, 24, 25, 28, 29, 30, 31, 32, 33, 34, 35, 36, 37, 38, 39, 40, 41, 42, 43, 44, 45, 46, 47, 48, 49, 50, 51, 52, 53, 54, 55, 65, 66]]
noncomputable def c107 : Cmd :=
  .seq (.ops [⟨.copy 9 (.const (.bool false)), none, (some 9), false⟩])
   (.seq (.ops [⟨.copy 13 (.tmp 0), none, (some 13), false⟩,
      ⟨.len 14 false (.tmp 13), none, (some 14), false⟩,
      ⟨.copy 10 (.tmp 14), none, (some 10), false⟩])
    (.seq (.seq (.ops [⟨.copy 15 (.tmp 10), none, (some 15), false⟩,
        ⟨.loadB 16 (.tmp 2) none false, none, (some 16), false⟩,
        ⟨.len 17 false (.tmp 16), none, (some 17), false⟩,
        ⟨.bin 18 .eql (.tmp 15) (.tmp 17), none, (some 18), false⟩])
      (.cond (.tmp 18)
       (.seq (.ops [⟨.loadB 19 (.tmp 3) none false, none, (some 19), false⟩,
          ⟨.copy 20 (.tmp 0), none, (some 20), false⟩,
          ⟨.callv (some 21) (.tmp 19) 106 1 sg106 [(.tmp 20)] [(.slot 0)], none, (some 21), false⟩,
          ⟨.copy 9 (.tmp 21), none, (some 9), false⟩])
        (.ret [(.tmp 9)] [.none]))
       (.skip)))
     (.seq (.seq (.ops [⟨.copy 22 (.tmp 1), none, (some 22), false⟩,
         ⟨.len 23 false (.tmp 22), none, (some 23), false⟩,
         ⟨.bin 24 .add (.tmp 23) (.const (.int .i64 1)), none, (some 24), false⟩,
         ⟨.loadB 25 (.tmp 4) none true, none, (some 25), false⟩,
         ⟨.mm 26 false (.tmp 24) (.tmp 25), none, (some 26), false⟩,
         ⟨.copy 27 (.const (.int .i64 0)), none, (some 27), false⟩])
       (.block 0 (.loop [true, true, true, false, false, true, true, false, false, false, true, false, false, false, false, false, false, false, false, false, false, false, false, false, false, false, true, true, false, false, false, false, false, false, false, false, false, false, false, false, false, false, false, false, false, false, false, false, false, false, false, false, false, false, false, false, false, false, false, false, false, false, false, false, false, false, false]
         (.seq (.ops [⟨.bin 28 .lss (.tmp 27) (.tmp 26), none, (some 28), false⟩])
          (.seq (.cond (.tmp 28)
            (.skip)
            (.exit 0))
           (.seq (.block 1 (.seq (.ops [⟨.copy 29 (.tmp 27), none, (some 29), false⟩,
                ⟨.copy 11 (.tmp 29), none, (some 11), false⟩])
              (.seq (.ops [⟨.copy 30 (.tmp 1), none, (some 30), false⟩,
                 ⟨.call (some 31) 72 sg72 [(.tmp 30)] [.none], none, (some 31), false⟩,
                 ⟨.take 12 (.tmp 31) (.slot 31), none, (some 12), false⟩])
               (.seq (.seq (.ops [⟨.copy 32 (.tmp 11), none, (some 32), false⟩,
                   ⟨.copy 33 (.tmp 1), none, (some 33), false⟩,
                   ⟨.len 34 false (.tmp 33), none, (some 34), false⟩,
                   ⟨.bin 35 .eql (.tmp 32) (.tmp 34), none, (some 35), false⟩])
                 (.cond (.tmp 35)
                  (.ops [⟨.copy 36 (.tmp 12), none, (some 36), false⟩,
                    ⟨.lit 37 3 1 [(.const (.int .i64 0))] [.none], none, (some 37), false⟩,
                    ⟨.app 38 3 8 true (.tmp 36) (.tmp 37) [(.slot 12), .none], none, (some 38), false⟩,
                    ⟨.take 12 (.tmp 38) (.slot 38), none, (some 12), false⟩])
                  (.skip)))
                (.seq (.ops [⟨.copy 39 (.tmp 12), none, (some 39), false⟩,
                   ⟨.copy 40 (.tmp 11), none, (some 40), false⟩,
                   ⟨.iadd 41 39 3 (.tmp 40), none, (some 41), false⟩,
                   ⟨.loadE 42 39 41 none true, none, (some 42), false⟩,
                   ⟨.loadB 43 (.tmp 2) none false, none, (some 43), false⟩,
                   ⟨.copy 44 (.tmp 10), none, (some 44), false⟩,
                   ⟨.iadd 45 43 3 (.tmp 44), none, (some 45), false⟩,
                   ⟨.loadE 46 43 45 none true, none, (some 46), false⟩,
                   ⟨.bin 47 .add (.tmp 42) (.tmp 46), none, (some 47), false⟩,
                   ⟨.iadd 48 39 3 (.tmp 40), none, (some 48), false⟩,
                   ⟨.storeE 12 48 none (.tmp 47), none, none, false⟩])
                 (.seq (.ops [⟨.copy 49 (.tmp 12), none, (some 49), false⟩,
                    ⟨.copy 50 (.tmp 11), none, (some 50), false⟩,
                    ⟨.iadd 51 49 3 (.tmp 50), none, (some 51), false⟩,
                    ⟨.loadE 52 49 51 none true, none, (some 52), false⟩,
                    ⟨.loadB 53 (.tmp 5) none true, none, (some 53), false⟩,
                    ⟨.bin 54 .leq (.tmp 52) (.tmp 53), none, (some 54), false⟩,
                    ⟨.copy 55 (.tmp 54), none, (some 55), false⟩,
                    ⟨.loadB 56 (.tmp 6) none false, (some (55, true)), (some 56), false⟩,
                    ⟨.copy 57 (.tmp 0), (some (55, true)), (some 57), false⟩,
                    ⟨.call (some 58) 72 sg72 [(.tmp 57)] [.none], (some (55, true)), (some 58), false⟩,
                    ⟨.copy 59 (.tmp 11), (some (55, true)), (some 59), true⟩,
                    ⟨.lit 60 3 1 [(.tmp 59)] [.none], (some (55, true)), (some 60), false⟩,
                    ⟨.app 61 3 8 true (.tmp 58) (.tmp 60) [(.slot 58), .none], (some (55, true)), (some 61), false⟩,
                    ⟨.copy 62 (.tmp 12), (some (55, true)), (some 62), false⟩,
                    ⟨.callv (some 63) (.tmp 56) 107 5 sg107 [(.tmp 61), (.tmp 62)] [(.slot 61), .none], (some (55, true)), (some 63), true⟩,
                    ⟨.un 64 .not (.tmp 63), (some (55, true)), (some 64), true⟩,
                    ⟨.pick 65 (.tmp 55) (.tmp 64) (.const (.bool false)), none, (some 65), false⟩])
                  (.cond (.tmp 65)
                   (.seq (.ops [⟨.copy 9 (.const (.bool false)), none, (some 9), false⟩])
                    (.ret [(.tmp 9)] [.none]))
                   (.skip))))))))
            (.ops [⟨.bin 66 .add (.tmp 27) (.const (.int .i64 1)), none, (some 66), false⟩,
              ⟨.copy 27 (.tmp 66), none, (some 27), false⟩])))))))
      (.seq (.ops [⟨.copy 9 (.const (.bool true)), none, (some 9), false⟩])
       (.ret [(.tmp 9)] [.none])))))
theorem k107 (r72 r106 r107 : Rel) : compileFn (E107 r72 r106 r107) Try.f107 sg107 hs107 = some c107 := by kernel_rfl
/- loop.example/g01334/impl.plans -/
noncomputable def l105 (r107 : Rel) : Deps := [(107, sg107, r107)]
noncomputable def E105 (r107 : Rel) : Env := mkE Try.prog [0, 1, 2, 3, 4, 5, 6, 7, 9] [] (l105 r107) [(11, 107, 5)]
noncomputable def hs105 : HS := []
noncomputable def c105 : Cmd :=
  .seq (.ops [⟨.box 4 .sh (.tmp 0) .none, none, (some 4), false⟩,
     ⟨.box 5 .own (.tmp 1) .none, none, (some 5), false⟩,
     ⟨.box 6 .own (.tmp 2) .none, none, (some 6), false⟩,
     ⟨.box 7 .fn (.tmp 3) .none, none, (some 7), false⟩,
     ⟨.copy 8 (.const (.bool false)), none, (some 8), false⟩])
   (.seq (.ops [⟨.alloc 9 .fn [.nilf], none, (some 9), false⟩])
    (.seq (.ops [⟨.mkfn 10 107 [(.tmp 4), (.tmp 7), (.tmp 6), (.tmp 5), (.tmp 9)], none, (some 10), false⟩,
       ⟨.storeB (.tmp 9) (.tmp 10) none .none, none, none, false⟩])
     (.seq (.ops [⟨.loadB 11 (.tmp 9) none false, none, (some 11), false⟩,
        ⟨.callv (some 12) (.tmp 11) 107 5 sg107 [(.const (.slice none 0 0)), (.const (.slice none 0 0))] [.none, .none], none, (some 12), false⟩,
        ⟨.copy 8 (.tmp 12), none, (some 8), false⟩])
      (.ret [(.tmp 8)] [.none]))))
theorem k105 (r107 : Rel) : compileFn (E105 r107) Try.f105 sg105 hs105 = some c105 := by kernel_rfl
/- loop.example/g01334/impl.fewest -/
noncomputable def l98 (r105 : Rel) : Deps := [(105, sg105, r105)]
noncomputable def E98 (r105 : Rel) : Env := mkE Try.prog [0, 1, 2, 3, 5, 6] [] (l98 r105) []
noncomputable def hs98 : HS := [[2, 3, 4, 6, 7, 8, 9, 10, 11, 12, 13, 14, 15]]
noncomputable def c98 : Cmd :=
  .seq (.ops [⟨.copy 4 (.const (.slice none 0 0)), none, (some 4), false⟩])
   (.seq (.ops [⟨.copy 5 (.const (.int .i64 1)), none, (some 5), false⟩])
    (.block 0 (.loop [true, true, false, false, false, true, false, false, false, false, false, false, false, false, false, false]
      (.seq (.block 1 (.seq (.ops [⟨.alloc 6 .own [.nil], none, (some 6), false⟩,
           ⟨.storeB (.tmp 6) (.const (.slice none 0 0)) none .none, none, none, false⟩])
         (.seq (.ops [⟨.copy 9 (.tmp 0), none, (some 9), false⟩,
            ⟨.copy 10 (.tmp 1), none, (some 10), false⟩,
            ⟨.copy 11 (.tmp 5), none, (some 11), false⟩,
            ⟨.mkfn 12 106 [(.tmp 6)], none, (some 12), false⟩,
            ⟨.call (some 13) 105 sg105 [(.tmp 9), (.tmp 10), (.tmp 11), (.tmp 12)] [.none, .none, .none, .none], none, (some 13), false⟩,
            ⟨.un 14 .not (.tmp 13), none, (some 14), false⟩])
          (.cond (.tmp 14)
           (.seq (.ops [⟨.loadB 15 (.tmp 6) none false, none, (some 15), false⟩,
              ⟨.copy 4 (.tmp 15), none, (some 4), false⟩])
            (.ret [(.tmp 4)] [(.box 6 0)]))
           (.skip)))))
       (.ops [⟨.copy 7 (.tmp 5), none, (some 7), false⟩,
         ⟨.bin 8 .add (.tmp 7) (.const (.int .i64 1)), none, (some 8), false⟩,
         ⟨.copy 5 (.tmp 8), none, (some 5), false⟩])))))
theorem k98 (r105 : Rel) : compileFn (E98 r105) Try.f98 sg98 hs98 = some c98 := by kernel_rfl
/- loop.example/g01334/impl.FewestBoxes -/
noncomputable def l82 (r97 r98 r84 : Rel) : Deps := [(97, sg97, r97), (98, sg98, r98), (84, sg84, r84)]
noncomputable def E82 (r97 r98 r84 : Rel) : Env := mkE Try.prog [0, 1, 2, 3] [] (l82 r97 r98 r84) []
noncomputable def hs82 : HS := []
noncomputable def c82 : Cmd :=
  .seq (.ops [⟨.copy 4 (.const (.int .i64 0)), none, (some 4), false⟩,
     ⟨.copy 5 (.const (.bool false)), none, (some 5), false⟩])
   (.seq (.seq (.ops [⟨.copy 6 (.tmp 0), none, (some 6), false⟩,
       ⟨.copy 7 (.tmp 1), none, (some 7), false⟩,
       ⟨.call (some 8) 97 sg97 [(.tmp 6), (.tmp 7)] [.none, .none], none, (some 8), false⟩,
       ⟨.un 9 .not (.tmp 8), none, (some 9), false⟩])
     (.cond (.tmp 9)
      (.seq (.ops [⟨.copy 4 (.const (.int .i64 0)), none, (some 4), false⟩,
         ⟨.copy 5 (.const (.bool false)), none, (some 5), false⟩])
       (.ret [(.tmp 4), (.tmp 5)] [.none, .none]))
      (.skip)))
    (.seq (.ops [⟨.copy 10 (.tmp 0), none, (some 10), false⟩,
       ⟨.copy 11 (.tmp 1), none, (some 11), false⟩,
       ⟨.call (some 12) 98 sg98 [(.tmp 10), (.tmp 11)] [.none, .none], none, (some 12), false⟩,
       ⟨.call (some 13) 84 sg84 [(.tmp 12)] [.none], none, (some 13), false⟩,
       ⟨.bin 14 .add (.tmp 13) (.const (.int .i64 1)), none, (some 14), false⟩,
       ⟨.copy 4 (.tmp 14), none, (some 4), false⟩,
       ⟨.copy 5 (.const (.bool true)), none, (some 5), false⟩])
     (.ret [(.tmp 4), (.tmp 5)] [.none, .none])))
theorem k82 (r97 r98 r84 : Rel) : compileFn (E82 r97 r98 r84) Try.f82 sg82 hs82 = some c82 := by kernel_rfl
/- loop.example/g01334/impl.ExactFill$1 -/
noncomputable def l100 (r72 r100 : Rel) : Deps := [(72, sg72, r72), (100, sg100, r100)]
noncomputable def E100 (r72 r100 : Rel) : Env := mkE Try.prog [0, 1, 2, 5, 6, 7, 10, 11, 12] [] (l100 r72 r100) [(30, 100, 2)]
noncomputable def hs100 : HS := [[1, 5, 6, 7, 8, 9, 11, 12, 13, 14, 15, 16, 17, 18, 19, 20, 21, 22, 23, 24, 25, 26, 27, 28, 29, 30, 31, 32, 33, 34, 35, 36, 37, 38, 39, 40, 41, 42, 43, 44, 45, 46, 47, 48]]
noncomputable def c100 : Cmd :=
  .seq (.ops [⟨.copy 8 (.const (.slice none 0 0)), none, (some 8), false⟩,
     ⟨.copy 9 (.const (.bool false)), none, (some 9), false⟩])
   (.seq (.seq (.ops [⟨.copy 13 (.tmp 2), none, (some 13), false⟩,
       ⟨.bin 14 .eql (.tmp 13) (.const (.int .i64 0)), none, (some 14), false⟩])
     (.cond (.tmp 14)
      (.seq (.ops [⟨.copy 15 (.tmp 0), none, (some 15), false⟩,
         ⟨.copy 8 (.tmp 15), none, (some 8), false⟩,
         ⟨.copy 9 (.const (.bool true)), none, (some 9), false⟩])
       (.ret [(.tmp 8), (.tmp 9)] [(.slot 0), .none]))
      (.skip)))
    (.seq (.seq (.ops [⟨.copy 16 (.tmp 1), none, (some 16), false⟩,
        ⟨.copy 10 (.tmp 16), none, (some 10), false⟩])
      (.block 0 (.loop [true, false, true, true, true, false, false, false, false, false, true, false, false, false, false, false, false, false, false, false, false, false, false, false, false, false, false, false, false, false, false, false, false, false, false, false, false, false, false, false, false, false, false, false, false, false, false, false, false]
        (.seq (.seq (.ops [⟨.copy 17 (.tmp 10), none, (some 17), false⟩,
            ⟨.loadB 18 (.tmp 3) none false, none, (some 18), false⟩,
            ⟨.len 19 false (.tmp 18), none, (some 19), false⟩,
            ⟨.bin 20 .lss (.tmp 17) (.tmp 19), none, (some 20), false⟩])
          (.cond (.tmp 20)
           (.skip)
           (.exit 0)))
         (.seq (.block 1 (.seq (.seq (.ops [⟨.loadB 23 (.tmp 3) none false, none, (some 23), false⟩,
               ⟨.copy 24 (.tmp 10), none, (some 24), false⟩,
               ⟨.iadd 25 23 3 (.tmp 24), none, (some 25), false⟩,
               ⟨.loadE 26 23 25 none true, none, (some 26), false⟩,
               ⟨.copy 27 (.tmp 2), none, (some 27), false⟩,
               ⟨.bin 28 .gtr (.tmp 26) (.tmp 27), none, (some 28), false⟩])
             (.cond (.tmp 28)
              (.exit 1)
              (.skip)))
            (.seq (.ops [⟨.loadB 30 (.tmp 4) none false, none, (some 30), false⟩,
               ⟨.copy 31 (.tmp 0), none, (some 31), false⟩,
               ⟨.call (some 32) 72 sg72 [(.tmp 31)] [.none], none, (some 32), false⟩,
               ⟨.copy 33 (.tmp 10), none, (some 33), false⟩,
               ⟨.lit 34 3 1 [(.tmp 33)] [.none], none, (some 34), false⟩,
               ⟨.app 35 3 8 true (.tmp 32) (.tmp 34) [(.slot 32), .none], none, (some 35), false⟩,
               ⟨.copy 36 (.tmp 10), none, (some 36), false⟩,
               ⟨.bin 37 .add (.tmp 36) (.const (.int .i64 1)), none, (some 37), false⟩,
               ⟨.copy 38 (.tmp 2), none, (some 38), false⟩,
               ⟨.loadB 39 (.tmp 3) none false, none, (some 39), false⟩,
               ⟨.copy 40 (.tmp 10), none, (some 40), false⟩,
               ⟨.iadd 41 39 3 (.tmp 40), none, (some 41), false⟩,
               ⟨.loadE 42 39 41 none true, none, (some 42), false⟩,
               ⟨.bin 43 .sub (.tmp 38) (.tmp 42), none, (some 43), false⟩,
               ⟨.callv (some 44) (.tmp 30) 100 2 sg100 [(.tmp 35), (.tmp 37), (.tmp 43)] [(.slot 35), .none, .none], none, (some 44), false⟩,
               ⟨.copy 29 (.tmp 44), none, (some 29), false⟩,
               ⟨.ext 45 29 0, none, (some 45), false⟩,
               ⟨.ext 46 29 1, none, (some 46), false⟩,
               ⟨.copy 11 (.tmp 45), none, (some 11), false⟩,
               ⟨.copy 12 (.tmp 46), none, (some 12), false⟩])
             (.seq (.ops [⟨.copy 47 (.tmp 12), none, (some 47), false⟩])
              (.cond (.tmp 47)
               (.seq (.ops [⟨.copy 48 (.tmp 11), none, (some 48), false⟩,
                  ⟨.copy 8 (.tmp 48), none, (some 8), false⟩,
                  ⟨.copy 9 (.const (.bool true)), none, (some 9), false⟩])
                (.ret [(.tmp 8), (.tmp 9)] [.none, .none]))
               (.skip))))))
          (.ops [⟨.copy 21 (.tmp 10), none, (some 21), false⟩,
            ⟨.bin 22 .add (.tmp 21) (.const (.int .i64 1)), none, (some 22), false⟩,
            ⟨.copy 10 (.tmp 22), none, (some 10), false⟩]))))))
     (.seq (.ops [⟨.copy 8 (.const (.slice none 0 0)), none, (some 8), false⟩,
        ⟨.copy 9 (.const (.bool false)), none, (some 9), false⟩])
      (.ret [(.tmp 8), (.tmp 9)] [.none, .none]))))
theorem k100 (r72 r100 : Rel) : compileFn (E100 r72 r100) Try.f100 sg100 hs100 = some c100 := by kernel_rfl
/- loop.example/g01334/impl.ExactFill -/
noncomputable def l83 (r99 r58 r100 : Rel) : Deps := [(99, sg99, r99), (58, sg58, r58), (100, sg100, r100)]
noncomputable def E83 (r99 r58 r100 : Rel) : Env := mkE Try.prog [0, 1, 2, 3, 6] [] (l83 r99 r58 r100) [(16, 100, 2)]
noncomputable def hs83 : HS := []
noncomputable def c83 : Cmd :=
  .seq (.ops [⟨.box 2 .sh (.tmp 0) .none, none, (some 2), false⟩,
     ⟨.copy 4 (.const (.slice none 0 0)), none, (some 4), false⟩,
     ⟨.copy 5 (.const (.bool false)), none, (some 5), false⟩])
   (.seq (.seq (.ops [⟨.loadB 7 (.tmp 2) none false, none, (some 7), false⟩,
       ⟨.call (some 8) 99 sg99 [(.tmp 7)] [.none], none, (some 8), false⟩,
       ⟨.un 9 .not (.tmp 8), none, (some 9), false⟩,
       ⟨.copy 10 (.tmp 9), none, (some 10), false⟩,
       ⟨.copy 11 (.tmp 1), (some (10, false)), (some 11), true⟩,
       ⟨.call (some 12) 58 sg58 [(.tmp 11), (.const (.int .i64 1)), (.const (.int .i64 1000))] [.none, .none, .none], (some (10, false)), (some 12), true⟩,
       ⟨.un 13 .not (.tmp 12), (some (10, false)), (some 13), true⟩,
       ⟨.pick 14 (.tmp 10) (.const (.bool true)) (.tmp 13), none, (some 14), false⟩])
     (.cond (.tmp 14)
      (.seq (.ops [⟨.copy 4 (.const (.slice none 0 0)), none, (some 4), false⟩,
         ⟨.copy 5 (.const (.bool false)), none, (some 5), false⟩])
       (.ret [(.tmp 4), (.tmp 5)] [.none, .none]))
      (.skip)))
    (.seq (.ops [⟨.alloc 6 .fn [.nilf], none, (some 6), false⟩])
     (.seq (.ops [⟨.mkfn 15 100 [(.tmp 2), (.tmp 6)], none, (some 15), false⟩,
        ⟨.storeB (.tmp 6) (.tmp 15) none .none, none, none, false⟩])
      (.seq (.ops [⟨.loadB 16 (.tmp 6) none false, none, (some 16), false⟩,
         ⟨.copy 17 (.tmp 1), none, (some 17), false⟩,
         ⟨.callv (some 18) (.tmp 16) 100 2 sg100 [(.const (.slice none 0 0)), (.const (.int .i64 0)), (.tmp 17)] [.none, .none, .none], none, (some 18), false⟩,
         ⟨.ext 19 18 0, none, (some 19), false⟩,
         ⟨.ext 20 18 1, none, (some 20), false⟩,
         ⟨.copy 4 (.tmp 19), none, (some 4), false⟩,
         ⟨.copy 5 (.tmp 20), none, (some 5), false⟩])
       (.ret [(.tmp 4), (.tmp 5)] [.none, .none])))))
theorem k83 (r99 r58 r100 : Rel) : compileFn (E83 r99 r58 r100) Try.f83 sg83 hs83 = some c83 := by kernel_rfl
/- loop.example/g01334/impl.told -/
noncomputable def l60 (r80 r81 r82 r83 r84 : Rel) : Deps := [(80, sg80, r80), (81, sg81, r81), (82, sg82, r82), (83, sg83, r83), (84, sg84, r84)]
noncomputable def E60 (r80 r81 r82 r83 r84 : Rel) : Env := mkE Try.prog [0, 1, 2, 3, 4, 5, 6, 7, 9, 10, 11, 12] [] (l60 r80 r81 r82 r83 r84) []
noncomputable def hs60 : HS := []
noncomputable def c60 : Cmd :=
  .seq (.ops [⟨.copy 8 (.const (.int .i64 0)), none, (some 8), false⟩])
   (.seq (.seq (.ops [⟨.copy 13 (.tmp 0), none, (some 13), false⟩])
     (.block 0 (.seq (.ops [⟨.bin 15 .eql (.tmp 13) (.const (.int .i64 0)), none, (some 15), false⟩,
         ⟨.copy 14 (.tmp 15), none, (some 14), false⟩])
       (.cond (.tmp 14)
        (.seq (.ops [⟨.copy 16 (.tmp 3), none, (some 16), false⟩,
           ⟨.call (some 17) 80 sg80 [(.tmp 16)] [.none], none, (some 17), false⟩,
           ⟨.copy 8 (.tmp 17), none, (some 8), false⟩])
         (.ret [(.tmp 8)] [.none]))
        (.seq (.ops [⟨.bin 19 .eql (.tmp 13) (.const (.int .i64 1)), none, (some 19), false⟩,
           ⟨.copy 18 (.tmp 19), none, (some 18), false⟩])
         (.cond (.tmp 18)
          (.seq (.ops [⟨.copy 20 (.tmp 3), none, (some 20), false⟩,
             ⟨.copy 21 (.tmp 1), none, (some 21), false⟩,
             ⟨.iadd 22 20 3 (.tmp 21), none, (some 22), false⟩,
             ⟨.loadE 23 20 22 none true, none, (some 23), false⟩,
             ⟨.copy 24 (.tmp 3), none, (some 24), false⟩,
             ⟨.copy 25 (.tmp 2), none, (some 25), false⟩,
             ⟨.iadd 26 24 3 (.tmp 25), none, (some 26), false⟩,
             ⟨.loadE 27 24 26 none true, none, (some 27), false⟩,
             ⟨.bin 28 .gtr (.tmp 23) (.tmp 27), none, (some 28), false⟩,
             ⟨.call (some 29) 81 sg81 [(.tmp 28)] [.none], none, (some 29), false⟩,
             ⟨.copy 8 (.tmp 29), none, (some 8), false⟩])
           (.ret [(.tmp 8)] [.none]))
          (.seq (.ops [⟨.bin 31 .eql (.tmp 13) (.const (.int .i64 2)), none, (some 31), false⟩,
             ⟨.copy 30 (.tmp 31), none, (some 30), false⟩])
           (.cond (.tmp 30)
            (.seq (.ops [⟨.copy 33 (.tmp 3), none, (some 33), false⟩,
               ⟨.copy 34 (.tmp 1), none, (some 34), false⟩,
               ⟨.call (some 35) 82 sg82 [(.tmp 33), (.tmp 34)] [.none, .none], none, (some 35), false⟩,
               ⟨.copy 32 (.tmp 35), none, (some 32), false⟩,
               ⟨.ext 36 32 0, none, (some 36), false⟩,
               ⟨.ext 37 32 1, none, (some 37), false⟩,
               ⟨.copy 9 (.tmp 36), none, (some 9), false⟩,
               ⟨.copy 10 (.tmp 37), none, (some 10), false⟩])
             (.seq (.ops [⟨.copy 38 (.tmp 9), none, (some 38), false⟩,
                ⟨.copy 8 (.tmp 38), none, (some 8), false⟩])
              (.ret [(.tmp 8)] [.none])))
            (.seq (.ops [⟨.bin 40 .eql (.tmp 13) (.const (.int .i64 3)), none, (some 40), false⟩,
               ⟨.copy 39 (.tmp 40), none, (some 39), false⟩])
             (.cond (.tmp 39)
              (.seq (.ops [⟨.copy 42 (.tmp 3), none, (some 42), false⟩,
                 ⟨.copy 43 (.tmp 1), none, (some 43), false⟩,
                 ⟨.call (some 44) 83 sg83 [(.tmp 42), (.tmp 43)] [.none, .none], none, (some 44), false⟩,
                 ⟨.copy 41 (.tmp 44), none, (some 41), false⟩,
                 ⟨.ext 45 41 0, none, (some 45), false⟩,
                 ⟨.ext 46 41 1, none, (some 46), false⟩,
                 ⟨.copy 11 (.tmp 45), none, (some 11), false⟩,
                 ⟨.copy 12 (.tmp 46), none, (some 12), false⟩])
               (.seq (.ops [⟨.copy 47 (.tmp 12), none, (some 47), false⟩,
                  ⟨.call (some 48) 81 sg81 [(.tmp 47)] [.none], none, (some 48), false⟩,
                  ⟨.copy 8 (.tmp 48), none, (some 8), false⟩])
                (.ret [(.tmp 8)] [.none])))
              (.seq (.ops [⟨.bin 50 .eql (.tmp 13) (.const (.int .i64 4)), none, (some 50), false⟩,
                 ⟨.copy 49 (.tmp 50), none, (some 49), false⟩])
               (.cond (.tmp 49)
                (.seq (.ops [⟨.copy 51 (.tmp 3), none, (some 51), false⟩,
                   ⟨.copy 52 (.tmp 1), none, (some 52), false⟩,
                   ⟨.iadd 53 51 3 (.tmp 52), none, (some 53), false⟩,
                   ⟨.loadE 54 51 53 none true, none, (some 54), false⟩,
                   ⟨.copy 55 (.tmp 3), none, (some 55), false⟩,
                   ⟨.copy 56 (.tmp 2), none, (some 56), false⟩,
                   ⟨.iadd 57 55 3 (.tmp 56), none, (some 57), false⟩,
                   ⟨.loadE 58 55 57 none true, none, (some 58), false⟩,
                   ⟨.bin 59 .mul (.tmp 54) (.tmp 58), none, (some 59), false⟩,
                   ⟨.copy 8 (.tmp 59), none, (some 8), false⟩])
                 (.ret [(.tmp 8)] [.none]))
                (.skip)))))))))))))
    (.seq (.ops [⟨.copy 60 (.tmp 3), none, (some 60), false⟩,
       ⟨.call (some 61) 84 sg84 [(.tmp 60)] [.none], none, (some 61), false⟩,
       ⟨.copy 8 (.tmp 61), none, (some 8), false⟩])
     (.ret [(.tmp 8)] [.none])))
theorem k60 (r80 r81 r82 r83 r84 : Rel) : compileFn (E60 r80 r81 r82 r83 r84) Try.f60 sg60 hs60 = some c60 := by kernel_rfl
/- (loop.example/g01334/impl.Clue).fits -/
noncomputable def l54 (r60 : Rel) : Deps := [(60, sg60, r60)]
noncomputable def E54 (r60 : Rel) : Env := mkE Try.prog [0, 1, 2, 3] [] (l54 r60) []
noncomputable def hs54 : HS := []
noncomputable def c54 : Cmd :=
  .seq (.ops [⟨.box 2 .own (.tmp 0) .none, none, (some 2), false⟩,
     ⟨.copy 4 (.const (.bool false)), none, (some 4), false⟩])
   (.seq (.ops [⟨.fadd 5 (.tmp 2) 0, none, (some 5), false⟩,
      ⟨.loadB 6 (.tmp 5) none true, none, (some 6), false⟩,
      ⟨.fadd 7 (.tmp 2) 1, none, (some 7), false⟩,
      ⟨.loadB 8 (.tmp 7) none true, none, (some 8), false⟩,
      ⟨.fadd 9 (.tmp 2) 2, none, (some 9), false⟩,
      ⟨.loadB 10 (.tmp 9) none true, none, (some 10), false⟩,
      ⟨.copy 11 (.tmp 1), none, (some 11), false⟩,
      ⟨.call (some 12) 60 sg60 [(.tmp 6), (.tmp 8), (.tmp 10), (.tmp 11)] [.none, .none, .none, .none], none, (some 12), false⟩,
      ⟨.fadd 13 (.tmp 2) 3, none, (some 13), false⟩,
      ⟨.loadB 14 (.tmp 13) none true, none, (some 14), false⟩,
      ⟨.bin 15 .eql (.tmp 12) (.tmp 14), none, (some 15), false⟩,
      ⟨.copy 4 (.tmp 15), none, (some 4), false⟩])
    (.ret [(.tmp 4)] [.none]))
theorem k54 (r60 : Rel) : compileFn (E54 r60) Try.f54 sg54 hs54 = some c54 := by kernel_rfl
/- loop.example/g01334/impl.DoesFit -/
noncomputable def l17 (r52 r53 r54 : Rel) : Deps := [(52, sg52, r52), (53, sg53, r53), (54, sg54, r54)]
noncomputable def E17 (r52 r53 r54 : Rel) : Env := mkE Try.prog [0, 1, 2, 3] [] (l17 r52 r53 r54) []
noncomputable def hs17 : HS := []
noncomputable def c17 : Cmd :=
  .seq (.ops [⟨.box 2 .own (.tmp 0) .none, none, (some 2), false⟩,
     ⟨.copy 4 (.const (.bool false)), none, (some 4), false⟩,
     ⟨.copy 5 (.const (.bool false)), none, (some 5), false⟩])
   (.seq (.seq (.ops [⟨.copy 6 (.tmp 1), none, (some 6), false⟩,
       ⟨.call (some 7) 52 sg52 [(.tmp 6)] [.none], none, (some 7), false⟩,
       ⟨.un 8 .not (.tmp 7), none, (some 8), false⟩,
       ⟨.copy 9 (.tmp 8), none, (some 9), false⟩,
       ⟨.copy 10 (.tmp 1), (some (9, false)), (some 10), false⟩,
       ⟨.len 11 false (.tmp 10), (some (9, false)), (some 11), true⟩,
       ⟨.loadB 12 (.tmp 2) (some 4) true, (some (9, false)), (some 12), true⟩,
       ⟨.call (some 13) 53 sg53 [(.tmp 11), (.tmp 12)] [.none, .none], (some (9, false)), (some 13), true⟩,
       ⟨.un 14 .not (.tmp 13), (some (9, false)), (some 14), true⟩,
       ⟨.pick 15 (.tmp 9) (.const (.bool true)) (.tmp 14), none, (some 15), false⟩])
     (.cond (.tmp 15)
      (.seq (.ops [⟨.copy 4 (.const (.bool false)), none, (some 4), false⟩,
         ⟨.copy 5 (.const (.bool false)), none, (some 5), false⟩])
       (.ret [(.tmp 4), (.tmp 5)] [.none, .none]))
      (.skip)))
    (.seq (.ops [⟨.loadB 16 (.tmp 2) (some 4) true, none, (some 16), false⟩,
       ⟨.copy 17 (.tmp 1), none, (some 17), false⟩,
       ⟨.call (some 18) 54 sg54 [(.tmp 16), (.tmp 17)] [.none, .none], none, (some 18), false⟩,
       ⟨.copy 4 (.tmp 18), none, (some 4), false⟩,
       ⟨.copy 5 (.const (.bool true)), none, (some 5), false⟩])
     (.ret [(.tmp 4), (.tmp 5)] [.none, .none])))
theorem k17 (r52 r53 r54 : Rel) : compileFn (E17 r52 r53 r54) Try.f17 sg17 hs17 = some c17 := by kernel_rfl
/- loop.example/g01334/laws.eqIntS -/
noncomputable def l18 : Deps := []
noncomputable def E18 : Env := mkE Try.prog [0, 1, 2, 3, 5] [] (l18) []
noncomputable def hs18 : HS := [[2, 3, 4, 6, 7, 8, 9, 10, 11, 12, 13, 14, 15, 16, 17, 18, 19, 20, 21, 22, 23, 24, 25]]
noncomputable def c18 : Cmd :=
  .seq (.ops [⟨.copy 4 (.const (.bool false)), none, (some 4), false⟩])
   (.seq (.seq (.ops [⟨.copy 6 (.tmp 0), none, (some 6), false⟩,
       ⟨.len 7 false (.tmp 6), none, (some 7), false⟩,
       ⟨.copy 8 (.tmp 1), none, (some 8), false⟩,
       ⟨.len 9 false (.tmp 8), none, (some 9), false⟩,
       ⟨.bin 10 .neq (.tmp 7) (.tmp 9), none, (some 10), false⟩])
     (.cond (.tmp 10)
      (.seq (.ops [⟨.copy 4 (.const (.bool false)), none, (some 4), false⟩])
       (.ret [(.tmp 4)] [.none]))
      (.skip)))
    (.seq (.seq (.ops [⟨.copy 5 (.const (.int .i64 0)), none, (some 5), false⟩])
      (.block 0 (.loop [true, true, false, false, false, true, false, false, false, false, false, false, false, false, false, false, false, false, false, false, false, false, false, false, false, false]
        (.seq (.seq (.ops [⟨.copy 11 (.tmp 5), none, (some 11), false⟩,
            ⟨.copy 12 (.tmp 0), none, (some 12), false⟩,
            ⟨.len 13 false (.tmp 12), none, (some 13), false⟩,
            ⟨.bin 14 .lss (.tmp 11) (.tmp 13), none, (some 14), false⟩])
          (.cond (.tmp 14)
           (.skip)
           (.exit 0)))
         (.seq (.block 1 (.seq (.ops [⟨.copy 17 (.tmp 0), none, (some 17), false⟩,
              ⟨.copy 18 (.tmp 5), none, (some 18), false⟩,
              ⟨.iadd 19 17 3 (.tmp 18), none, (some 19), false⟩,
              ⟨.loadE 20 17 19 none true, none, (some 20), false⟩,
              ⟨.copy 21 (.tmp 1), none, (some 21), false⟩,
              ⟨.copy 22 (.tmp 5), none, (some 22), false⟩,
              ⟨.iadd 23 21 3 (.tmp 22), none, (some 23), false⟩,
              ⟨.loadE 24 21 23 none true, none, (some 24), false⟩,
              ⟨.bin 25 .neq (.tmp 20) (.tmp 24), none, (some 25), false⟩])
            (.cond (.tmp 25)
             (.seq (.ops [⟨.copy 4 (.const (.bool false)), none, (some 4), false⟩])
              (.ret [(.tmp 4)] [.none]))
             (.skip))))
          (.ops [⟨.copy 15 (.tmp 5), none, (some 15), false⟩,
            ⟨.bin 16 .add (.tmp 15) (.const (.int .i64 1)), none, (some 16), false⟩,
            ⟨.copy 5 (.tmp 16), none, (some 5), false⟩]))))))
     (.seq (.ops [⟨.copy 4 (.const (.bool true)), none, (some 4), false⟩])
      (.ret [(.tmp 4)] [.none]))))
theorem k18 : compileFn (E18) Try.f18 sg18 hs18 = some c18 := by kernel_rfl
/- loop.example/g01334/laws.FnExactDoesFit -/
noncomputable def l3 (r15 r16 r14 r17 r18 : Rel) : Deps := [(15, sg15, r15), (16, sg16, r16), (14, sg14, r14), (17, sg17, r17), (18, sg18, r18)]
noncomputable def E3 (r15 r16 r14 r17 r18 : Rel) : Env := mkE Try.prog [0, 1, 2, 3, 5, 6, 7, 8, 9] [] (l3 r15 r16 r14 r17 r18) []
noncomputable def hs3 : HS := []
noncomputable def c3 : Cmd :=
  .seq (.ops [⟨.box 2 .own (.tmp 0) .none, none, (some 2), false⟩,
     ⟨.copy 4 (.const (.bool false)), none, (some 4), false⟩])
   (.seq (.seq (.ops [⟨.copy 10 (.tmp 1), none, (some 10), false⟩,
       ⟨.len 11 false (.tmp 10), none, (some 11), false⟩,
       ⟨.bin 12 .gtr (.tmp 11) (.const (.int .i64 1048576)), none, (some 12), false⟩])
     (.cond (.tmp 12)
      (.seq (.ops [⟨.copy 4 (.const (.bool true)), none, (some 4), false⟩])
       (.ret [(.tmp 4)] [.none]))
      (.skip)))
    (.seq (.ops [⟨.loadB 14 (.tmp 2) (some 4) true, none, (some 14), false⟩,
       ⟨.call (some 15) 15 sg15 [(.tmp 14)] [.none], none, (some 15), false⟩,
       ⟨.copy 16 (.tmp 1), none, (some 16), false⟩,
       ⟨.call (some 17) 16 sg16 [(.tmp 16)] [.none], none, (some 17), false⟩,
       ⟨.call (some 18) 14 sg14 [(.tmp 15), (.tmp 17)] [.none, .none], none, (some 18), false⟩,
       ⟨.copy 13 (.tmp 18), none, (some 13), false⟩,
       ⟨.ext 19 13 0, none, (some 19), false⟩,
       ⟨.ext 20 13 1, none, (some 20), false⟩,
       ⟨.copy 5 (.tmp 19), none, (some 5), false⟩,
       ⟨.copy 6 (.tmp 20), none, (some 6), false⟩])
     (.seq (.ops [⟨.copy 21 (.tmp 1), none, (some 21), false⟩,
        ⟨.call (some 22) 16 sg16 [(.tmp 21)] [.none], none, (some 22), false⟩,
        ⟨.take 7 (.tmp 22) (.slot 22), none, (some 7), false⟩])
      (.seq (.ops [⟨.loadB 24 (.tmp 2) (some 4) true, none, (some 24), false⟩,
         ⟨.call (some 25) 15 sg15 [(.tmp 24)] [.none], none, (some 25), false⟩,
         ⟨.copy 26 (.tmp 7), none, (some 26), false⟩,
         ⟨.call (some 27) 17 sg17 [(.tmp 25), (.tmp 26)] [.none, .none], none, (some 27), false⟩,
         ⟨.copy 23 (.tmp 27), none, (some 23), false⟩,
         ⟨.ext 28 23 0, none, (some 28), false⟩,
         ⟨.ext 29 23 1, none, (some 29), false⟩,
         ⟨.copy 8 (.tmp 28), none, (some 8), false⟩,
         ⟨.copy 9 (.tmp 29), none, (some 9), false⟩])
       (.seq (.seq (.ops [⟨.copy 30 (.tmp 8), none, (some 30), false⟩,
           ⟨.copy 31 (.tmp 5), none, (some 31), false⟩,
           ⟨.beq 32 true (.tmp 30) (.tmp 31), none, (some 32), false⟩,
           ⟨.copy 33 (.tmp 32), none, (some 33), false⟩,
           ⟨.copy 34 (.tmp 9), (some (33, false)), (some 34), true⟩,
           ⟨.copy 35 (.tmp 6), (some (33, false)), (some 35), true⟩,
           ⟨.beq 36 true (.tmp 34) (.tmp 35), (some (33, false)), (some 36), true⟩,
           ⟨.pick 37 (.tmp 33) (.const (.bool true)) (.tmp 36), none, (some 37), false⟩])
         (.cond (.tmp 37)
          (.seq (.ops [⟨.copy 4 (.const (.bool false)), none, (some 4), false⟩])
           (.ret [(.tmp 4)] [.none]))
          (.skip)))
        (.seq (.seq (.ops [⟨.copy 38 (.tmp 7), none, (some 38), false⟩,
            ⟨.copy 39 (.tmp 1), none, (some 39), false⟩,
            ⟨.call (some 40) 16 sg16 [(.tmp 39)] [.none], none, (some 40), false⟩,
            ⟨.call (some 41) 18 sg18 [(.tmp 38), (.tmp 40)] [.none, .none], none, (some 41), false⟩,
            ⟨.un 42 .not (.tmp 41), none, (some 42), false⟩])
          (.cond (.tmp 42)
           (.seq (.ops [⟨.copy 4 (.const (.bool false)), none, (some 4), false⟩])
            (.ret [(.tmp 4)] [.none]))
           (.skip)))
         (.seq (.ops [⟨.copy 4 (.const (.bool true)), none, (some 4), false⟩])
          (.ret [(.tmp 4)] [.none]))))))))
theorem k3 (r15 r16 r14 r17 r18 : Rel) : compileFn (E3 r15 r16 r14 r17 r18) Try.f3 sg3 hs3 = some c3 := by kernel_rfl
end Go.Proofs.Ytfljbfgceilppaa
