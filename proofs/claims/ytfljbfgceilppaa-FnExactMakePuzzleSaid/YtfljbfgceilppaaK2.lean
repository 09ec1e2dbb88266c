/- The functions that the rows of puzzles reach, as commands, each checked by the kernel. Conditions: none. -/
import Derived.Test.YtfljbfgceilppaaK
set_option linter.unusedVariables false
set_option linter.unusedSimpArgs false
set_option linter.unnecessarySimpa false
set_option autoImplicit false
set_option linter.unusedVariables false
set_option linter.unusedSimpArgs false
set_option linter.unnecessarySimpa false
namespace Go.Proofs.Ytfljbfgceilppaa
open Go.Den
abbrev sg4 : Sig := { ps := [.rd, .fl, .fl], rs := [.fl], pure := true }
abbrev sg5 : Sig := { ps := [.rd], rs := [.fl], pure := true }
abbrev sg6 : Sig := { ps := [.rd], rs := [.fl], pure := true }
abbrev sg7 : Sig := { ps := [.rd], rs := [.fl], pure := true }
abbrev sg8 : Sig := { ps := [.rd], rs := [.fl], pure := true }
abbrev sg9 : Sig := { ps := [.rd], rs := [.fl], pure := true }
abbrev sg10 : Sig := { ps := [.rd], rs := [.fl], pure := true }
abbrev sg11 : Sig := { ps := [.rd], rs := [.fl], pure := true }
abbrev sg19 : Sig := { ps := [.rd, .fl, .fl], rs := [.own, .fl], pure := true }
abbrev sg20 : Sig := { ps := [.rd, .fl, .fl], rs := [.own, .fl], pure := true }
abbrev sg21 : Sig := { ps := [.rd, .rd], rs := [.fl], pure := true }
abbrev sg22 : Sig := { ps := [.own, .fl], rs := [.fl], pure := true, mu := true }
abbrev sg23 : Sig := { ps := [.own, .fl], rs := [.fl], pure := true, mu := true }
abbrev sg24 : Sig := { ps := [.rd, .fl], rs := [.fl], pure := true }
abbrev sg25 : Sig := { ps := [.rd, .fl], rs := [.fl], pure := true }
abbrev sg26 : Sig := { ps := [.rd], rs := [.fl, .fl], pure := true }
abbrev sg27 : Sig := { ps := [.rd], rs := [.own], pure := true }
abbrev sg28 : Sig := { ps := [.rd], rs := [.fl, .fl], pure := true }
abbrev sg29 : Sig := { ps := [.rd], rs := [.fl, .fl], pure := true }
abbrev sg30 : Sig := { ps := [.rd], rs := [.fl, .fl], pure := true }
abbrev sg31 : Sig := { ps := [.rd], rs := [.fl, .fl], pure := true }
abbrev sg32 : Sig := { ps := [.rd], rs := [.fl, .fl], pure := true }
abbrev sg33 : Sig := { ps := [.rd], rs := [.own, .fl], pure := true }
abbrev sg34 : Sig := { ps := [.rd], rs := [.own, .fl], pure := true }
abbrev sg35 : Sig := { ps := [.rd, .fl], rs := [.fl], pure := true }
abbrev sg36 : Sig := { ps := [.rd], rs := [.own, .fl], pure := true }
abbrev sg37 : Sig := { ps := [.rd], rs := [.own, .fl], pure := true }
abbrev sg38 : Sig := { ps := [.rd], rs := [.own, .fl], pure := true }
abbrev sg39 : Sig := { ps := [.rd], rs := [.own, .fl], pure := true }
abbrev sg40 : Sig := { ps := [.rd, .rd], rs := [.fl], pure := true }
abbrev sg41 : Sig := { ps := [.own, .fl], rs := [.fl], pure := true, mu := true }
abbrev sg42 : Sig := { ps := [.rd, .fl], rs := [.fl], pure := true }
abbrev sg43 : Sig := { ps := [.rd], rs := [.own, .fl], pure := true }
abbrev sg44 : Sig := { ps := [.rd], rs := [.own, .fl], pure := true }
abbrev sg56 : Sig := { ps := [.fl], rs := [.fl], pure := true }
abbrev sg57 : Sig := { ps := [.fl, .fl, .rd], rs := [.fl], pure := true }
abbrev sg59 : Sig := { ps := [.ptr .own], rs := [.fl], pure := false }
abbrev sg61 : Sig := { ps := [.rd, .rd], rs := [.fl], pure := true }
abbrev sg62 : Sig := { ps := [.own, .fl], rs := [.fl], pure := true, mu := true }
abbrev sg63 : Sig := { ps := [.rd, .fl], rs := [.fl], pure := true }
abbrev sg64 : Sig := { ps := [.rd, .fl], rs := [.fl], pure := true }
abbrev sg65 : Sig := { ps := [.rd], rs := [.fl], pure := true }
abbrev sg66 : Sig := { ps := [.fl, .rd], rs := [.own], pure := true }
abbrev sg67 : Sig := { ps := [.rd], rs := [.own], pure := true }
abbrev sg68 : Sig := { ps := [.fl, .rd], rs := [.fl], pure := true }
abbrev sg69 : Sig := { ps := [.rd], rs := [.fl], pure := true }
abbrev sg70 : Sig := { ps := [.fl, .rd], rs := [.own], pure := true }
abbrev sg85 : Sig := { ps := [.fl, .fl], rs := [.fl], pure := true }
abbrev sg86 : Sig := { ps := [.fl, .rd, .own, .ptr .own], rs := [], pure := false }
abbrev sg87 : Sig := { ps := [.rd, .fn], rs := [.fl], pure := true }
abbrev sg88 : Sig := { ps := [.fl, .ptr .sh], rs := [.fl], pure := true }
abbrev sg89 : Sig := { ps := [.own, .ptr .own, .ptr .fn, .ptr .sh, .ptr .own], rs := [], pure := false }
abbrev sg90 : Sig := { ps := [.fl, .ptr .sh], rs := [.fl], pure := true }
abbrev sg101 : Sig := { ps := [.rd, .fn], rs := [.fl], pure := true }
/- loop.example/g01334/laws.szClueS -/
noncomputable def l64 : Deps := []
noncomputable def E64 : Env := mkE Try.prog [0, 1, 2, 3] [] (l64) []
noncomputable def hs64 : HS := []
noncomputable def c64 : Cmd :=
  .seq (.ops [⟨.copy 4 (.const (.int .i64 0)), none, (some 4), false⟩])
   (.seq (.ops [⟨.copy 5 (.tmp 1), none, (some 5), false⟩,
      ⟨.copy 6 (.tmp 0), none, (some 6), false⟩,
      ⟨.len 7 false (.tmp 6), none, (some 7), false⟩,
      ⟨.bin 8 .sub (.tmp 5) (.tmp 7), none, (some 8), false⟩,
      ⟨.copy 1 (.tmp 8), none, (some 1), false⟩])
    (.seq (.seq (.ops [⟨.copy 9 (.tmp 1), none, (some 9), false⟩,
        ⟨.bin 10 .lss (.tmp 9) (.const (.int .i64 0)), none, (some 10), false⟩])
      (.cond (.tmp 10)
       (.seq (.ops [⟨.copy 4 (.const (.int .i64 (-1))), none, (some 4), false⟩])
        (.ret [(.tmp 4)] [.none]))
       (.skip)))
     (.seq (.ops [⟨.copy 11 (.tmp 1), none, (some 11), false⟩,
        ⟨.copy 4 (.tmp 11), none, (some 4), false⟩])
      (.ret [(.tmp 4)] [.none]))))
theorem k64 : compileFn (E64) Try.f64 sg64 hs64 = some c64 := by kernel_rfl
/- loop.example/g01334/laws.szPuzzle -/
noncomputable def l25 (r64 : Rel) : Deps := [(64, sg64, r64)]
noncomputable def E25 (r64 : Rel) : Env := mkE Try.prog [0, 1, 2, 3] [] (l25 r64) []
noncomputable def hs25 : HS := []
noncomputable def c25 : Cmd :=
  .seq (.ops [⟨.box 2 .sh (.tmp 0) .none, none, (some 2), false⟩,
     ⟨.copy 4 (.const (.int .i64 0)), none, (some 4), false⟩])
   (.seq (.ops [⟨.fadd 5 (.tmp 2) 1, none, (some 5), false⟩,
      ⟨.loadB 6 (.tmp 5) none false, none, (some 6), false⟩,
      ⟨.copy 7 (.tmp 1), none, (some 7), false⟩,
      ⟨.call (some 8) 64 sg64 [(.tmp 6), (.tmp 7)] [.none, .none], none, (some 8), false⟩,
      ⟨.copy 1 (.tmp 8), none, (some 1), false⟩])
    (.seq (.seq (.ops [⟨.copy 9 (.tmp 1), none, (some 9), false⟩,
        ⟨.bin 10 .lss (.tmp 9) (.const (.int .i64 0)), none, (some 10), false⟩])
      (.cond (.tmp 10)
       (.seq (.ops [⟨.copy 4 (.const (.int .i64 (-1))), none, (some 4), false⟩])
        (.ret [(.tmp 4)] [.none]))
       (.skip)))
     (.seq (.ops [⟨.copy 11 (.tmp 1), none, (some 11), false⟩,
        ⟨.copy 4 (.tmp 11), none, (some 4), false⟩])
      (.ret [(.tmp 4)] [.none]))))
theorem k25 (r64 : Rel) : compileFn (E25 r64) Try.f25 sg25 hs25 = some c25 := by kernel_rfl
/- loop.example/g01334/laws.toClueS -/
noncomputable def l67 (r15 : Rel) : Deps := [(15, sg15, r15)]
noncomputable def E67 (r15 : Rel) : Env := mkE Try.prog [0, 1, 3, 4] [] (l67 r15) []
noncomputable def hs67 : HS := [[1, 2, 5, 6, 7, 8, 9, 10, 11, 12, 13, 14, 15, 16, 17, 18, 19, 20, 21, 22]]
noncomputable def c67 : Cmd :=
  .seq (.ops [⟨.copy 2 (.const (.slice none 0 0)), none, (some 2), false⟩])
   (.seq (.ops [⟨.copy 5 (.tmp 0), none, (some 5), false⟩,
      ⟨.len 6 false (.tmp 5), none, (some 6), false⟩,
      ⟨.mks 7 27 32 (.agg [(.int .i64 0), (.int .i64 0), (.int .i64 0), (.int .i64 0)]) (.tmp 6) (.tmp 6), none, (some 7), false⟩,
      ⟨.take 3 (.tmp 7) (.slot 7), none, (some 3), false⟩])
    (.seq (.seq (.ops [⟨.copy 4 (.const (.int .i64 0)), none, (some 4), false⟩])
      (.block 0 (.loop [true, false, false, true, true, false, false, false, false, false, false, false, false, false, false, false, false, false, false, false, false, false, false]
        (.seq (.seq (.ops [⟨.copy 8 (.tmp 4), none, (some 8), false⟩,
            ⟨.copy 9 (.tmp 0), none, (some 9), false⟩,
            ⟨.len 10 false (.tmp 9), none, (some 10), false⟩,
            ⟨.bin 11 .lss (.tmp 8) (.tmp 10), none, (some 11), false⟩])
          (.cond (.tmp 11)
           (.skip)
           (.exit 0)))
         (.seq (.block 1 (.ops [⟨.copy 14 (.tmp 3), none, (some 14), false⟩,
             ⟨.copy 15 (.tmp 4), none, (some 15), false⟩,
             ⟨.copy 16 (.tmp 0), none, (some 16), false⟩,
             ⟨.copy 17 (.tmp 4), none, (some 17), false⟩,
             ⟨.iadd 18 16 23 (.tmp 17), none, (some 18), false⟩,
             ⟨.loadE 19 16 18 (some 4) true, none, (some 19), false⟩,
             ⟨.call (some 20) 15 sg15 [(.tmp 19)] [.none], none, (some 20), false⟩,
             ⟨.iadd 21 14 27 (.tmp 15), none, (some 21), false⟩,
             ⟨.storeE 3 21 (some 4) (.tmp 20), none, none, false⟩]))
          (.ops [⟨.copy 12 (.tmp 4), none, (some 12), false⟩,
            ⟨.bin 13 .add (.tmp 12) (.const (.int .i64 1)), none, (some 13), false⟩,
            ⟨.copy 4 (.tmp 13), none, (some 4), false⟩]))))))
     (.seq (.ops [⟨.copy 22 (.tmp 3), none, (some 22), false⟩,
        ⟨.copy 2 (.tmp 22), none, (some 2), false⟩])
      (.ret [(.tmp 2)] [(.slot 3)]))))
theorem k67 (r15 : Rel) : compileFn (E67 r15) Try.f67 sg67 hs67 = some c67 := by kernel_rfl
/- loop.example/g01334/laws.toPuzzle -/
noncomputable def l27 (r67 : Rel) : Deps := [(67, sg67, r67)]
noncomputable def E27 (r67 : Rel) : Env := mkE Try.prog [0, 1, 3] [] (l27 r67) []
noncomputable def hs27 : HS := []
noncomputable def c27 : Cmd :=
  .seq (.ops [⟨.box 1 .sh (.tmp 0) .none, none, (some 1), false⟩,
     ⟨.alloc 2 .own [(.int .i64 0), .nil], none, (some 2), false⟩])
   (.seq (.ops [⟨.alloc 3 .own [(.int .i64 0), .nil], none, (some 3), false⟩])
    (.seq (.ops [⟨.fadd 4 (.tmp 1) 0, none, (some 4), false⟩,
       ⟨.loadB 5 (.tmp 4) none true, none, (some 5), false⟩,
       ⟨.fadd 6 (.tmp 3) 0, none, (some 6), false⟩,
       ⟨.storeB (.tmp 6) (.tmp 5) none .none, none, none, false⟩])
     (.seq (.ops [⟨.fadd 7 (.tmp 1) 1, none, (some 7), false⟩,
        ⟨.loadB 8 (.tmp 7) none false, none, (some 8), false⟩,
        ⟨.call (some 9) 67 sg67 [(.tmp 8)] [.none], none, (some 9), false⟩,
        ⟨.fadd 10 (.tmp 3) 1, none, (some 10), false⟩,
        ⟨.storeB (.tmp 10) (.tmp 9) none (.slot 9), none, none, false⟩])
      (.seq (.ops [⟨.loadB 11 (.tmp 3) (some 2) false, none, (some 11), false⟩,
         ⟨.storeB (.tmp 2) (.tmp 11) (some 2) (.box 3 2), none, none, false⟩])
       (.ret [(.cell 2 (some 2) false)] [(.box 2 2)])))))
theorem k27 (r67 : Rel) : compileFn (E27 r67) Try.f27 sg27 hs27 = some c27 := by kernel_rfl
/- loop.example/g01334/spec.pzGood -/
noncomputable def l65 (r76 r50 : Rel) : Deps := [(76, sg76, r76), (50, sg50, r50)]
noncomputable def E65 (r76 r50 : Rel) : Env := mkE Try.prog [0, 1, 3, 4] [] (l65 r76 r50) []
noncomputable def hs65 : HS := [[0, 2, 3, 4, 5, 6, 7, 8, 9, 10, 11, 12, 13, 14, 15, 19, 20, 21, 22, 23, 24, 25, 26, 27]]
noncomputable def c65 : Cmd :=
  .seq (.ops [⟨.box 1 .sh (.tmp 0) .none, none, (some 1), false⟩,
     ⟨.copy 2 (.const (.bool false)), none, (some 2), false⟩])
   (.seq (.seq (.ops [⟨.fadd 5 (.tmp 1) 0, none, (some 5), false⟩,
       ⟨.loadB 6 (.tmp 5) none true, none, (some 6), false⟩,
       ⟨.call (some 7) 76 sg76 [(.tmp 6)] [.none], none, (some 7), false⟩,
       ⟨.un 8 .not (.tmp 7), none, (some 8), false⟩,
       ⟨.copy 9 (.tmp 8), none, (some 9), false⟩,
       ⟨.fadd 10 (.tmp 1) 1, (some (9, false)), (some 10), false⟩,
       ⟨.loadB 11 (.tmp 10) none false, (some (9, false)), (some 11), false⟩,
       ⟨.len 12 false (.tmp 11), (some (9, false)), (some 12), true⟩,
       ⟨.bin 13 .gtr (.tmp 12) (.const (.int .i64 6)), (some (9, false)), (some 13), true⟩,
       ⟨.pick 14 (.tmp 9) (.const (.bool true)) (.tmp 13), none, (some 14), false⟩])
     (.cond (.tmp 14)
      (.seq (.ops [⟨.copy 2 (.const (.bool false)), none, (some 2), false⟩])
       (.ret [(.tmp 2)] [.none]))
      (.skip)))
    (.seq (.seq (.ops [⟨.fadd 15 (.tmp 1) 1, none, (some 15), false⟩,
        ⟨.loadB 16 (.tmp 15) none false, none, (some 16), false⟩,
        ⟨.len 17 false (.tmp 16), none, (some 17), false⟩,
        ⟨.copy 18 (.const (.int .i64 0)), none, (some 18), false⟩])
      (.block 0 (.loop [false, true, false, false, false, false, false, false, false, false, false, false, false, false, false, false, true, true, true, false, false, false, false, false, false, false, false, false]
        (.seq (.ops [⟨.bin 19 .lss (.tmp 18) (.tmp 17), none, (some 19), false⟩])
         (.seq (.cond (.tmp 19)
           (.skip)
           (.exit 0))
          (.seq (.block 1 (.seq (.ops [⟨.iadd 20 16 27 (.tmp 18), none, (some 20), false⟩,
               ⟨.loadE 21 16 20 (some 4) true, none, (some 21), false⟩,
               ⟨.alloc 4 .own [(.int .i64 0), (.int .i64 0), (.int .i64 0), (.int .i64 0)], none, (some 4), false⟩,
               ⟨.storeB (.tmp 4) (.tmp 21) (some 4) .none, none, none, false⟩])
             (.seq (.ops [⟨.fadd 22 (.tmp 1) 0, none, (some 22), false⟩,
                ⟨.loadB 23 (.tmp 22) none true, none, (some 23), false⟩,
                ⟨.loadB 24 (.tmp 4) (some 4) true, none, (some 24), false⟩,
                ⟨.call (some 25) 50 sg50 [(.tmp 23), (.tmp 24)] [.none, .none], none, (some 25), false⟩,
                ⟨.un 26 .not (.tmp 25), none, (some 26), false⟩])
              (.cond (.tmp 26)
               (.seq (.ops [⟨.copy 2 (.const (.bool false)), none, (some 2), false⟩])
                (.ret [(.tmp 2)] [.none]))
               (.skip)))))
           (.ops [⟨.bin 27 .add (.tmp 18) (.const (.int .i64 1)), none, (some 27), false⟩,
             ⟨.copy 18 (.tmp 27), none, (some 18), false⟩])))))))
     (.seq (.ops [⟨.copy 2 (.const (.bool true)), none, (some 2), false⟩])
      (.ret [(.tmp 2)] [.none]))))
theorem k65 (r76 r50 : Rel) : compileFn (E65 r76 r50) Try.f65 sg65 hs65 = some c65 := by kernel_rfl
/- loop.example/g01334/spec.pzLook -/
noncomputable def l86 (r71 r86 r51 : Rel) : Deps := [(71, sg71, r71), (86, sg86, r86), (51, sg51, r51)]
noncomputable def E86 (r71 r86 r51 : Rel) : Env := mkE Try.prog [0, 1, 2, 3, 4, 5, 6, 7, 8, 9, 10] [] (l86 r71 r86 r51) []
noncomputable def hs86 : HS := [[4, 5, 6, 7, 9, 10, 11, 12, 13, 14, 15, 16, 17, 18, 19, 20, 21, 22, 23, 24, 25, 26, 27, 28, 29, 30, 31, 32, 33, 34, 35, 36, 37, 38, 39, 40, 41, 42, 43, 44, 45], [0, 1, 4, 5, 6, 7, 8, 9, 10, 11, 12, 13, 14, 15, 16, 17, 18, 19, 20, 21, 22, 23, 24, 25, 26, 30, 31, 32, 33, 34, 35, 36, 37, 38, 39, 40, 41, 42, 43, 44, 45]]
noncomputable def c86 : Cmd :=
  .seq (.seq (.seq (.ops [⟨.copy 11 (.tmp 0), none, (some 11), false⟩,
       ⟨.bin 12 .gtr (.tmp 11) (.const (.int .i64 0)), none, (some 12), false⟩])
     (.cond (.tmp 12)
      (.seq (.seq (.ops [⟨.copy 8 (.const (.int .i64 1)), none, (some 8), false⟩])
        (.block 0 (.loop [true, true, true, true, false, false, false, false, true, false, false, false, false, false, false, false, false, false, false, false, false, false, false, false, false, false, false, false, false, false, false, false, false, false, false, false, false, false, false, false, false, false, false, false, false, false]
          (.seq (.seq (.ops [⟨.copy 13 (.tmp 8), none, (some 13), false⟩,
              ⟨.bin 14 .leq (.tmp 13) (.const (.int .i64 6)), none, (some 14), false⟩])
            (.cond (.tmp 14)
             (.skip)
             (.exit 0)))
           (.seq (.block 1 (.ops [⟨.copy 17 (.tmp 0), none, (some 17), false⟩,
               ⟨.bin 18 .sub (.tmp 17) (.const (.int .i64 1)), none, (some 18), false⟩,
               ⟨.copy 19 (.tmp 1), none, (some 19), false⟩,
               ⟨.copy 20 (.tmp 2), none, (some 20), false⟩,
               ⟨.call (some 21) 71 sg71 [(.tmp 20)] [.none], none, (some 21), false⟩,
               ⟨.copy 22 (.tmp 8), none, (some 22), false⟩,
               ⟨.lit 23 3 1 [(.tmp 22)] [.none], none, (some 23), false⟩,
               ⟨.app 24 3 8 true (.tmp 21) (.tmp 23) [(.slot 21), .none], none, (some 24), false⟩,
               ⟨.copy 25 (.tmp 3), none, (some 25), false⟩,
               ⟨.call (some 26) 86 sg86 [(.tmp 18), (.tmp 19), (.tmp 24), (.tmp 25)] [.none, .none, (.slot 24), .none], none, (some 26), false⟩]))
            (.ops [⟨.copy 15 (.tmp 8), none, (some 15), false⟩,
              ⟨.bin 16 .add (.tmp 15) (.const (.int .i64 1)), none, (some 16), false⟩,
              ⟨.copy 8 (.tmp 16), none, (some 8), false⟩]))))))
       (.ret [] []))
      (.skip)))
    (.seq (.seq (.ops [⟨.copy 27 (.tmp 1), none, (some 27), false⟩,
        ⟨.len 28 false (.tmp 27), none, (some 28), false⟩,
        ⟨.copy 29 (.const (.int .i64 0)), none, (some 29), false⟩])
      (.block 2 (.loop [false, false, true, true, false, false, false, false, false, false, false, false, false, false, false, false, false, false, false, false, false, false, false, false, false, false, false, true, true, true, false, false, false, false, false, false, false, false, false, false, false, false, false, false, false, false]
        (.seq (.ops [⟨.bin 30 .lss (.tmp 29) (.tmp 28), none, (some 30), false⟩])
         (.seq (.cond (.tmp 30)
           (.skip)
           (.exit 2))
          (.seq (.block 3 (.seq (.ops [⟨.iadd 31 27 27 (.tmp 29), none, (some 31), false⟩,
               ⟨.loadE 32 27 31 (some 4) true, none, (some 32), false⟩,
               ⟨.alloc 10 .own [(.int .i64 0), (.int .i64 0), (.int .i64 0), (.int .i64 0)], none, (some 10), false⟩,
               ⟨.storeB (.tmp 10) (.tmp 32) (some 4) .none, none, none, false⟩])
             (.seq (.ops [⟨.loadB 33 (.tmp 10) (some 4) true, none, (some 33), false⟩,
                ⟨.copy 34 (.tmp 2), none, (some 34), false⟩,
                ⟨.call (some 35) 51 sg51 [(.tmp 33), (.tmp 34)] [.none, .none], none, (some 35), false⟩,
                ⟨.un 36 .not (.tmp 35), none, (some 36), false⟩])
              (.cond (.tmp 36)
               (.ret [] [])
               (.skip)))))
           (.ops [⟨.bin 37 .add (.tmp 29) (.const (.int .i64 1)), none, (some 37), false⟩,
             ⟨.copy 29 (.tmp 37), none, (some 29), false⟩])))))))
     (.ops [⟨.copy 38 (.tmp 3), none, (some 38), false⟩,
       ⟨.copy 39 (.tmp 3), none, (some 39), false⟩,
       ⟨.take 40 (.tmp 39) .none, none, (some 40), false⟩,
       ⟨.loadB 41 (.tmp 40) none false, none, (some 41), false⟩,
       ⟨.copy 42 (.tmp 2), none, (some 42), false⟩,
       ⟨.lit 43 24 1 [(.tmp 42)] [(.slot 2)], none, (some 43), false⟩,
       ⟨.app 44 24 24 false (.tmp 41) (.tmp 43) [(.box 40 0), (.slot 43)], none, (some 44), false⟩,
       ⟨.take 45 (.tmp 38) .none, none, (some 45), false⟩,
       ⟨.storeB (.tmp 45) (.tmp 44) none (.slot 44), none, none, false⟩])))
   (.ret [] [])
theorem k86 (r71 r86 r51 : Rel) : compileFn (E86 r71 r86 r51) Try.f86 sg86 hs86 = some c86 := by kernel_rfl
/- loop.example/g01334/spec.pzAll -/
noncomputable def l66 (r86 : Rel) : Deps := [(86, sg86, r86)]
noncomputable def E66 (r86 : Rel) : Env := mkE Try.prog [0, 1, 2, 3, 5] [] (l66 r86) []
noncomputable def hs66 : HS := []
noncomputable def c66 : Cmd :=
  .seq (.ops [⟨.copy 4 (.const (.slice none 0 0)), none, (some 4), false⟩])
   (.seq (.ops [⟨.alloc 5 .own [.nil], none, (some 5), false⟩])
    (.seq (.ops [⟨.copy 6 (.tmp 0), none, (some 6), false⟩,
       ⟨.copy 7 (.tmp 1), none, (some 7), false⟩,
       ⟨.call (some 8) 86 sg86 [(.tmp 6), (.tmp 7), (.const (.slice none 0 0)), (.tmp 5)] [.none, .none, .none, .none], none, (some 8), false⟩])
     (.seq (.ops [⟨.loadB 9 (.tmp 5) none false, none, (some 9), false⟩,
        ⟨.copy 4 (.tmp 9), none, (some 4), false⟩])
      (.ret [(.tmp 4)] [(.box 5 0)]))))
theorem k66 (r86 : Rel) : compileFn (E66 r86) Try.f66 sg66 hs66 = some c66 := by kernel_rfl
/- loop.example/g01334/spec.CountSolutions -/
noncomputable def l26 (r65 r66 : Rel) : Deps := [(65, sg65, r65), (66, sg66, r66)]
noncomputable def E26 (r65 r66 : Rel) : Env := mkE Try.prog [0, 1] [] (l26 r65 r66) []
noncomputable def hs26 : HS := []
noncomputable def c26 : Cmd :=
  .seq (.ops [⟨.box 1 .sh (.tmp 0) .none, none, (some 1), false⟩,
     ⟨.copy 2 (.const (.int .i64 0)), none, (some 2), false⟩,
     ⟨.copy 3 (.const (.bool false)), none, (some 3), false⟩])
   (.seq (.seq (.ops [⟨.loadB 4 (.tmp 1) (some 2) false, none, (some 4), false⟩,
       ⟨.call (some 5) 65 sg65 [(.tmp 4)] [.none], none, (some 5), false⟩,
       ⟨.un 6 .not (.tmp 5), none, (some 6), false⟩])
     (.cond (.tmp 6)
      (.seq (.ops [⟨.copy 2 (.const (.int .i64 0)), none, (some 2), false⟩,
         ⟨.copy 3 (.const (.bool false)), none, (some 3), false⟩])
       (.ret [(.tmp 2), (.tmp 3)] [.none, .none]))
      (.skip)))
    (.seq (.ops [⟨.fadd 7 (.tmp 1) 0, none, (some 7), false⟩,
       ⟨.loadB 8 (.tmp 7) none true, none, (some 8), false⟩,
       ⟨.fadd 9 (.tmp 1) 1, none, (some 9), false⟩,
       ⟨.loadB 10 (.tmp 9) none false, none, (some 10), false⟩,
       ⟨.call (some 11) 66 sg66 [(.tmp 8), (.tmp 10)] [.none, .none], none, (some 11), false⟩,
       ⟨.len 12 false (.tmp 11), none, (some 12), false⟩,
       ⟨.copy 2 (.tmp 12), none, (some 2), false⟩,
       ⟨.copy 3 (.const (.bool true)), none, (some 3), false⟩])
     (.ret [(.tmp 2), (.tmp 3)] [.none, .none])))
theorem k26 (r65 r66 : Rel) : compileFn (E26 r65 r66) Try.f26 sg26 hs26 = some c26 := by kernel_rfl
/- loop.example/g01334/impl.IsPuzzle$1 -/
noncomputable def l88 (r53 : Rel) : Deps := [(53, sg53, r53)]
noncomputable def E88 (r53 : Rel) : Env := mkE Try.prog [0, 2] [] (l88 r53) []
noncomputable def hs88 : HS := []
noncomputable def c88 : Cmd :=
  .seq (.ops [⟨.box 2 .own (.tmp 0) .none, none, (some 2), false⟩,
     ⟨.copy 3 (.const (.bool false)), none, (some 3), false⟩])
   (.seq (.ops [⟨.fadd 4 (.tmp 1) 0, none, (some 4), false⟩,
      ⟨.loadB 5 (.tmp 4) none true, none, (some 5), false⟩,
      ⟨.loadB 6 (.tmp 2) (some 4) true, none, (some 6), false⟩,
      ⟨.call (some 7) 53 sg53 [(.tmp 5), (.tmp 6)] [.none, .none], none, (some 7), false⟩,
      ⟨.un 8 .not (.tmp 7), none, (some 8), false⟩,
      ⟨.copy 3 (.tmp 8), none, (some 3), false⟩])
    (.ret [(.tmp 3)] [.none]))
theorem k88 (r53 : Rel) : compileFn (E88 r53) Try.f88 sg88 hs88 = some c88 := by kernel_rfl
/- slices.IndexFunc[[]loop.example/g01334/impl.Clue,loop.example/g01334/impl.Clue] -/
noncomputable def l101a (r88 : Rel) : Deps := [(88, sg88, r88)]
noncomputable def E101a (r88 : Rel) : Env := mkE Try.prog [0, 1, 2, 3, 5] [] (l101a r88) [(11, 88, 1)]
noncomputable def hs101a : HS := [[2, 3, 4, 5, 6, 9, 10, 11, 12, 13, 14, 15, 16, 17, 18]]
noncomputable def c101a : Cmd :=
  .seq (.ops [⟨.copy 4 (.const (.int .i64 0)), none, (some 4), false⟩])
   (.seq (.seq (.ops [⟨.copy 6 (.tmp 0), none, (some 6), false⟩,
       ⟨.len 7 false (.tmp 6), none, (some 7), false⟩,
       ⟨.copy 8 (.const (.int .i64 0)), none, (some 8), false⟩])
     (.block 0 (.loop [true, true, false, false, false, false, false, true, true, false, false, false, false, false, false, false, false, false, false]
       (.seq (.ops [⟨.bin 9 .lss (.tmp 8) (.tmp 7), none, (some 9), false⟩])
        (.seq (.cond (.tmp 9)
          (.skip)
          (.exit 0))
         (.seq (.block 1 (.seq (.ops [⟨.copy 10 (.tmp 8), none, (some 10), false⟩,
              ⟨.copy 5 (.tmp 10), none, (some 5), false⟩])
            (.seq (.ops [⟨.copy 11 (.tmp 1), none, (some 11), false⟩,
               ⟨.copy 12 (.tmp 0), none, (some 12), false⟩,
               ⟨.copy 13 (.tmp 5), none, (some 13), false⟩,
               ⟨.iadd 14 12 27 (.tmp 13), none, (some 14), false⟩,
               ⟨.loadE 15 12 14 (some 4) true, none, (some 15), false⟩,
               ⟨.callv (some 16) (.tmp 11) 88 1 sg88 [(.tmp 15)] [.none], none, (some 16), false⟩])
             (.cond (.tmp 16)
              (.seq (.ops [⟨.copy 17 (.tmp 5), none, (some 17), false⟩,
                 ⟨.copy 4 (.tmp 17), none, (some 4), false⟩])
               (.ret [(.tmp 4)] [.none]))
              (.skip)))))
          (.ops [⟨.bin 18 .add (.tmp 8) (.const (.int .i64 1)), none, (some 18), false⟩,
            ⟨.copy 8 (.tmp 18), none, (some 8), false⟩])))))))
    (.seq (.ops [⟨.copy 4 (.const (.int .i64 (-1))), none, (some 4), false⟩])
     (.ret [(.tmp 4)] [.none])))
theorem k101a (r88 : Rel) : compileFn (E101a r88) Try.f101 sg101 hs101a = some c101a := by kernel_rfl
/- slices.ContainsFunc[[]loop.example/g01334/impl.Clue,loop.example/g01334/impl.Clue] -/
noncomputable def l87a (r101 : Rel) : Deps := [(101, sg101, r101)]
noncomputable def E87a (r101 : Rel) : Env := mkE Try.prog [0, 1, 2, 3] [] (l87a r101) []
noncomputable def hs87a : HS := []
noncomputable def c87a : Cmd :=
  .seq (.ops [⟨.copy 4 (.const (.bool false)), none, (some 4), false⟩])
   (.seq (.ops [⟨.copy 5 (.tmp 0), none, (some 5), false⟩,
      ⟨.copy 6 (.tmp 1), none, (some 6), false⟩,
      ⟨.call (some 7) 101 sg101 [(.tmp 5), (.tmp 6)] [.none, .none], none, (some 7), false⟩,
      ⟨.bin 8 .geq (.tmp 7) (.const (.int .i64 0)), none, (some 8), false⟩,
      ⟨.copy 4 (.tmp 8), none, (some 4), false⟩])
    (.ret [(.tmp 4)] [.none]))
theorem k87a (r101 : Rel) : compileFn (E87a r101) Try.f87 sg87 hs87a = some c87a := by kernel_rfl
/- loop.example/g01334/impl.IsPuzzle -/
noncomputable def l69 (r58 r87 : Rel) : Deps := [(58, sg58, r58), (87, sg87, r87)]
noncomputable def E69 (r58 r87 : Rel) : Env := mkE Try.prog [0, 1] [] (l69 r58 r87) []
noncomputable def hs69 : HS := []
noncomputable def c69 : Cmd :=
  .seq (.ops [⟨.box 1 .sh (.tmp 0) .none, none, (some 1), false⟩,
     ⟨.copy 2 (.const (.bool false)), none, (some 2), false⟩])
   (.seq (.ops [⟨.fadd 3 (.tmp 1) 0, none, (some 3), false⟩,
      ⟨.loadB 4 (.tmp 3) none true, none, (some 4), false⟩,
      ⟨.call (some 5) 58 sg58 [(.tmp 4), (.const (.int .i64 2)), (.const (.int .i64 4))] [.none, .none, .none], none, (some 5), false⟩,
      ⟨.copy 6 (.tmp 5), none, (some 6), false⟩,
      ⟨.fadd 7 (.tmp 1) 1, (some (6, true)), (some 7), false⟩,
      ⟨.loadB 8 (.tmp 7) none false, (some (6, true)), (some 8), false⟩,
      ⟨.len 9 false (.tmp 8), (some (6, true)), (some 9), true⟩,
      ⟨.bin 10 .leq (.tmp 9) (.const (.int .i64 6)), (some (6, true)), (some 10), true⟩,
      ⟨.pick 11 (.tmp 6) (.tmp 10) (.const (.bool false)), none, (some 11), false⟩,
      ⟨.copy 12 (.tmp 11), none, (some 12), false⟩,
      ⟨.fadd 13 (.tmp 1) 1, (some (12, true)), (some 13), false⟩,
      ⟨.loadB 14 (.tmp 13) none false, (some (12, true)), (some 14), false⟩,
      ⟨.mkfn 15 88 [(.tmp 1)], (some (12, true)), (some 15), false⟩,
      ⟨.call (some 16) 87 sg87 [(.tmp 14), (.tmp 15)] [.none, .none], (some (12, true)), (some 16), true⟩,
      ⟨.un 17 .not (.tmp 16), (some (12, true)), (some 17), true⟩,
      ⟨.pick 18 (.tmp 12) (.tmp 17) (.const (.bool false)), none, (some 18), false⟩,
      ⟨.copy 2 (.tmp 18), none, (some 2), false⟩])
    (.ret [(.tmp 2)] [.none]))
theorem k69 (r58 r87 : Rel) : compileFn (E69 r58 r87) Try.f69 sg69 hs69 = some c69 := by kernel_rfl
/- loop.example/g01334/impl.solutions$1$1 -/
noncomputable def l90 (r54 : Rel) : Deps := [(54, sg54, r54)]
noncomputable def E90 (r54 : Rel) : Env := mkE Try.prog [0, 2] [] (l90 r54) []
noncomputable def hs90 : HS := []
noncomputable def c90 : Cmd :=
  .seq (.ops [⟨.box 2 .own (.tmp 0) .none, none, (some 2), false⟩,
     ⟨.copy 3 (.const (.bool false)), none, (some 3), false⟩])
   (.seq (.ops [⟨.loadB 4 (.tmp 2) (some 4) true, none, (some 4), false⟩,
      ⟨.loadB 5 (.tmp 1) none false, none, (some 5), false⟩,
      ⟨.call (some 6) 54 sg54 [(.tmp 4), (.tmp 5)] [.none, .none], none, (some 6), false⟩,
      ⟨.un 7 .not (.tmp 6), none, (some 7), false⟩,
      ⟨.copy 3 (.tmp 7), none, (some 3), false⟩])
    (.ret [(.tmp 3)] [.none]))
theorem k90 (r54 : Rel) : compileFn (E90 r54) Try.f90 sg90 hs90 = some c90 := by kernel_rfl
/- slices.IndexFunc[[]loop.example/g01334/impl.Clue,loop.example/g01334/impl.Clue] -/
noncomputable def l101b (r90 : Rel) : Deps := [(90, sg90, r90)]
noncomputable def E101b (r90 : Rel) : Env := mkE Try.prog [0, 1, 2, 3, 5] [] (l101b r90) [(11, 90, 1)]
noncomputable def hs101b : HS := [[2, 3, 4, 5, 6, 9, 10, 11, 12, 13, 14, 15, 16, 17, 18]]
noncomputable def c101b : Cmd :=
  .seq (.ops [⟨.copy 4 (.const (.int .i64 0)), none, (some 4), false⟩])
   (.seq (.seq (.ops [⟨.copy 6 (.tmp 0), none, (some 6), false⟩,
       ⟨.len 7 false (.tmp 6), none, (some 7), false⟩,
       ⟨.copy 8 (.const (.int .i64 0)), none, (some 8), false⟩])
     (.block 0 (.loop [true, true, false, false, false, false, false, true, true, false, false, false, false, false, false, false, false, false, false]
       (.seq (.ops [⟨.bin 9 .lss (.tmp 8) (.tmp 7), none, (some 9), false⟩])
        (.seq (.cond (.tmp 9)
          (.skip)
          (.exit 0))
         (.seq (.block 1 (.seq (.ops [⟨.copy 10 (.tmp 8), none, (some 10), false⟩,
              ⟨.copy 5 (.tmp 10), none, (some 5), false⟩])
            (.seq (.ops [⟨.copy 11 (.tmp 1), none, (some 11), false⟩,
               ⟨.copy 12 (.tmp 0), none, (some 12), false⟩,
               ⟨.copy 13 (.tmp 5), none, (some 13), false⟩,
               ⟨.iadd 14 12 27 (.tmp 13), none, (some 14), false⟩,
               ⟨.loadE 15 12 14 (some 4) true, none, (some 15), false⟩,
               ⟨.callv (some 16) (.tmp 11) 90 1 sg90 [(.tmp 15)] [.none], none, (some 16), false⟩])
             (.cond (.tmp 16)
              (.seq (.ops [⟨.copy 17 (.tmp 5), none, (some 17), false⟩,
                 ⟨.copy 4 (.tmp 17), none, (some 4), false⟩])
               (.ret [(.tmp 4)] [.none]))
              (.skip)))))
          (.ops [⟨.bin 18 .add (.tmp 8) (.const (.int .i64 1)), none, (some 18), false⟩,
            ⟨.copy 8 (.tmp 18), none, (some 8), false⟩])))))))
    (.seq (.ops [⟨.copy 4 (.const (.int .i64 (-1))), none, (some 4), false⟩])
     (.ret [(.tmp 4)] [.none])))
theorem k101b (r90 : Rel) : compileFn (E101b r90) Try.f101 sg101 hs101b = some c101b := by kernel_rfl
/- slices.ContainsFunc[[]loop.example/g01334/impl.Clue,loop.example/g01334/impl.Clue] -/
noncomputable def l87b (r101 : Rel) : Deps := [(101, sg101, r101)]
noncomputable def E87b (r101 : Rel) : Env := mkE Try.prog [0, 1, 2, 3] [] (l87b r101) []
noncomputable def hs87b : HS := []
noncomputable def c87b : Cmd :=
  .seq (.ops [⟨.copy 4 (.const (.bool false)), none, (some 4), false⟩])
   (.seq (.ops [⟨.copy 5 (.tmp 0), none, (some 5), false⟩,
      ⟨.copy 6 (.tmp 1), none, (some 6), false⟩,
      ⟨.call (some 7) 101 sg101 [(.tmp 5), (.tmp 6)] [.none, .none], none, (some 7), false⟩,
      ⟨.bin 8 .geq (.tmp 7) (.const (.int .i64 0)), none, (some 8), false⟩,
      ⟨.copy 4 (.tmp 8), none, (some 4), false⟩])
    (.ret [(.tmp 4)] [.none]))
theorem k87b (r101 : Rel) : compileFn (E87b r101) Try.f87 sg87 hs87b = some c87b := by kernel_rfl
/- loop.example/g01334/impl.solutions$1 -/
noncomputable def l89 (r72 r87 r89 : Rel) : Deps := [(72, sg72, r72), (87, sg87, r87), (89, sg89, r89)]
noncomputable def E89 (r72 r87 r89 : Rel) : Env := mkE Try.prog [0, 5, 6] [] (l89 r72 r87 r89) [(15, 89, 4)]
noncomputable def hs89 : HS := [[0, 1, 3, 4, 7, 8, 9, 10, 11, 12, 13, 14, 15, 16, 17, 18, 19, 20, 21, 22, 23, 24, 25, 26, 27, 28, 29]]
noncomputable def c89 : Cmd :=
  .seq (.seq (.ops [⟨.box 5 .own (.tmp 0) (.slot 0), none, (some 5), false⟩])
    (.seq (.ops [⟨.loadB 7 (.tmp 5) none false, none, (some 7), false⟩,
       ⟨.len 8 false (.tmp 7), none, (some 8), false⟩,
       ⟨.loadB 9 (.tmp 1) none true, none, (some 9), false⟩,
       ⟨.bin 10 .lss (.tmp 8) (.tmp 9), none, (some 10), false⟩])
     (.cond (.tmp 10)
      (.seq (.ops [⟨.copy 6 (.const (.int .i64 1)), none, (some 6), false⟩])
       (.block 0 (.loop [false, false, true, false, false, true, true, false, false, false, false, false, false, false, false, false, false, false, false, false, false, false, false, false, false, false, false, false, false, false]
         (.seq (.seq (.ops [⟨.copy 11 (.tmp 6), none, (some 11), false⟩,
             ⟨.bin 12 .leq (.tmp 11) (.const (.int .i64 6)), none, (some 12), false⟩])
           (.cond (.tmp 12)
            (.skip)
            (.exit 0)))
          (.seq (.block 1 (.ops [⟨.loadB 15 (.tmp 2) none false, none, (some 15), false⟩,
              ⟨.loadB 16 (.tmp 5) none false, none, (some 16), false⟩,
              ⟨.call (some 17) 72 sg72 [(.tmp 16)] [.none], none, (some 17), false⟩,
              ⟨.copy 18 (.tmp 6), none, (some 18), false⟩,
              ⟨.lit 19 3 1 [(.tmp 18)] [.none], none, (some 19), false⟩,
              ⟨.app 20 3 8 true (.tmp 17) (.tmp 19) [(.slot 17), .none], none, (some 20), false⟩,
              ⟨.callv (some 21) (.tmp 15) 89 4 sg89 [(.tmp 20)] [(.slot 20)], none, (some 21), false⟩]))
           (.ops [⟨.copy 13 (.tmp 6), none, (some 13), false⟩,
             ⟨.bin 14 .add (.tmp 13) (.const (.int .i64 1)), none, (some 14), false⟩,
             ⟨.copy 6 (.tmp 14), none, (some 6), false⟩]))))))
      (.seq (.ops [⟨.loadB 22 (.tmp 3) none false, none, (some 22), false⟩,
         ⟨.mkfn 23 90 [(.tmp 5)], none, (some 23), false⟩,
         ⟨.call (some 24) 87 sg87 [(.tmp 22), (.tmp 23)] [.none, .none], none, (some 24), false⟩,
         ⟨.un 25 .not (.tmp 24), none, (some 25), false⟩])
       (.cond (.tmp 25)
        (.ops [⟨.loadB 26 (.tmp 4) none false, none, (some 26), false⟩,
          ⟨.loadB 27 (.tmp 5) none false, none, (some 27), false⟩,
          ⟨.lit 28 24 1 [(.tmp 27)] [(.box 5 0)], none, (some 28), false⟩,
          ⟨.app 29 24 24 false (.tmp 26) (.tmp 28) [(.box 4 0), (.slot 28)], none, (some 29), false⟩,
          ⟨.storeB (.tmp 4) (.tmp 29) none (.slot 29), none, none, false⟩])
        (.skip))))))
   (.ret [] [])
theorem k89 (r72 r87 r89 : Rel) : compileFn (E89 r72 r87 r89) Try.f89 sg89 hs89 = some c89 := by kernel_rfl
/- loop.example/g01334/impl.solutions -/
noncomputable def l70 (r89 : Rel) : Deps := [(89, sg89, r89)]
noncomputable def E70 (r89 : Rel) : Env := mkE Try.prog [0, 1, 2, 3, 5, 6] [] (l70 r89) [(9, 89, 4)]
noncomputable def hs70 : HS := []
noncomputable def c70 : Cmd :=
  .seq (.ops [⟨.box 2 .own (.tmp 0) .none, none, (some 2), false⟩,
     ⟨.box 3 .sh (.tmp 1) .none, none, (some 3), false⟩,
     ⟨.copy 4 (.const (.slice none 0 0)), none, (some 4), false⟩])
   (.seq (.ops [⟨.lit 7 24 1 [] [], none, (some 7), false⟩,
      ⟨.alloc 5 .own [.nil], none, (some 5), false⟩,
      ⟨.storeB (.tmp 5) (.tmp 7) none (.slot 7), none, none, false⟩])
    (.seq (.ops [⟨.alloc 6 .fn [.nilf], none, (some 6), false⟩])
     (.seq (.ops [⟨.mkfn 8 89 [(.tmp 2), (.tmp 6), (.tmp 3), (.tmp 5)], none, (some 8), false⟩,
        ⟨.storeB (.tmp 6) (.tmp 8) none .none, none, none, false⟩])
      (.seq (.ops [⟨.loadB 9 (.tmp 6) none false, none, (some 9), false⟩,
         ⟨.callv (some 10) (.tmp 9) 89 4 sg89 [(.const (.slice none 0 0))] [.none], none, (some 10), false⟩])
       (.seq (.ops [⟨.loadB 11 (.tmp 5) none false, none, (some 11), false⟩,
          ⟨.copy 4 (.tmp 11), none, (some 4), false⟩])
        (.ret [(.tmp 4)] [(.box 5 0)]))))))
theorem k70 (r89 : Rel) : compileFn (E70 r89) Try.f70 sg70 hs70 = some c70 := by kernel_rfl
/- loop.example/g01334/impl.Solutions -/
noncomputable def l39 (r69 r70 : Rel) : Deps := [(69, sg69, r69), (70, sg70, r70)]
noncomputable def E39 (r69 r70 : Rel) : Env := mkE Try.prog [0, 1] [] (l39 r69 r70) []
noncomputable def hs39 : HS := []
noncomputable def c39 : Cmd :=
  .seq (.ops [⟨.box 1 .sh (.tmp 0) .none, none, (some 1), false⟩,
     ⟨.copy 2 (.const (.slice none 0 0)), none, (some 2), false⟩,
     ⟨.copy 3 (.const (.bool false)), none, (some 3), false⟩])
   (.seq (.seq (.ops [⟨.loadB 4 (.tmp 1) (some 2) false, none, (some 4), false⟩,
       ⟨.call (some 5) 69 sg69 [(.tmp 4)] [.none], none, (some 5), false⟩,
       ⟨.un 6 .not (.tmp 5), none, (some 6), false⟩])
     (.cond (.tmp 6)
      (.seq (.ops [⟨.copy 2 (.const (.slice none 0 0)), none, (some 2), false⟩,
         ⟨.copy 3 (.const (.bool false)), none, (some 3), false⟩])
       (.ret [(.tmp 2), (.tmp 3)] [.none, .none]))
      (.skip)))
    (.seq (.ops [⟨.fadd 7 (.tmp 1) 0, none, (some 7), false⟩,
       ⟨.loadB 8 (.tmp 7) none true, none, (some 8), false⟩,
       ⟨.fadd 9 (.tmp 1) 1, none, (some 9), false⟩,
       ⟨.loadB 10 (.tmp 9) none false, none, (some 10), false⟩,
       ⟨.call (some 11) 70 sg70 [(.tmp 8), (.tmp 10)] [.none, .none], none, (some 11), false⟩,
       ⟨.take 2 (.tmp 11) (.slot 11), none, (some 2), false⟩,
       ⟨.copy 3 (.const (.bool true)), none, (some 3), false⟩])
     (.ret [(.tmp 2), (.tmp 3)] [(.slot 2), .none])))
theorem k39 (r69 r70 : Rel) : compileFn (E39 r69 r70) Try.f39 sg39 hs39 = some c39 := by kernel_rfl
/- loop.example/g01334/impl.CountSolutions -/
noncomputable def l28 (r39 : Rel) : Deps := [(39, sg39, r39)]
noncomputable def E28 (r39 : Rel) : Env := mkE Try.prog [0, 1, 4, 5] [] (l28 r39) []
noncomputable def hs28 : HS := []
noncomputable def c28 : Cmd :=
  .seq (.ops [⟨.box 1 .sh (.tmp 0) .none, none, (some 1), false⟩,
     ⟨.copy 2 (.const (.int .i64 0)), none, (some 2), false⟩,
     ⟨.copy 3 (.const (.bool false)), none, (some 3), false⟩])
   (.seq (.ops [⟨.loadB 7 (.tmp 1) (some 2) false, none, (some 7), false⟩,
      ⟨.call (some 8) 39 sg39 [(.tmp 7)] [.none], none, (some 8), false⟩,
      ⟨.copy 6 (.tmp 8), none, (some 6), false⟩,
      ⟨.ext 9 6 0, none, (some 9), false⟩,
      ⟨.ext 10 6 1, none, (some 10), false⟩,
      ⟨.take 4 (.tmp 9) (.slot 9), none, (some 4), false⟩,
      ⟨.copy 5 (.tmp 10), none, (some 5), false⟩])
    (.seq (.ops [⟨.copy 11 (.tmp 4), none, (some 11), false⟩,
       ⟨.len 12 false (.tmp 11), none, (some 12), false⟩,
       ⟨.copy 13 (.tmp 5), none, (some 13), false⟩,
       ⟨.copy 2 (.tmp 12), none, (some 2), false⟩,
       ⟨.copy 3 (.tmp 13), none, (some 3), false⟩])
     (.ret [(.tmp 2), (.tmp 3)] [.none, .none])))
theorem k28 (r39 : Rel) : compileFn (E28 r39) Try.f28 sg28 hs28 = some c28 := by kernel_rfl
/- loop.example/g01334/laws.eqClue -/
noncomputable def l85 : Deps := []
noncomputable def E85 : Env := mkE Try.prog [0, 1, 2, 3] [] (l85) []
noncomputable def hs85 : HS := []
noncomputable def c85 : Cmd :=
  .seq (.ops [⟨.box 2 .own (.tmp 0) .none, none, (some 2), false⟩,
     ⟨.box 3 .own (.tmp 1) .none, none, (some 3), false⟩,
     ⟨.copy 4 (.const (.bool false)), none, (some 4), false⟩])
   (.seq (.seq (.ops [⟨.fadd 5 (.tmp 2) 0, none, (some 5), false⟩,
       ⟨.loadB 6 (.tmp 5) none true, none, (some 6), false⟩,
       ⟨.fadd 7 (.tmp 3) 0, none, (some 7), false⟩,
       ⟨.loadB 8 (.tmp 7) none true, none, (some 8), false⟩,
       ⟨.bin 9 .neq (.tmp 6) (.tmp 8), none, (some 9), false⟩])
     (.cond (.tmp 9)
      (.seq (.ops [⟨.copy 4 (.const (.bool false)), none, (some 4), false⟩])
       (.ret [(.tmp 4)] [.none]))
      (.skip)))
    (.seq (.seq (.ops [⟨.fadd 10 (.tmp 2) 1, none, (some 10), false⟩,
        ⟨.loadB 11 (.tmp 10) none true, none, (some 11), false⟩,
        ⟨.fadd 12 (.tmp 3) 1, none, (some 12), false⟩,
        ⟨.loadB 13 (.tmp 12) none true, none, (some 13), false⟩,
        ⟨.bin 14 .neq (.tmp 11) (.tmp 13), none, (some 14), false⟩])
      (.cond (.tmp 14)
       (.seq (.ops [⟨.copy 4 (.const (.bool false)), none, (some 4), false⟩])
        (.ret [(.tmp 4)] [.none]))
       (.skip)))
     (.seq (.seq (.ops [⟨.fadd 15 (.tmp 2) 2, none, (some 15), false⟩,
         ⟨.loadB 16 (.tmp 15) none true, none, (some 16), false⟩,
         ⟨.fadd 17 (.tmp 3) 2, none, (some 17), false⟩,
         ⟨.loadB 18 (.tmp 17) none true, none, (some 18), false⟩,
         ⟨.bin 19 .neq (.tmp 16) (.tmp 18), none, (some 19), false⟩])
       (.cond (.tmp 19)
        (.seq (.ops [⟨.copy 4 (.const (.bool false)), none, (some 4), false⟩])
         (.ret [(.tmp 4)] [.none]))
        (.skip)))
      (.seq (.seq (.ops [⟨.fadd 20 (.tmp 2) 3, none, (some 20), false⟩,
          ⟨.loadB 21 (.tmp 20) none true, none, (some 21), false⟩,
          ⟨.fadd 22 (.tmp 3) 3, none, (some 22), false⟩,
          ⟨.loadB 23 (.tmp 22) none true, none, (some 23), false⟩,
          ⟨.bin 24 .neq (.tmp 21) (.tmp 23), none, (some 24), false⟩])
        (.cond (.tmp 24)
         (.seq (.ops [⟨.copy 4 (.const (.bool false)), none, (some 4), false⟩])
          (.ret [(.tmp 4)] [.none]))
         (.skip)))
       (.seq (.ops [⟨.copy 4 (.const (.bool true)), none, (some 4), false⟩])
        (.ret [(.tmp 4)] [.none]))))))
theorem k85 : compileFn (E85) Try.f85 sg85 hs85 = some c85 := by kernel_rfl
/- loop.example/g01334/laws.eqClueS -/
noncomputable def l61 (r85 : Rel) : Deps := [(85, sg85, r85)]
noncomputable def E61 (r85 : Rel) : Env := mkE Try.prog [0, 1, 2, 3, 5] [] (l61 r85) []
noncomputable def hs61 : HS := [[2, 3, 4, 6, 7, 8, 9, 10, 11, 12, 13, 14, 15, 16, 17, 18, 19, 20, 21, 22, 23, 24, 25, 26]]
noncomputable def c61 : Cmd :=
  .seq (.ops [⟨.copy 4 (.const (.bool false)), none, (some 4), false⟩])
   (.seq (.seq (.ops [⟨.copy 6 (.tmp 0), none, (some 6), false⟩,
       ⟨.len 7 false (.tmp 6), none, (some 7), false⟩,
       ⟨.copy 8 (.tmp 1), none, (some 8), false⟩,
       ⟨.len 9 false (.tmp 8), none, (some 9), false⟩,
       ⟨.bin 10 .neq (.tmp 7) (.tmp 9), none, (some 10), false⟩])
     (.cond (.tmp 10)
      (.seq (.ops [⟨.copy 4 (.const (.bool false)), none, (some 4), false⟩])
       (.ret [(.tmp 4)] [.none]))
      (.skip)))
    (.seq (.seq (.ops [⟨.copy 5 (.const (.int .i64 0)), none, (some 5), false⟩])
      (.block 0 (.loop [true, true, false, false, false, true, false, false, false, false, false, false, false, false, false, false, false, false, false, false, false, false, false, false, false, false, false]
        (.seq (.seq (.ops [⟨.copy 11 (.tmp 5), none, (some 11), false⟩,
            ⟨.copy 12 (.tmp 0), none, (some 12), false⟩,
            ⟨.len 13 false (.tmp 12), none, (some 13), false⟩,
            ⟨.bin 14 .lss (.tmp 11) (.tmp 13), none, (some 14), false⟩])
          (.cond (.tmp 14)
           (.skip)
           (.exit 0)))
         (.seq (.block 1 (.seq (.ops [⟨.copy 17 (.tmp 0), none, (some 17), false⟩,
              ⟨.copy 18 (.tmp 5), none, (some 18), false⟩,
              ⟨.iadd 19 17 27 (.tmp 18), none, (some 19), false⟩,
              ⟨.loadE 20 17 19 (some 4) true, none, (some 20), false⟩,
              ⟨.copy 21 (.tmp 1), none, (some 21), false⟩,
              ⟨.copy 22 (.tmp 5), none, (some 22), false⟩,
              ⟨.iadd 23 21 27 (.tmp 22), none, (some 23), false⟩,
              ⟨.loadE 24 21 23 (some 4) true, none, (some 24), false⟩,
              ⟨.call (some 25) 85 sg85 [(.tmp 20), (.tmp 24)] [.none, .none], none, (some 25), false⟩,
              ⟨.un 26 .not (.tmp 25), none, (some 26), false⟩])
            (.cond (.tmp 26)
             (.seq (.ops [⟨.copy 4 (.const (.bool false)), none, (some 4), false⟩])
              (.ret [(.tmp 4)] [.none]))
             (.skip))))
          (.ops [⟨.copy 15 (.tmp 5), none, (some 15), false⟩,
            ⟨.bin 16 .add (.tmp 15) (.const (.int .i64 1)), none, (some 16), false⟩,
            ⟨.copy 5 (.tmp 16), none, (some 5), false⟩]))))))
     (.seq (.ops [⟨.copy 4 (.const (.bool true)), none, (some 4), false⟩])
      (.ret [(.tmp 4)] [.none]))))
theorem k61 (r85 : Rel) : compileFn (E61 r85) Try.f61 sg61 hs61 = some c61 := by kernel_rfl
/- loop.example/g01334/laws.eqPuzzle -/
noncomputable def l21 (r61 : Rel) : Deps := [(61, sg61, r61)]
noncomputable def E21 (r61 : Rel) : Env := mkE Try.prog [0, 1, 2, 3] [] (l21 r61) []
noncomputable def hs21 : HS := []
noncomputable def c21 : Cmd :=
  .seq (.ops [⟨.box 2 .sh (.tmp 0) .none, none, (some 2), false⟩,
     ⟨.box 3 .sh (.tmp 1) .none, none, (some 3), false⟩,
     ⟨.copy 4 (.const (.bool false)), none, (some 4), false⟩])
   (.seq (.seq (.ops [⟨.fadd 5 (.tmp 2) 0, none, (some 5), false⟩,
       ⟨.loadB 6 (.tmp 5) none true, none, (some 6), false⟩,
       ⟨.fadd 7 (.tmp 3) 0, none, (some 7), false⟩,
       ⟨.loadB 8 (.tmp 7) none true, none, (some 8), false⟩,
       ⟨.bin 9 .neq (.tmp 6) (.tmp 8), none, (some 9), false⟩])
     (.cond (.tmp 9)
      (.seq (.ops [⟨.copy 4 (.const (.bool false)), none, (some 4), false⟩])
       (.ret [(.tmp 4)] [.none]))
      (.skip)))
    (.seq (.seq (.ops [⟨.fadd 10 (.tmp 2) 1, none, (some 10), false⟩,
        ⟨.loadB 11 (.tmp 10) none false, none, (some 11), false⟩,
        ⟨.fadd 12 (.tmp 3) 1, none, (some 12), false⟩,
        ⟨.loadB 13 (.tmp 12) none false, none, (some 13), false⟩,
        ⟨.call (some 14) 61 sg61 [(.tmp 11), (.tmp 13)] [.none, .none], none, (some 14), false⟩,
        ⟨.un 15 .not (.tmp 14), none, (some 15), false⟩])
      (.cond (.tmp 15)
       (.seq (.ops [⟨.copy 4 (.const (.bool false)), none, (some 4), false⟩])
        (.ret [(.tmp 4)] [.none]))
       (.skip)))
     (.seq (.ops [⟨.copy 4 (.const (.bool true)), none, (some 4), false⟩])
      (.ret [(.tmp 4)] [.none]))))
theorem k21 (r61 : Rel) : compileFn (E21 r61) Try.f21 sg21 hs21 = some c21 := by kernel_rfl
/- loop.example/g01334/laws.FnExactCountSolutions -/
noncomputable def l5 (r25 r27 r26 r28 r21 : Rel) : Deps := [(25, sg25, r25), (27, sg27, r27), (26, sg26, r26), (28, sg28, r28), (21, sg21, r21)]
noncomputable def E5 (r25 r27 r26 r28 r21 : Rel) : Env := mkE Try.prog [0, 1, 3, 4, 5, 6, 7, 8] [] (l5 r25 r27 r26 r28 r21) []
noncomputable def hs5 : HS := []
noncomputable def c5 : Cmd :=
  .seq (.ops [⟨.box 1 .sh (.tmp 0) .none, none, (some 1), false⟩,
     ⟨.copy 2 (.const (.bool false)), none, (some 2), false⟩])
   (.seq (.ops [⟨.copy 3 (.const (.int .i64 1048576)), none, (some 3), false⟩])
    (.seq (.ops [⟨.loadB 9 (.tmp 1) (some 2) false, none, (some 9), false⟩,
       ⟨.copy 10 (.tmp 3), none, (some 10), false⟩,
       ⟨.call (some 11) 25 sg25 [(.tmp 9), (.tmp 10)] [.none, .none], none, (some 11), false⟩,
       ⟨.copy 3 (.tmp 11), none, (some 3), false⟩])
     (.seq (.seq (.ops [⟨.copy 12 (.tmp 3), none, (some 12), false⟩,
         ⟨.bin 13 .lss (.tmp 12) (.const (.int .i64 0)), none, (some 13), false⟩])
       (.cond (.tmp 13)
        (.seq (.ops [⟨.copy 2 (.const (.bool true)), none, (some 2), false⟩])
         (.ret [(.tmp 2)] [.none]))
        (.skip)))
      (.seq (.ops [⟨.loadB 15 (.tmp 1) (some 2) false, none, (some 15), false⟩,
         ⟨.call (some 16) 27 sg27 [(.tmp 15)] [.none], none, (some 16), false⟩,
         ⟨.call (some 17) 26 sg26 [(.tmp 16)] [.none], none, (some 17), false⟩,
         ⟨.copy 14 (.tmp 17), none, (some 14), false⟩,
         ⟨.ext 18 14 0, none, (some 18), false⟩,
         ⟨.ext 19 14 1, none, (some 19), false⟩,
         ⟨.copy 4 (.tmp 18), none, (some 4), false⟩,
         ⟨.copy 5 (.tmp 19), none, (some 5), false⟩])
       (.seq (.ops [⟨.loadB 20 (.tmp 1) (some 2) false, none, (some 20), false⟩,
          ⟨.call (some 21) 27 sg27 [(.tmp 20)] [.none], none, (some 21), false⟩,
          ⟨.alloc 6 .own [(.int .i64 0), .nil], none, (some 6), false⟩,
          ⟨.storeB (.tmp 6) (.tmp 21) (some 2) (.slot 21), none, none, false⟩])
        (.seq (.ops [⟨.loadB 23 (.tmp 6) (some 2) false, none, (some 23), false⟩,
           ⟨.call (some 24) 28 sg28 [(.tmp 23)] [.none], none, (some 24), false⟩,
           ⟨.copy 22 (.tmp 24), none, (some 22), false⟩,
           ⟨.ext 25 22 0, none, (some 25), false⟩,
           ⟨.ext 26 22 1, none, (some 26), false⟩,
           ⟨.copy 7 (.tmp 25), none, (some 7), false⟩,
           ⟨.copy 8 (.tmp 26), none, (some 8), false⟩])
         (.seq (.seq (.ops [⟨.copy 27 (.tmp 7), none, (some 27), false⟩,
             ⟨.copy 28 (.tmp 4), none, (some 28), false⟩,
             ⟨.bin 29 .neq (.tmp 27) (.tmp 28), none, (some 29), false⟩,
             ⟨.copy 30 (.tmp 29), none, (some 30), false⟩,
             ⟨.copy 31 (.tmp 8), (some (30, false)), (some 31), true⟩,
             ⟨.copy 32 (.tmp 5), (some (30, false)), (some 32), true⟩,
             ⟨.beq 33 true (.tmp 31) (.tmp 32), (some (30, false)), (some 33), true⟩,
             ⟨.pick 34 (.tmp 30) (.const (.bool true)) (.tmp 33), none, (some 34), false⟩])
           (.cond (.tmp 34)
            (.seq (.ops [⟨.copy 2 (.const (.bool false)), none, (some 2), false⟩])
             (.ret [(.tmp 2)] [.none]))
            (.skip)))
          (.seq (.seq (.ops [⟨.loadB 35 (.tmp 6) (some 2) false, none, (some 35), false⟩,
              ⟨.loadB 36 (.tmp 1) (some 2) false, none, (some 36), false⟩,
              ⟨.call (some 37) 27 sg27 [(.tmp 36)] [.none], none, (some 37), false⟩,
              ⟨.call (some 38) 21 sg21 [(.tmp 35), (.tmp 37)] [.none, .none], none, (some 38), false⟩,
              ⟨.un 39 .not (.tmp 38), none, (some 39), false⟩])
            (.cond (.tmp 39)
             (.seq (.ops [⟨.copy 2 (.const (.bool false)), none, (some 2), false⟩])
              (.ret [(.tmp 2)] [.none]))
             (.skip)))
           (.seq (.ops [⟨.copy 2 (.const (.bool true)), none, (some 2), false⟩])
            (.ret [(.tmp 2)] [.none]))))))))))
theorem k5 (r25 r27 r26 r28 r21 : Rel) : compileFn (E5 r25 r27 r26 r28 r21) Try.f5 sg5 hs5 = some c5 := by kernel_rfl
/- loop.example/g01334/spec.pzSolved -/
noncomputable def l68 (r66 : Rel) : Deps := [(66, sg66, r66)]
noncomputable def E68 (r66 : Rel) : Env := mkE Try.prog [0, 1, 2, 3] [] (l68 r66) []
noncomputable def hs68 : HS := []
noncomputable def c68 : Cmd :=
  .seq (.ops [⟨.copy 4 (.const (.bool false)), none, (some 4), false⟩])
   (.seq (.ops [⟨.copy 5 (.tmp 0), none, (some 5), false⟩,
      ⟨.copy 6 (.tmp 1), none, (some 6), false⟩,
      ⟨.call (some 7) 66 sg66 [(.tmp 5), (.tmp 6)] [.none, .none], none, (some 7), false⟩,
      ⟨.len 8 false (.tmp 7), none, (some 8), false⟩,
      ⟨.bin 9 .eql (.tmp 8) (.const (.int .i64 1)), none, (some 9), false⟩,
      ⟨.copy 4 (.tmp 9), none, (some 4), false⟩])
    (.ret [(.tmp 4)] [.none]))
theorem k68 (r66 : Rel) : compileFn (E68 r66) Try.f68 sg68 hs68 = some c68 := by kernel_rfl
/- loop.example/g01334/spec.IsSolved -/
noncomputable def l29 (r65 r68 : Rel) : Deps := [(65, sg65, r65), (68, sg68, r68)]
noncomputable def E29 (r65 r68 : Rel) : Env := mkE Try.prog [0, 1] [] (l29 r65 r68) []
noncomputable def hs29 : HS := []
noncomputable def c29 : Cmd :=
  .seq (.ops [⟨.box 1 .sh (.tmp 0) .none, none, (some 1), false⟩,
     ⟨.copy 2 (.const (.bool false)), none, (some 2), false⟩,
     ⟨.copy 3 (.const (.bool false)), none, (some 3), false⟩])
   (.seq (.seq (.ops [⟨.loadB 4 (.tmp 1) (some 2) false, none, (some 4), false⟩,
       ⟨.call (some 5) 65 sg65 [(.tmp 4)] [.none], none, (some 5), false⟩,
       ⟨.un 6 .not (.tmp 5), none, (some 6), false⟩])
     (.cond (.tmp 6)
      (.seq (.ops [⟨.copy 2 (.const (.bool false)), none, (some 2), false⟩,
         ⟨.copy 3 (.const (.bool false)), none, (some 3), false⟩])
       (.ret [(.tmp 2), (.tmp 3)] [.none, .none]))
      (.skip)))
    (.seq (.ops [⟨.fadd 7 (.tmp 1) 0, none, (some 7), false⟩,
       ⟨.loadB 8 (.tmp 7) none true, none, (some 8), false⟩,
       ⟨.fadd 9 (.tmp 1) 1, none, (some 9), false⟩,
       ⟨.loadB 10 (.tmp 9) none false, none, (some 10), false⟩,
       ⟨.call (some 11) 68 sg68 [(.tmp 8), (.tmp 10)] [.none, .none], none, (some 11), false⟩,
       ⟨.copy 2 (.tmp 11), none, (some 2), false⟩,
       ⟨.copy 3 (.const (.bool true)), none, (some 3), false⟩])
     (.ret [(.tmp 2), (.tmp 3)] [.none, .none])))
theorem k29 (r65 r68 : Rel) : compileFn (E29 r65 r68) Try.f29 sg29 hs29 = some c29 := by kernel_rfl
/- loop.example/g01334/impl.IsSolved -/
noncomputable def l30 (r28 : Rel) : Deps := [(28, sg28, r28)]
noncomputable def E30 (r28 : Rel) : Env := mkE Try.prog [0, 1, 4, 5] [] (l30 r28) []
noncomputable def hs30 : HS := []
noncomputable def c30 : Cmd :=
  .seq (.ops [⟨.box 1 .sh (.tmp 0) .none, none, (some 1), false⟩,
     ⟨.copy 2 (.const (.bool false)), none, (some 2), false⟩,
     ⟨.copy 3 (.const (.bool false)), none, (some 3), false⟩])
   (.seq (.ops [⟨.loadB 7 (.tmp 1) (some 2) false, none, (some 7), false⟩,
      ⟨.call (some 8) 28 sg28 [(.tmp 7)] [.none], none, (some 8), false⟩,
      ⟨.copy 6 (.tmp 8), none, (some 6), false⟩,
      ⟨.ext 9 6 0, none, (some 9), false⟩,
      ⟨.ext 10 6 1, none, (some 10), false⟩,
      ⟨.copy 4 (.tmp 9), none, (some 4), false⟩,
      ⟨.copy 5 (.tmp 10), none, (some 5), false⟩])
    (.seq (.ops [⟨.copy 11 (.tmp 4), none, (some 11), false⟩,
       ⟨.bin 12 .eql (.tmp 11) (.const (.int .i64 1)), none, (some 12), false⟩,
       ⟨.copy 13 (.tmp 5), none, (some 13), false⟩,
       ⟨.copy 2 (.tmp 12), none, (some 2), false⟩,
       ⟨.copy 3 (.tmp 13), none, (some 3), false⟩])
     (.ret [(.tmp 2), (.tmp 3)] [.none, .none])))
theorem k30 (r28 : Rel) : compileFn (E30 r28) Try.f30 sg30 hs30 = some c30 := by kernel_rfl
/- loop.example/g01334/laws.FnExactIsSolved -/
noncomputable def l6 (r25 r27 r29 r30 r21 : Rel) : Deps := [(25, sg25, r25), (27, sg27, r27), (29, sg29, r29), (30, sg30, r30), (21, sg21, r21)]
noncomputable def E6 (r25 r27 r29 r30 r21 : Rel) : Env := mkE Try.prog [0, 1, 3, 4, 5, 6, 7, 8] [] (l6 r25 r27 r29 r30 r21) []
noncomputable def hs6 : HS := []
noncomputable def c6 : Cmd :=
  .seq (.ops [⟨.box 1 .sh (.tmp 0) .none, none, (some 1), false⟩,
     ⟨.copy 2 (.const (.bool false)), none, (some 2), false⟩])
   (.seq (.ops [⟨.copy 3 (.const (.int .i64 1048576)), none, (some 3), false⟩])
    (.seq (.ops [⟨.loadB 9 (.tmp 1) (some 2) false, none, (some 9), false⟩,
       ⟨.copy 10 (.tmp 3), none, (some 10), false⟩,
       ⟨.call (some 11) 25 sg25 [(.tmp 9), (.tmp 10)] [.none, .none], none, (some 11), false⟩,
       ⟨.copy 3 (.tmp 11), none, (some 3), false⟩])
     (.seq (.seq (.ops [⟨.copy 12 (.tmp 3), none, (some 12), false⟩,
         ⟨.bin 13 .lss (.tmp 12) (.const (.int .i64 0)), none, (some 13), false⟩])
       (.cond (.tmp 13)
        (.seq (.ops [⟨.copy 2 (.const (.bool true)), none, (some 2), false⟩])
         (.ret [(.tmp 2)] [.none]))
        (.skip)))
      (.seq (.ops [⟨.loadB 15 (.tmp 1) (some 2) false, none, (some 15), false⟩,
         ⟨.call (some 16) 27 sg27 [(.tmp 15)] [.none], none, (some 16), false⟩,
         ⟨.call (some 17) 29 sg29 [(.tmp 16)] [.none], none, (some 17), false⟩,
         ⟨.copy 14 (.tmp 17), none, (some 14), false⟩,
         ⟨.ext 18 14 0, none, (some 18), false⟩,
         ⟨.ext 19 14 1, none, (some 19), false⟩,
         ⟨.copy 4 (.tmp 18), none, (some 4), false⟩,
         ⟨.copy 5 (.tmp 19), none, (some 5), false⟩])
       (.seq (.ops [⟨.loadB 20 (.tmp 1) (some 2) false, none, (some 20), false⟩,
          ⟨.call (some 21) 27 sg27 [(.tmp 20)] [.none], none, (some 21), false⟩,
          ⟨.alloc 6 .own [(.int .i64 0), .nil], none, (some 6), false⟩,
          ⟨.storeB (.tmp 6) (.tmp 21) (some 2) (.slot 21), none, none, false⟩])
        (.seq (.ops [⟨.loadB 23 (.tmp 6) (some 2) false, none, (some 23), false⟩,
           ⟨.call (some 24) 30 sg30 [(.tmp 23)] [.none], none, (some 24), false⟩,
           ⟨.copy 22 (.tmp 24), none, (some 22), false⟩,
           ⟨.ext 25 22 0, none, (some 25), false⟩,
           ⟨.ext 26 22 1, none, (some 26), false⟩,
           ⟨.copy 7 (.tmp 25), none, (some 7), false⟩,
           ⟨.copy 8 (.tmp 26), none, (some 8), false⟩])
         (.seq (.seq (.ops [⟨.copy 27 (.tmp 7), none, (some 27), false⟩,
             ⟨.copy 28 (.tmp 4), none, (some 28), false⟩,
             ⟨.beq 29 true (.tmp 27) (.tmp 28), none, (some 29), false⟩,
             ⟨.copy 30 (.tmp 29), none, (some 30), false⟩,
             ⟨.copy 31 (.tmp 8), (some (30, false)), (some 31), true⟩,
             ⟨.copy 32 (.tmp 5), (some (30, false)), (some 32), true⟩,
             ⟨.beq 33 true (.tmp 31) (.tmp 32), (some (30, false)), (some 33), true⟩,
             ⟨.pick 34 (.tmp 30) (.const (.bool true)) (.tmp 33), none, (some 34), false⟩])
           (.cond (.tmp 34)
            (.seq (.ops [⟨.copy 2 (.const (.bool false)), none, (some 2), false⟩])
             (.ret [(.tmp 2)] [.none]))
            (.skip)))
          (.seq (.seq (.ops [⟨.loadB 35 (.tmp 6) (some 2) false, none, (some 35), false⟩,
              ⟨.loadB 36 (.tmp 1) (some 2) false, none, (some 36), false⟩,
              ⟨.call (some 37) 27 sg27 [(.tmp 36)] [.none], none, (some 37), false⟩,
              ⟨.call (some 38) 21 sg21 [(.tmp 35), (.tmp 37)] [.none, .none], none, (some 38), false⟩,
              ⟨.un 39 .not (.tmp 38), none, (some 39), false⟩])
            (.cond (.tmp 39)
             (.seq (.ops [⟨.copy 2 (.const (.bool false)), none, (some 2), false⟩])
              (.ret [(.tmp 2)] [.none]))
             (.skip)))
           (.seq (.ops [⟨.copy 2 (.const (.bool true)), none, (some 2), false⟩])
            (.ret [(.tmp 2)] [.none]))))))))))
theorem k6 (r25 r27 r29 r30 r21 : Rel) : compileFn (E6 r25 r27 r29 r30 r21) Try.f6 sg6 hs6 = some c6 := by kernel_rfl
/- loop.example/g01334/spec.BestClue -/
noncomputable def l31 (r65 r66 : Rel) : Deps := [(65, sg65, r65), (66, sg66, r66)]
noncomputable def E31 (r65 r66 : Rel) : Env := mkE Try.prog [0, 1, 4, 5, 6, 7] [] (l31 r65 r66) []
noncomputable def hs31 : HS := [[0, 2, 3, 6, 7, 8, 9, 10, 11, 12, 13, 14, 15, 16, 17, 18, 21, 22, 23, 24, 25, 26, 27, 28, 29, 30, 31, 32, 33, 34, 35, 39, 40, 41, 42, 43]]
noncomputable def c31 : Cmd :=
  .seq (.ops [⟨.box 1 .sh (.tmp 0) .none, none, (some 1), false⟩,
     ⟨.copy 2 (.const (.int .i64 0)), none, (some 2), false⟩,
     ⟨.copy 3 (.const (.bool false)), none, (some 3), false⟩])
   (.seq (.seq (.ops [⟨.loadB 8 (.tmp 1) (some 2) false, none, (some 8), false⟩,
       ⟨.call (some 9) 65 sg65 [(.tmp 8)] [.none], none, (some 9), false⟩,
       ⟨.un 10 .not (.tmp 9), none, (some 10), false⟩,
       ⟨.copy 11 (.tmp 10), none, (some 11), false⟩,
       ⟨.fadd 12 (.tmp 1) 1, (some (11, false)), (some 12), false⟩,
       ⟨.loadB 13 (.tmp 12) none false, (some (11, false)), (some 13), false⟩,
       ⟨.len 14 false (.tmp 13), (some (11, false)), (some 14), true⟩,
       ⟨.bin 15 .eql (.tmp 14) (.const (.int .i64 0)), (some (11, false)), (some 15), true⟩,
       ⟨.pick 16 (.tmp 11) (.const (.bool true)) (.tmp 15), none, (some 16), false⟩])
     (.cond (.tmp 16)
      (.seq (.ops [⟨.copy 2 (.const (.int .i64 0)), none, (some 2), false⟩,
         ⟨.copy 3 (.const (.bool false)), none, (some 3), false⟩])
       (.ret [(.tmp 2), (.tmp 3)] [.none, .none]))
      (.skip)))
    (.seq (.ops [⟨.copy 4 (.const (.int .i64 0)), none, (some 4), false⟩,
       ⟨.copy 5 (.const (.int .i64 0)), none, (some 5), false⟩])
     (.seq (.seq (.ops [⟨.fadd 17 (.tmp 1) 1, none, (some 17), false⟩,
         ⟨.loadB 18 (.tmp 17) none false, none, (some 18), false⟩,
         ⟨.len 19 false (.tmp 18), none, (some 19), false⟩,
         ⟨.copy 20 (.const (.int .i64 0)), none, (some 20), false⟩])
       (.block 0 (.loop [false, true, false, false, true, true, false, false, false, false, false, false, false, false, false, false, false, false, false, true, true, false, false, false, false, false, false, false, false, false, false, false, false, false, false, false, false, false, false, false, false, false, false, false]
         (.seq (.ops [⟨.bin 21 .lss (.tmp 20) (.tmp 19), none, (some 21), false⟩])
          (.seq (.cond (.tmp 21)
            (.skip)
            (.exit 0))
           (.seq (.block 1 (.seq (.ops [⟨.copy 22 (.tmp 20), none, (some 22), false⟩,
                ⟨.copy 6 (.tmp 22), none, (some 6), false⟩])
              (.seq (.ops [⟨.fadd 23 (.tmp 1) 0, none, (some 23), false⟩,
                 ⟨.loadB 24 (.tmp 23) none true, none, (some 24), false⟩,
                 ⟨.fadd 25 (.tmp 1) 1, none, (some 25), false⟩,
                 ⟨.loadB 26 (.tmp 25) none false, none, (some 26), false⟩,
                 ⟨.copy 27 (.tmp 6), none, (some 27), false⟩,
                 ⟨.copy 28 (.tmp 6), none, (some 28), false⟩,
                 ⟨.bin 29 .add (.tmp 28) (.const (.int .i64 1)), none, (some 29), false⟩,
                 ⟨.sli 30 27 (.tmp 26) (some (.tmp 27)) (some (.tmp 29)) none, none, (some 30), false⟩,
                 ⟨.call (some 31) 66 sg66 [(.tmp 24), (.tmp 30)] [.none, .none], none, (some 31), false⟩,
                 ⟨.len 32 false (.tmp 31), none, (some 32), false⟩,
                 ⟨.copy 7 (.tmp 32), none, (some 7), false⟩])
               (.seq (.ops [⟨.copy 33 (.tmp 6), none, (some 33), false⟩,
                  ⟨.bin 34 .eql (.tmp 33) (.const (.int .i64 0)), none, (some 34), false⟩,
                  ⟨.copy 35 (.tmp 34), none, (some 35), false⟩,
                  ⟨.copy 36 (.tmp 7), (some (35, false)), (some 36), true⟩,
                  ⟨.copy 37 (.tmp 5), (some (35, false)), (some 37), true⟩,
                  ⟨.bin 38 .lss (.tmp 36) (.tmp 37), (some (35, false)), (some 38), true⟩,
                  ⟨.pick 39 (.tmp 35) (.const (.bool true)) (.tmp 38), none, (some 39), false⟩])
                (.cond (.tmp 39)
                 (.seq (.ops [⟨.copy 40 (.tmp 6), none, (some 40), false⟩,
                    ⟨.copy 4 (.tmp 40), none, (some 4), false⟩])
                  (.ops [⟨.copy 41 (.tmp 7), none, (some 41), false⟩,
                    ⟨.copy 5 (.tmp 41), none, (some 5), false⟩]))
                 (.skip))))))
            (.ops [⟨.bin 42 .add (.tmp 20) (.const (.int .i64 1)), none, (some 42), false⟩,
              ⟨.copy 20 (.tmp 42), none, (some 20), false⟩])))))))
      (.seq (.ops [⟨.copy 43 (.tmp 4), none, (some 43), false⟩,
         ⟨.copy 2 (.tmp 43), none, (some 2), false⟩,
         ⟨.copy 3 (.const (.bool true)), none, (some 3), false⟩])
       (.ret [(.tmp 2), (.tmp 3)] [.none, .none])))))
theorem k31 (r65 r66 : Rel) : compileFn (E31 r65 r66) Try.f31 sg31 hs31 = some c31 := by kernel_rfl
/- loop.example/g01334/impl.BestClue -/
noncomputable def l32 (r69 r70 : Rel) : Deps := [(69, sg69, r69), (70, sg70, r70)]
noncomputable def E32 (r69 r70 : Rel) : Env := mkE Try.prog [0, 1, 4, 5, 6, 7, 8] [] (l32 r69 r70) []
noncomputable def hs32 : HS := [[0, 2, 3, 6, 7, 8, 9, 10, 11, 12, 13, 14, 15, 16, 17, 18, 22, 23, 24, 25, 26, 27, 28, 29, 30, 31, 32, 33, 34, 38, 39, 40, 41, 42]]
noncomputable def c32 : Cmd :=
  .seq (.ops [⟨.box 1 .sh (.tmp 0) .none, none, (some 1), false⟩,
     ⟨.copy 2 (.const (.int .i64 0)), none, (some 2), false⟩,
     ⟨.copy 3 (.const (.bool false)), none, (some 3), false⟩])
   (.seq (.seq (.ops [⟨.loadB 9 (.tmp 1) (some 2) false, none, (some 9), false⟩,
       ⟨.call (some 10) 69 sg69 [(.tmp 9)] [.none], none, (some 10), false⟩,
       ⟨.un 11 .not (.tmp 10), none, (some 11), false⟩,
       ⟨.copy 12 (.tmp 11), none, (some 12), false⟩,
       ⟨.fadd 13 (.tmp 1) 1, (some (12, false)), (some 13), false⟩,
       ⟨.loadB 14 (.tmp 13) none false, (some (12, false)), (some 14), false⟩,
       ⟨.len 15 false (.tmp 14), (some (12, false)), (some 15), true⟩,
       ⟨.bin 16 .eql (.tmp 15) (.const (.int .i64 0)), (some (12, false)), (some 16), true⟩,
       ⟨.pick 17 (.tmp 12) (.const (.bool true)) (.tmp 16), none, (some 17), false⟩])
     (.cond (.tmp 17)
      (.seq (.ops [⟨.copy 2 (.const (.int .i64 0)), none, (some 2), false⟩,
         ⟨.copy 3 (.const (.bool false)), none, (some 3), false⟩])
       (.ret [(.tmp 2), (.tmp 3)] [.none, .none]))
      (.skip)))
    (.seq (.ops [⟨.copy 4 (.const (.int .i64 0)), none, (some 4), false⟩,
       ⟨.copy 5 (.const (.int .i64 (-1))), none, (some 5), false⟩])
     (.seq (.seq (.ops [⟨.fadd 18 (.tmp 1) 1, none, (some 18), false⟩,
         ⟨.loadB 19 (.tmp 18) none false, none, (some 19), false⟩,
         ⟨.len 20 false (.tmp 19), none, (some 20), false⟩,
         ⟨.copy 21 (.const (.int .i64 0)), none, (some 21), false⟩])
       (.block 0 (.loop [false, true, false, false, true, true, false, false, false, false, false, false, false, false, false, false, false, false, false, true, true, true, false, false, false, false, false, false, false, false, false, false, false, false, false, false, false, false, false, false, false, false, false]
         (.seq (.ops [⟨.bin 22 .lss (.tmp 21) (.tmp 20), none, (some 22), false⟩])
          (.seq (.cond (.tmp 22)
            (.skip)
            (.exit 0))
           (.seq (.block 1 (.seq (.ops [⟨.copy 23 (.tmp 21), none, (some 23), false⟩,
                ⟨.iadd 24 19 27 (.tmp 21), none, (some 24), false⟩,
                ⟨.loadE 25 19 24 (some 4) true, none, (some 25), false⟩,
                ⟨.alloc 7 .own [(.int .i64 0), (.int .i64 0), (.int .i64 0), (.int .i64 0)], none, (some 7), false⟩,
                ⟨.copy 6 (.tmp 23), none, (some 6), false⟩,
                ⟨.storeB (.tmp 7) (.tmp 25) (some 4) .none, none, none, false⟩])
              (.seq (.ops [⟨.fadd 26 (.tmp 1) 0, none, (some 26), false⟩,
                 ⟨.loadB 27 (.tmp 26) none true, none, (some 27), false⟩,
                 ⟨.loadB 28 (.tmp 7) (some 4) true, none, (some 28), false⟩,
                 ⟨.lit 29 27 4 [(.tmp 28)] [.none], none, (some 29), false⟩,
                 ⟨.call (some 30) 70 sg70 [(.tmp 27), (.tmp 29)] [.none, .none], none, (some 30), false⟩,
                 ⟨.len 31 false (.tmp 30), none, (some 31), false⟩,
                 ⟨.copy 8 (.tmp 31), none, (some 8), false⟩])
               (.seq (.ops [⟨.copy 32 (.tmp 5), none, (some 32), false⟩,
                  ⟨.bin 33 .lss (.tmp 32) (.const (.int .i64 0)), none, (some 33), false⟩,
                  ⟨.copy 34 (.tmp 33), none, (some 34), false⟩,
                  ⟨.copy 35 (.tmp 8), (some (34, false)), (some 35), true⟩,
                  ⟨.copy 36 (.tmp 5), (some (34, false)), (some 36), true⟩,
                  ⟨.bin 37 .lss (.tmp 35) (.tmp 36), (some (34, false)), (some 37), true⟩,
                  ⟨.pick 38 (.tmp 34) (.const (.bool true)) (.tmp 37), none, (some 38), false⟩])
                (.cond (.tmp 38)
                 (.ops [⟨.copy 39 (.tmp 6), none, (some 39), false⟩,
                   ⟨.copy 40 (.tmp 8), none, (some 40), false⟩,
                   ⟨.copy 4 (.tmp 39), none, (some 4), false⟩,
                   ⟨.copy 5 (.tmp 40), none, (some 5), false⟩])
                 (.skip))))))
            (.ops [⟨.bin 41 .add (.tmp 21) (.const (.int .i64 1)), none, (some 41), false⟩,
              ⟨.copy 21 (.tmp 41), none, (some 21), false⟩])))))))
      (.seq (.ops [⟨.copy 42 (.tmp 4), none, (some 42), false⟩,
         ⟨.copy 2 (.tmp 42), none, (some 2), false⟩,
         ⟨.copy 3 (.const (.bool true)), none, (some 3), false⟩])
       (.ret [(.tmp 2), (.tmp 3)] [.none, .none])))))
theorem k32 (r69 r70 : Rel) : compileFn (E32 r69 r70) Try.f32 sg32 hs32 = some c32 := by kernel_rfl
/- loop.example/g01334/laws.FnExactBestClue -/
noncomputable def l7 (r25 r27 r31 r32 r21 : Rel) : Deps := [(25, sg25, r25), (27, sg27, r27), (31, sg31, r31), (32, sg32, r32), (21, sg21, r21)]
noncomputable def E7 (r25 r27 r31 r32 r21 : Rel) : Env := mkE Try.prog [0, 1, 3, 4, 5, 6, 7, 8] [] (l7 r25 r27 r31 r32 r21) []
noncomputable def hs7 : HS := []
noncomputable def c7 : Cmd :=
  .seq (.ops [⟨.box 1 .sh (.tmp 0) .none, none, (some 1), false⟩,
     ⟨.copy 2 (.const (.bool false)), none, (some 2), false⟩])
   (.seq (.ops [⟨.copy 3 (.const (.int .i64 1048576)), none, (some 3), false⟩])
    (.seq (.ops [⟨.loadB 9 (.tmp 1) (some 2) false, none, (some 9), false⟩,
       ⟨.copy 10 (.tmp 3), none, (some 10), false⟩,
       ⟨.call (some 11) 25 sg25 [(.tmp 9), (.tmp 10)] [.none, .none], none, (some 11), false⟩,
       ⟨.copy 3 (.tmp 11), none, (some 3), false⟩])
     (.seq (.seq (.ops [⟨.copy 12 (.tmp 3), none, (some 12), false⟩,
         ⟨.bin 13 .lss (.tmp 12) (.const (.int .i64 0)), none, (some 13), false⟩])
       (.cond (.tmp 13)
        (.seq (.ops [⟨.copy 2 (.const (.bool true)), none, (some 2), false⟩])
         (.ret [(.tmp 2)] [.none]))
        (.skip)))
      (.seq (.ops [⟨.loadB 15 (.tmp 1) (some 2) false, none, (some 15), false⟩,
         ⟨.call (some 16) 27 sg27 [(.tmp 15)] [.none], none, (some 16), false⟩,
         ⟨.call (some 17) 31 sg31 [(.tmp 16)] [.none], none, (some 17), false⟩,
         ⟨.copy 14 (.tmp 17), none, (some 14), false⟩,
         ⟨.ext 18 14 0, none, (some 18), false⟩,
         ⟨.ext 19 14 1, none, (some 19), false⟩,
         ⟨.copy 4 (.tmp 18), none, (some 4), false⟩,
         ⟨.copy 5 (.tmp 19), none, (some 5), false⟩])
       (.seq (.ops [⟨.loadB 20 (.tmp 1) (some 2) false, none, (some 20), false⟩,
          ⟨.call (some 21) 27 sg27 [(.tmp 20)] [.none], none, (some 21), false⟩,
          ⟨.alloc 6 .own [(.int .i64 0), .nil], none, (some 6), false⟩,
          ⟨.storeB (.tmp 6) (.tmp 21) (some 2) (.slot 21), none, none, false⟩])
        (.seq (.ops [⟨.loadB 23 (.tmp 6) (some 2) false, none, (some 23), false⟩,
           ⟨.call (some 24) 32 sg32 [(.tmp 23)] [.none], none, (some 24), false⟩,
           ⟨.copy 22 (.tmp 24), none, (some 22), false⟩,
           ⟨.ext 25 22 0, none, (some 25), false⟩,
           ⟨.ext 26 22 1, none, (some 26), false⟩,
           ⟨.copy 7 (.tmp 25), none, (some 7), false⟩,
           ⟨.copy 8 (.tmp 26), none, (some 8), false⟩])
         (.seq (.seq (.ops [⟨.copy 27 (.tmp 7), none, (some 27), false⟩,
             ⟨.copy 28 (.tmp 4), none, (some 28), false⟩,
             ⟨.bin 29 .neq (.tmp 27) (.tmp 28), none, (some 29), false⟩,
             ⟨.copy 30 (.tmp 29), none, (some 30), false⟩,
             ⟨.copy 31 (.tmp 8), (some (30, false)), (some 31), true⟩,
             ⟨.copy 32 (.tmp 5), (some (30, false)), (some 32), true⟩,
             ⟨.beq 33 true (.tmp 31) (.tmp 32), (some (30, false)), (some 33), true⟩,
             ⟨.pick 34 (.tmp 30) (.const (.bool true)) (.tmp 33), none, (some 34), false⟩])
           (.cond (.tmp 34)
            (.seq (.ops [⟨.copy 2 (.const (.bool false)), none, (some 2), false⟩])
             (.ret [(.tmp 2)] [.none]))
            (.skip)))
          (.seq (.seq (.ops [⟨.loadB 35 (.tmp 6) (some 2) false, none, (some 35), false⟩,
              ⟨.loadB 36 (.tmp 1) (some 2) false, none, (some 36), false⟩,
              ⟨.call (some 37) 27 sg27 [(.tmp 36)] [.none], none, (some 37), false⟩,
              ⟨.call (some 38) 21 sg21 [(.tmp 35), (.tmp 37)] [.none, .none], none, (some 38), false⟩,
              ⟨.un 39 .not (.tmp 38), none, (some 39), false⟩])
            (.cond (.tmp 39)
             (.seq (.ops [⟨.copy 2 (.const (.bool false)), none, (some 2), false⟩])
              (.ret [(.tmp 2)] [.none]))
             (.skip)))
           (.seq (.ops [⟨.copy 2 (.const (.bool true)), none, (some 2), false⟩])
            (.ret [(.tmp 2)] [.none]))))))))))
theorem k7 (r25 r27 r31 r32 r21 : Rel) : compileFn (E7 r25 r27 r31 r32 r21) Try.f7 sg7 hs7 = some c7 := by kernel_rfl
/- loop.example/g01334/spec.SureSizes -/
noncomputable def l43 (r65 r66 r71 : Rel) : Deps := [(65, sg65, r65), (66, sg66, r66), (71, sg71, r71)]
noncomputable def E43 (r65 r66 r71 : Rel) : Env := mkE Try.prog [0, 1, 4, 5, 6, 7, 8] [] (l43 r65 r66 r71) []
noncomputable def hs43 : HS := [[], []]
noncomputable def c43 : Cmd :=
  .seq (.ops [⟨.box 1 .sh (.tmp 0) .none, none, (some 1), false⟩,
     ⟨.copy 2 (.const (.slice none 0 0)), none, (some 2), false⟩,
     ⟨.copy 3 (.const (.bool false)), none, (some 3), false⟩])
   (.seq (.seq (.ops [⟨.loadB 9 (.tmp 1) (some 2) false, none, (some 9), false⟩,
       ⟨.call (some 10) 65 sg65 [(.tmp 9)] [.none], none, (some 10), false⟩,
       ⟨.un 11 .not (.tmp 10), none, (some 11), false⟩])
     (.cond (.tmp 11)
      (.seq (.ops [⟨.copy 2 (.const (.slice none 0 0)), none, (some 2), false⟩,
         ⟨.copy 3 (.const (.bool false)), none, (some 3), false⟩])
       (.ret [(.tmp 2), (.tmp 3)] [.none, .none]))
      (.skip)))
    (.seq (.ops [⟨.fadd 12 (.tmp 1) 0, none, (some 12), false⟩,
       ⟨.loadB 13 (.tmp 12) none true, none, (some 13), false⟩,
       ⟨.fadd 14 (.tmp 1) 1, none, (some 14), false⟩,
       ⟨.loadB 15 (.tmp 14) none false, none, (some 15), false⟩,
       ⟨.call (some 16) 66 sg66 [(.tmp 13), (.tmp 15)] [.none, .none], none, (some 16), false⟩,
       ⟨.take 4 (.tmp 16) (.slot 16), none, (some 4), false⟩])
     (.seq (.seq (.ops [⟨.copy 17 (.tmp 4), none, (some 17), false⟩,
         ⟨.len 18 false (.tmp 17), none, (some 18), false⟩,
         ⟨.bin 19 .eql (.tmp 18) (.const (.int .i64 0)), none, (some 19), false⟩])
       (.cond (.tmp 19)
        (.seq (.ops [⟨.copy 2 (.const (.slice none 0 0)), none, (some 2), false⟩,
           ⟨.copy 3 (.const (.bool false)), none, (some 3), false⟩])
         (.ret [(.tmp 2), (.tmp 3)] [.none, .none]))
        (.skip)))
      (.seq (.ops [⟨.copy 20 (.tmp 4), none, (some 20), false⟩,
         ⟨.iadd 21 20 24 (.const (.int .i64 0)), none, (some 21), false⟩,
         ⟨.loadE 22 20 21 none false, none, (some 22), false⟩,
         ⟨.call (some 23) 71 sg71 [(.tmp 22)] [.none], none, (some 23), false⟩,
         ⟨.take 5 (.tmp 23) (.slot 23), none, (some 5), false⟩])
       (.seq (.seq (.ops [⟨.copy 24 (.tmp 4), none, (some 24), false⟩,
           ⟨.len 25 false (.tmp 24), none, (some 25), false⟩,
           ⟨.copy 26 (.const (.int .i64 0)), none, (some 26), false⟩])
         (.block 0 (.loop [true, true, true, true, true, true, false, false, false, true, true, true, true, true, true, true, false, true, true, true, true, true, true, false, true, true, true, false, false, false, false, false, false, false, false, false, false, false, false, false, false, false, false, false, false, false, false, false, false, false]
           (.seq (.ops [⟨.bin 27 .lss (.tmp 26) (.tmp 25), none, (some 27), false⟩])
            (.seq (.cond (.tmp 27)
              (.skip)
              (.exit 0))
             (.seq (.block 1 (.seq (.ops [⟨.iadd 28 24 24 (.tmp 26), none, (some 28), false⟩,
                  ⟨.loadE 29 24 28 none false, none, (some 29), false⟩,
                  ⟨.copy 7 (.tmp 29), none, (some 7), false⟩])
                (.seq (.ops [⟨.copy 30 (.tmp 5), none, (some 30), false⟩,
                   ⟨.len 31 false (.tmp 30), none, (some 31), false⟩,
                   ⟨.copy 32 (.const (.int .i64 0)), none, (some 32), false⟩])
                 (.block 2 (.loop [true, true, true, true, true, true, false, true, false, true, true, true, true, true, true, true, false, true, true, true, true, true, true, false, true, true, true, true, true, true, false, true, true, false, false, false, false, false, false, false, false, false, false, false, false, false, false, false, false, false]
                   (.seq (.ops [⟨.bin 33 .lss (.tmp 32) (.tmp 31), none, (some 33), false⟩])
                    (.seq (.cond (.tmp 33)
                      (.skip)
                      (.exit 2))
                     (.seq (.block 3 (.seq (.ops [⟨.copy 34 (.tmp 32), none, (some 34), false⟩,
                          ⟨.copy 8 (.tmp 34), none, (some 8), false⟩])
                        (.seq (.ops [⟨.copy 35 (.tmp 7), none, (some 35), false⟩,
                           ⟨.copy 36 (.tmp 8), none, (some 36), false⟩,
                           ⟨.iadd 37 35 3 (.tmp 36), none, (some 37), false⟩,
                           ⟨.loadE 38 35 37 none true, none, (some 38), false⟩,
                           ⟨.copy 39 (.tmp 5), none, (some 39), false⟩,
                           ⟨.copy 40 (.tmp 8), none, (some 40), false⟩,
                           ⟨.iadd 41 39 3 (.tmp 40), none, (some 41), false⟩,
                           ⟨.loadE 42 39 41 none true, none, (some 42), false⟩,
                           ⟨.bin 43 .neq (.tmp 38) (.tmp 42), none, (some 43), false⟩])
                         (.cond (.tmp 43)
                          (.ops [⟨.copy 44 (.tmp 5), none, (some 44), false⟩,
                            ⟨.copy 45 (.tmp 8), none, (some 45), false⟩,
                            ⟨.iadd 46 44 3 (.tmp 45), none, (some 46), false⟩,
                            ⟨.storeE 5 46 none (.const (.int .i64 (-1))), none, none, false⟩])
                          (.skip)))))
                      (.ops [⟨.bin 47 .add (.tmp 32) (.const (.int .i64 1)), none, (some 47), false⟩,
                        ⟨.copy 32 (.tmp 47), none, (some 32), false⟩])))))))))
              (.ops [⟨.bin 48 .add (.tmp 26) (.const (.int .i64 1)), none, (some 48), false⟩,
                ⟨.copy 26 (.tmp 48), none, (some 26), false⟩])))))))
        (.seq (.ops [⟨.copy 49 (.tmp 5), none, (some 49), false⟩,
           ⟨.copy 2 (.tmp 49), none, (some 2), false⟩,
           ⟨.copy 3 (.const (.bool true)), none, (some 3), false⟩])
         (.ret [(.tmp 2), (.tmp 3)] [(.slot 5), .none])))))))
theorem k43 (r65 r66 r71 : Rel) : compileFn (E43 r65 r66 r71) Try.f43 sg43 hs43 = some c43 := by kernel_rfl
/- loop.example/g01334/impl.SureSizes -/
noncomputable def l44 (r39 r72 : Rel) : Deps := [(39, sg39, r39), (72, sg72, r72)]
noncomputable def E44 (r39 r72 : Rel) : Env := mkE Try.prog [0, 1, 4, 5, 6, 7, 8, 9, 10] [] (l44 r39 r72) []
noncomputable def hs44 : HS := [[0, 1, 2, 3, 5, 7, 8, 9, 10, 11, 12, 13, 14, 15, 16, 17, 18, 19, 20, 21, 22, 26, 27, 28, 29, 30, 31, 32, 33, 34, 35, 36, 37, 38, 39, 40, 41, 42, 43, 44, 45, 46, 47, 48, 49], [0, 1, 2, 3, 5, 7, 8, 9, 10, 11, 12, 13, 14, 15, 16, 17, 18, 19, 20, 21, 22, 26, 27, 28, 32, 33, 34, 35, 36, 37, 38, 39, 40, 41, 42, 43, 44, 45, 46, 47, 48, 49]]
noncomputable def c44 : Cmd :=
  .seq (.ops [⟨.box 1 .sh (.tmp 0) .none, none, (some 1), false⟩,
     ⟨.copy 2 (.const (.slice none 0 0)), none, (some 2), false⟩,
     ⟨.copy 3 (.const (.bool false)), none, (some 3), false⟩])
   (.seq (.ops [⟨.loadB 12 (.tmp 1) (some 2) false, none, (some 12), false⟩,
      ⟨.call (some 13) 39 sg39 [(.tmp 12)] [.none], none, (some 13), false⟩,
      ⟨.copy 11 (.tmp 13), none, (some 11), false⟩,
      ⟨.ext 14 11 0, none, (some 14), false⟩,
      ⟨.ext 15 11 1, none, (some 15), false⟩,
      ⟨.take 4 (.tmp 14) (.slot 14), none, (some 4), false⟩,
      ⟨.copy 5 (.tmp 15), none, (some 5), false⟩])
    (.seq (.seq (.ops [⟨.copy 16 (.tmp 4), none, (some 16), false⟩,
        ⟨.len 17 false (.tmp 16), none, (some 17), false⟩,
        ⟨.bin 18 .eql (.tmp 17) (.const (.int .i64 0)), none, (some 18), false⟩])
      (.cond (.tmp 18)
       (.seq (.ops [⟨.copy 2 (.const (.slice none 0 0)), none, (some 2), false⟩,
          ⟨.copy 3 (.const (.bool false)), none, (some 3), false⟩])
        (.ret [(.tmp 2), (.tmp 3)] [.none, .none]))
       (.skip)))
     (.seq (.ops [⟨.copy 19 (.tmp 4), none, (some 19), false⟩,
        ⟨.iadd 20 19 24 (.const (.int .i64 0)), none, (some 20), false⟩,
        ⟨.loadE 21 19 20 none false, none, (some 21), false⟩,
        ⟨.call (some 22) 72 sg72 [(.tmp 21)] [.none], none, (some 22), false⟩,
        ⟨.take 6 (.tmp 22) (.slot 22), none, (some 6), false⟩])
      (.seq (.seq (.ops [⟨.copy 23 (.tmp 4), none, (some 23), false⟩,
          ⟨.len 24 false (.tmp 23), none, (some 24), false⟩,
          ⟨.copy 25 (.const (.int .i64 0)), none, (some 25), false⟩])
        (.block 0 (.loop [false, false, false, false, true, false, true, false, false, false, false, false, false, false, false, false, false, false, false, false, false, false, false, true, true, true, false, false, false, false, false, false, false, false, false, false, false, false, false, false, false, false, false, false, false, false, false, false, false, false]
          (.seq (.ops [⟨.bin 26 .lss (.tmp 25) (.tmp 24), none, (some 26), false⟩])
           (.seq (.cond (.tmp 26)
             (.skip)
             (.exit 0))
            (.seq (.block 1 (.seq (.ops [⟨.iadd 27 23 24 (.tmp 25), none, (some 27), false⟩,
                 ⟨.loadE 28 23 27 none false, none, (some 28), false⟩,
                 ⟨.copy 8 (.tmp 28), none, (some 8), false⟩])
               (.seq (.ops [⟨.copy 29 (.tmp 8), none, (some 29), false⟩,
                  ⟨.len 30 false (.tmp 29), none, (some 30), false⟩,
                  ⟨.copy 31 (.const (.int .i64 0)), none, (some 31), false⟩])
                (.block 2 (.loop [false, false, false, false, true, false, true, false, false, false, false, false, false, false, false, false, false, false, false, false, false, false, false, true, true, true, false, false, false, true, true, true, false, false, false, false, false, false, false, false, false, false, false, false, false, false, false, false, false, false]
                  (.seq (.ops [⟨.bin 32 .lss (.tmp 31) (.tmp 30), none, (some 32), false⟩])
                   (.seq (.cond (.tmp 32)
                     (.skip)
                     (.exit 2))
                    (.seq (.block 3 (.seq (.ops [⟨.copy 33 (.tmp 31), none, (some 33), false⟩,
                         ⟨.iadd 34 29 3 (.tmp 31), none, (some 34), false⟩,
                         ⟨.loadE 35 29 34 none true, none, (some 35), false⟩,
                         ⟨.copy 9 (.tmp 33), none, (some 9), false⟩,
                         ⟨.copy 10 (.tmp 35), none, (some 10), false⟩])
                       (.seq (.ops [⟨.copy 36 (.tmp 10), none, (some 36), false⟩,
                          ⟨.copy 37 (.tmp 4), none, (some 37), false⟩,
                          ⟨.iadd 38 37 24 (.const (.int .i64 0)), none, (some 38), false⟩,
                          ⟨.loadE 39 37 38 none false, none, (some 39), false⟩,
                          ⟨.copy 40 (.tmp 9), none, (some 40), false⟩,
                          ⟨.iadd 41 39 3 (.tmp 40), none, (some 41), false⟩,
                          ⟨.loadE 42 39 41 none true, none, (some 42), false⟩,
                          ⟨.bin 43 .neq (.tmp 36) (.tmp 42), none, (some 43), false⟩])
                        (.cond (.tmp 43)
                         (.ops [⟨.copy 44 (.tmp 6), none, (some 44), false⟩,
                           ⟨.copy 45 (.tmp 9), none, (some 45), false⟩,
                           ⟨.iadd 46 44 3 (.tmp 45), none, (some 46), false⟩,
                           ⟨.storeE 6 46 none (.const (.int .i64 (-1))), none, none, false⟩])
                         (.skip)))))
                     (.ops [⟨.bin 47 .add (.tmp 31) (.const (.int .i64 1)), none, (some 47), false⟩,
                       ⟨.copy 31 (.tmp 47), none, (some 31), false⟩])))))))))
             (.ops [⟨.bin 48 .add (.tmp 25) (.const (.int .i64 1)), none, (some 48), false⟩,
               ⟨.copy 25 (.tmp 48), none, (some 25), false⟩])))))))
       (.seq (.ops [⟨.copy 49 (.tmp 6), none, (some 49), false⟩,
          ⟨.copy 2 (.tmp 49), none, (some 2), false⟩,
          ⟨.copy 3 (.const (.bool true)), none, (some 3), false⟩])
        (.ret [(.tmp 2), (.tmp 3)] [(.slot 6), .none]))))))
theorem k44 (r39 r72 : Rel) : compileFn (E44 r39 r72) Try.f44 sg44 hs44 = some c44 := by kernel_rfl
/- loop.example/g01334/laws.markClueS -/
noncomputable def l62 : Deps := []
noncomputable def E62 : Env := mkE Try.prog [0, 1, 2, 3, 5] [] (l62) []
noncomputable def hs62 : HS := [[2, 3, 4, 6, 7, 8, 9, 10, 11, 12, 13, 14, 15, 16, 17, 18, 19, 20, 21, 22, 23, 24, 25, 26, 27, 28, 29, 30, 31, 32, 33, 34, 35, 36, 37, 38, 39, 40]]
noncomputable def c62 : Cmd :=
  .seq (.ops [⟨.copy 4 (.const (.int .i64 0)), none, (some 4), false⟩])
   (.seq (.seq (.ops [⟨.copy 5 (.const (.int .i64 0)), none, (some 5), false⟩])
     (.block 0 (.loop [true, true, false, false, false, true, false, false, false, false, false, false, false, false, false, false, false, false, false, false, false, false, false, false, false, false, false, false, false, false, false, false, false, false, false, false, false, false, false, false, false]
       (.seq (.seq (.ops [⟨.copy 6 (.tmp 5), none, (some 6), false⟩,
           ⟨.copy 7 (.tmp 0), none, (some 7), false⟩,
           ⟨.len 8 false (.tmp 7), none, (some 8), false⟩,
           ⟨.bin 9 .lss (.tmp 6) (.tmp 8), none, (some 9), false⟩])
         (.cond (.tmp 9)
          (.skip)
          (.exit 0)))
        (.seq (.block 1 (.seq (.ops [⟨.copy 12 (.tmp 0), none, (some 12), false⟩,
             ⟨.copy 13 (.tmp 5), none, (some 13), false⟩,
             ⟨.copy 14 (.tmp 1), none, (some 14), false⟩,
             ⟨.iadd 15 12 27 (.tmp 13), none, (some 15), false⟩,
             ⟨.fadd 16 (.tmp 15) 0, none, (some 16), false⟩,
             ⟨.storeE 0 16 none (.tmp 14), none, none, false⟩])
           (.seq (.ops [⟨.copy 17 (.tmp 1), none, (some 17), false⟩,
              ⟨.bin 18 .add (.tmp 17) (.const (.int .i64 1)), none, (some 18), false⟩,
              ⟨.copy 1 (.tmp 18), none, (some 1), false⟩])
            (.seq (.ops [⟨.copy 19 (.tmp 0), none, (some 19), false⟩,
               ⟨.copy 20 (.tmp 5), none, (some 20), false⟩,
               ⟨.copy 21 (.tmp 1), none, (some 21), false⟩,
               ⟨.iadd 22 19 27 (.tmp 20), none, (some 22), false⟩,
               ⟨.fadd 23 (.tmp 22) 1, none, (some 23), false⟩,
               ⟨.storeE 0 23 none (.tmp 21), none, none, false⟩])
             (.seq (.ops [⟨.copy 24 (.tmp 1), none, (some 24), false⟩,
                ⟨.bin 25 .add (.tmp 24) (.const (.int .i64 1)), none, (some 25), false⟩,
                ⟨.copy 1 (.tmp 25), none, (some 1), false⟩])
              (.seq (.ops [⟨.copy 26 (.tmp 0), none, (some 26), false⟩,
                 ⟨.copy 27 (.tmp 5), none, (some 27), false⟩,
                 ⟨.copy 28 (.tmp 1), none, (some 28), false⟩,
                 ⟨.iadd 29 26 27 (.tmp 27), none, (some 29), false⟩,
                 ⟨.fadd 30 (.tmp 29) 2, none, (some 30), false⟩,
                 ⟨.storeE 0 30 none (.tmp 28), none, none, false⟩])
               (.seq (.ops [⟨.copy 31 (.tmp 1), none, (some 31), false⟩,
                  ⟨.bin 32 .add (.tmp 31) (.const (.int .i64 1)), none, (some 32), false⟩,
                  ⟨.copy 1 (.tmp 32), none, (some 1), false⟩])
                (.seq (.ops [⟨.copy 33 (.tmp 0), none, (some 33), false⟩,
                   ⟨.copy 34 (.tmp 5), none, (some 34), false⟩,
                   ⟨.copy 35 (.tmp 1), none, (some 35), false⟩,
                   ⟨.iadd 36 33 27 (.tmp 34), none, (some 36), false⟩,
                   ⟨.fadd 37 (.tmp 36) 3, none, (some 37), false⟩,
                   ⟨.storeE 0 37 none (.tmp 35), none, none, false⟩])
                 (.ops [⟨.copy 38 (.tmp 1), none, (some 38), false⟩,
                   ⟨.bin 39 .add (.tmp 38) (.const (.int .i64 1)), none, (some 39), false⟩,
                   ⟨.copy 1 (.tmp 39), none, (some 1), false⟩])))))))))
         (.ops [⟨.copy 10 (.tmp 5), none, (some 10), false⟩,
           ⟨.bin 11 .add (.tmp 10) (.const (.int .i64 1)), none, (some 11), false⟩,
           ⟨.copy 5 (.tmp 11), none, (some 5), false⟩]))))))
    (.seq (.ops [⟨.copy 40 (.tmp 1), none, (some 40), false⟩,
       ⟨.copy 4 (.tmp 40), none, (some 4), false⟩])
     (.ret [(.tmp 4), (.tmp 0)] [.none, (.slot 0)])))
theorem k62 : compileFn (E62) Try.f62 sg62 hs62 = some c62 := by kernel_rfl
/- loop.example/g01334/laws.markPuzzle -/
noncomputable def l23 (r62 : Rel) : Deps := [(62, sg62, r62)]
noncomputable def E23 (r62 : Rel) : Env := mkE Try.prog [0, 1, 2, 3] [] (l23 r62) []
noncomputable def hs23 : HS := []
noncomputable def c23 : Cmd :=
  .seq (.ops [⟨.boxm 2 (.tmp 0), none, (some 2), false⟩,
     ⟨.copy 4 (.const (.int .i64 0)), none, (some 4), false⟩])
   (.seq (.ops [⟨.fadd 5 (.tmp 2) 1, none, (some 5), false⟩,
      ⟨.loadB 6 (.tmp 5) none false, none, (some 6), false⟩,
      ⟨.copy 7 (.tmp 1), none, (some 7), false⟩,
      ⟨.callm 8 62 sg62 (.tmp 6) [(.tmp 7)] (.box 5 0), none, (some 8), false⟩,
      ⟨.copy 1 (.tmp 8), none, (some 1), false⟩])
    (.seq (.ops [⟨.copy 9 (.tmp 1), none, (some 9), false⟩,
       ⟨.copy 4 (.tmp 9), none, (some 4), false⟩])
     (.retm 2 2 (.ret [(.tmp 4), (.cell 2 (some 2) false)] [.none, (.box 2 2)]))))
theorem k23 (r62 : Rel) : compileFn (E23 r62) Try.f23 sg23 hs23 = some c23 := by kernel_rfl
/- loop.example/g01334/laws.markIntS -/
noncomputable def l22 : Deps := []
noncomputable def E22 : Env := mkE Try.prog [0, 1, 2, 3, 5] [] (l22) []
noncomputable def hs22 : HS := [[2, 3, 4, 6, 7, 8, 9, 10, 11, 12, 13, 14, 15, 16, 17, 18]]
noncomputable def c22 : Cmd :=
  .seq (.ops [⟨.copy 4 (.const (.int .i64 0)), none, (some 4), false⟩])
   (.seq (.seq (.ops [⟨.copy 5 (.const (.int .i64 0)), none, (some 5), false⟩])
     (.block 0 (.loop [true, true, false, false, false, true, false, false, false, false, false, false, false, false, false, false, false, false, false]
       (.seq (.seq (.ops [⟨.copy 6 (.tmp 5), none, (some 6), false⟩,
           ⟨.copy 7 (.tmp 0), none, (some 7), false⟩,
           ⟨.len 8 false (.tmp 7), none, (some 8), false⟩,
           ⟨.bin 9 .lss (.tmp 6) (.tmp 8), none, (some 9), false⟩])
         (.cond (.tmp 9)
          (.skip)
          (.exit 0)))
        (.seq (.block 1 (.seq (.ops [⟨.copy 12 (.tmp 0), none, (some 12), false⟩,
             ⟨.copy 13 (.tmp 5), none, (some 13), false⟩,
             ⟨.copy 14 (.tmp 1), none, (some 14), false⟩,
             ⟨.iadd 15 12 3 (.tmp 13), none, (some 15), false⟩,
             ⟨.storeE 0 15 none (.tmp 14), none, none, false⟩])
           (.ops [⟨.copy 16 (.tmp 1), none, (some 16), false⟩,
             ⟨.bin 17 .add (.tmp 16) (.const (.int .i64 1)), none, (some 17), false⟩,
             ⟨.copy 1 (.tmp 17), none, (some 1), false⟩])))
         (.ops [⟨.copy 10 (.tmp 5), none, (some 10), false⟩,
           ⟨.bin 11 .add (.tmp 10) (.const (.int .i64 1)), none, (some 11), false⟩,
           ⟨.copy 5 (.tmp 11), none, (some 5), false⟩]))))))
    (.seq (.ops [⟨.copy 18 (.tmp 1), none, (some 18), false⟩,
       ⟨.copy 4 (.tmp 18), none, (some 4), false⟩])
     (.ret [(.tmp 4), (.tmp 0)] [.none, (.slot 0)])))
theorem k22 : compileFn (E22) Try.f22 sg22 hs22 = some c22 := by kernel_rfl
/- loop.example/g01334/laws.heldIntS -/
noncomputable def l35 : Deps := []
noncomputable def E35 : Env := mkE Try.prog [0, 1, 2, 3, 5] [] (l35) []
noncomputable def hs35 : HS := [[2, 3, 4, 6, 7, 8, 9, 10, 11, 12, 13, 14, 15, 16, 17, 18, 19, 20]]
noncomputable def c35 : Cmd :=
  .seq (.ops [⟨.copy 4 (.const (.int .i64 0)), none, (some 4), false⟩])
   (.seq (.seq (.ops [⟨.copy 5 (.const (.int .i64 0)), none, (some 5), false⟩])
     (.block 0 (.loop [true, true, false, false, false, true, false, false, false, false, false, false, false, false, false, false, false, false, false, false, false]
       (.seq (.seq (.ops [⟨.copy 6 (.tmp 5), none, (some 6), false⟩,
           ⟨.copy 7 (.tmp 0), none, (some 7), false⟩,
           ⟨.len 8 false (.tmp 7), none, (some 8), false⟩,
           ⟨.bin 9 .lss (.tmp 6) (.tmp 8), none, (some 9), false⟩])
         (.cond (.tmp 9)
          (.skip)
          (.exit 0)))
        (.seq (.block 1 (.seq (.seq (.ops [⟨.copy 12 (.tmp 0), none, (some 12), false⟩,
              ⟨.copy 13 (.tmp 5), none, (some 13), false⟩,
              ⟨.iadd 14 12 3 (.tmp 13), none, (some 14), false⟩,
              ⟨.loadE 15 12 14 none true, none, (some 15), false⟩,
              ⟨.copy 16 (.tmp 1), none, (some 16), false⟩,
              ⟨.bin 17 .neq (.tmp 15) (.tmp 16), none, (some 17), false⟩])
            (.cond (.tmp 17)
             (.seq (.ops [⟨.copy 4 (.const (.int .i64 (-1))), none, (some 4), false⟩])
              (.ret [(.tmp 4)] [.none]))
             (.skip)))
           (.ops [⟨.copy 18 (.tmp 1), none, (some 18), false⟩,
             ⟨.bin 19 .add (.tmp 18) (.const (.int .i64 1)), none, (some 19), false⟩,
             ⟨.copy 1 (.tmp 19), none, (some 1), false⟩])))
         (.ops [⟨.copy 10 (.tmp 5), none, (some 10), false⟩,
           ⟨.bin 11 .add (.tmp 10) (.const (.int .i64 1)), none, (some 11), false⟩,
           ⟨.copy 5 (.tmp 11), none, (some 5), false⟩]))))))
    (.seq (.ops [⟨.copy 20 (.tmp 1), none, (some 20), false⟩,
       ⟨.copy 4 (.tmp 20), none, (some 4), false⟩])
     (.ret [(.tmp 4)] [.none])))
theorem k35 : compileFn (E35) Try.f35 sg35 hs35 = some c35 := by kernel_rfl
/- loop.example/g01334/laws.FnExactSureSizes -/
noncomputable def l11 (r25 r27 r43 r44 r18 r21 r23 r22 r35 : Rel) : Deps := [(25, sg25, r25), (27, sg27, r27), (43, sg43, r43), (44, sg44, r44), (18, sg18, r18), (21, sg21, r21), (23, sg23, r23), (22, sg22, r22), (35, sg35, r35)]
noncomputable def E11 (r25 r27 r43 r44 r18 r21 r23 r22 r35 : Rel) : Env := mkE Try.prog [0, 1, 3, 4, 5, 6, 7, 8, 9, 10, 11, 12, 13] [] (l11 r25 r27 r43 r44 r18 r21 r23 r22 r35) []
noncomputable def hs11 : HS := []
noncomputable def c11 : Cmd :=
  .seq (.ops [⟨.box 1 .sh (.tmp 0) .none, none, (some 1), false⟩,
     ⟨.copy 2 (.const (.bool false)), none, (some 2), false⟩])
   (.seq (.ops [⟨.copy 3 (.const (.int .i64 1048576)), none, (some 3), false⟩])
    (.seq (.ops [⟨.loadB 14 (.tmp 1) (some 2) false, none, (some 14), false⟩,
       ⟨.copy 15 (.tmp 3), none, (some 15), false⟩,
       ⟨.call (some 16) 25 sg25 [(.tmp 14), (.tmp 15)] [.none, .none], none, (some 16), false⟩,
       ⟨.copy 3 (.tmp 16), none, (some 3), false⟩])
     (.seq (.seq (.ops [⟨.copy 17 (.tmp 3), none, (some 17), false⟩,
         ⟨.bin 18 .lss (.tmp 17) (.const (.int .i64 0)), none, (some 18), false⟩])
       (.cond (.tmp 18)
        (.seq (.ops [⟨.copy 2 (.const (.bool true)), none, (some 2), false⟩])
         (.ret [(.tmp 2)] [.none]))
        (.skip)))
      (.seq (.ops [⟨.loadB 20 (.tmp 1) (some 2) false, none, (some 20), false⟩,
         ⟨.call (some 21) 27 sg27 [(.tmp 20)] [.none], none, (some 21), false⟩,
         ⟨.call (some 22) 43 sg43 [(.tmp 21)] [.none], none, (some 22), false⟩,
         ⟨.copy 19 (.tmp 22), none, (some 19), false⟩,
         ⟨.ext 23 19 0, none, (some 23), false⟩,
         ⟨.ext 24 19 1, none, (some 24), false⟩,
         ⟨.take 4 (.tmp 23) (.slot 23), none, (some 4), false⟩,
         ⟨.copy 5 (.tmp 24), none, (some 5), false⟩])
       (.seq (.ops [⟨.loadB 25 (.tmp 1) (some 2) false, none, (some 25), false⟩,
          ⟨.call (some 26) 27 sg27 [(.tmp 25)] [.none], none, (some 26), false⟩,
          ⟨.alloc 6 .own [(.int .i64 0), .nil], none, (some 6), false⟩,
          ⟨.storeB (.tmp 6) (.tmp 26) (some 2) (.slot 26), none, none, false⟩])
        (.seq (.ops [⟨.loadB 28 (.tmp 6) (some 2) false, none, (some 28), false⟩,
           ⟨.call (some 29) 44 sg44 [(.tmp 28)] [.none], none, (some 29), false⟩,
           ⟨.copy 27 (.tmp 29), none, (some 27), false⟩,
           ⟨.ext 30 27 0, none, (some 30), false⟩,
           ⟨.ext 31 27 1, none, (some 31), false⟩,
           ⟨.take 7 (.tmp 30) (.slot 30), none, (some 7), false⟩,
           ⟨.copy 8 (.tmp 31), none, (some 8), false⟩])
         (.seq (.seq (.ops [⟨.copy 32 (.tmp 7), none, (some 32), false⟩,
             ⟨.copy 33 (.tmp 4), none, (some 33), false⟩,
             ⟨.call (some 34) 18 sg18 [(.tmp 32), (.tmp 33)] [.none, .none], none, (some 34), false⟩,
             ⟨.un 35 .not (.tmp 34), none, (some 35), false⟩,
             ⟨.copy 36 (.tmp 35), none, (some 36), false⟩,
             ⟨.copy 37 (.tmp 8), (some (36, false)), (some 37), true⟩,
             ⟨.copy 38 (.tmp 5), (some (36, false)), (some 38), true⟩,
             ⟨.beq 39 true (.tmp 37) (.tmp 38), (some (36, false)), (some 39), true⟩,
             ⟨.pick 40 (.tmp 36) (.const (.bool true)) (.tmp 39), none, (some 40), false⟩])
           (.cond (.tmp 40)
            (.seq (.ops [⟨.copy 2 (.const (.bool false)), none, (some 2), false⟩])
             (.ret [(.tmp 2)] [.none]))
            (.skip)))
          (.seq (.seq (.ops [⟨.loadB 41 (.tmp 6) (some 2) false, none, (some 41), false⟩,
              ⟨.loadB 42 (.tmp 1) (some 2) false, none, (some 42), false⟩,
              ⟨.call (some 43) 27 sg27 [(.tmp 42)] [.none], none, (some 43), false⟩,
              ⟨.call (some 44) 21 sg21 [(.tmp 41), (.tmp 43)] [.none, .none], none, (some 44), false⟩,
              ⟨.un 45 .not (.tmp 44), none, (some 45), false⟩])
            (.cond (.tmp 45)
             (.seq (.ops [⟨.copy 2 (.const (.bool false)), none, (some 2), false⟩])
              (.ret [(.tmp 2)] [.none]))
             (.skip)))
           (.seq (.ops [⟨.copy 9 (.const (.int .i64 1)), none, (some 9), false⟩])
            (.seq (.ops [⟨.loadB 46 (.tmp 6) (some 2) false, none, (some 46), false⟩,
               ⟨.copy 47 (.tmp 9), none, (some 47), false⟩,
               ⟨.callm 48 23 sg23 (.tmp 46) [(.tmp 47)] (.box 6 2), none, (some 48), false⟩,
               ⟨.copy 9 (.tmp 48), none, (some 9), false⟩])
             (.seq (.seq (.ops [⟨.copy 49 (.tmp 9), none, (some 49), false⟩,
                 ⟨.bin 50 .lss (.tmp 49) (.const (.int .i64 0)), none, (some 50), false⟩,
                 ⟨.copy 51 (.tmp 50), none, (some 51), false⟩,
                 ⟨.copy 52 (.tmp 7), (some (51, false)), (some 52), false⟩,
                 ⟨.copy 53 (.tmp 4), (some (51, false)), (some 53), false⟩,
                 ⟨.call (some 54) 18 sg18 [(.tmp 52), (.tmp 53)] [.none, .none], (some (51, false)), (some 54), true⟩,
                 ⟨.un 55 .not (.tmp 54), (some (51, false)), (some 55), true⟩,
                 ⟨.pick 56 (.tmp 51) (.const (.bool true)) (.tmp 55), none, (some 56), false⟩,
                 ⟨.copy 57 (.tmp 56), none, (some 57), false⟩,
                 ⟨.copy 58 (.tmp 8), (some (57, false)), (some 58), true⟩,
                 ⟨.copy 59 (.tmp 5), (some (57, false)), (some 59), true⟩,
                 ⟨.beq 60 true (.tmp 58) (.tmp 59), (some (57, false)), (some 60), true⟩,
                 ⟨.pick 61 (.tmp 57) (.const (.bool true)) (.tmp 60), none, (some 61), false⟩])
               (.cond (.tmp 61)
                (.seq (.ops [⟨.copy 2 (.const (.bool false)), none, (some 2), false⟩])
                 (.ret [(.tmp 2)] [.none]))
                (.skip)))
              (.seq (.ops [⟨.copy 10 (.const (.int .i64 1)), none, (some 10), false⟩])
               (.seq (.ops [⟨.copy 62 (.tmp 7), none, (some 62), false⟩,
                  ⟨.copy 63 (.tmp 10), none, (some 63), false⟩,
                  ⟨.callm 64 22 sg22 (.tmp 62) [(.tmp 63)] (.slot 7), none, (some 64), false⟩,
                  ⟨.copy 10 (.tmp 64), none, (some 10), false⟩])
                (.seq (.ops [⟨.copy 11 (.const (.int .i64 1)), none, (some 11), false⟩])
                 (.seq (.ops [⟨.copy 65 (.tmp 7), none, (some 65), false⟩,
                    ⟨.copy 66 (.tmp 11), none, (some 66), false⟩,
                    ⟨.call (some 67) 35 sg35 [(.tmp 65), (.tmp 66)] [.none, .none], none, (some 67), false⟩,
                    ⟨.copy 11 (.tmp 67), none, (some 11), false⟩])
                  (.seq (.seq (.ops [⟨.copy 68 (.tmp 11), none, (some 68), false⟩,
                      ⟨.bin 69 .lss (.tmp 68) (.const (.int .i64 0)), none, (some 69), false⟩])
                    (.cond (.tmp 69)
                     (.seq (.ops [⟨.copy 2 (.const (.bool false)), none, (some 2), false⟩])
                      (.ret [(.tmp 2)] [.none]))
                     (.skip)))
                   (.seq (.seq (.ops [⟨.copy 70 (.tmp 11), none, (some 70), false⟩,
                       ⟨.copy 71 (.tmp 10), none, (some 71), false⟩,
                       ⟨.bin 72 .neq (.tmp 70) (.tmp 71), none, (some 72), false⟩])
                     (.cond (.tmp 72)
                      (.seq (.ops [⟨.copy 2 (.const (.bool false)), none, (some 2), false⟩])
                       (.ret [(.tmp 2)] [.none]))
                      (.skip)))
                    (.seq (.ops [⟨.loadB 74 (.tmp 1) (some 2) false, none, (some 74), false⟩,
                       ⟨.call (some 75) 27 sg27 [(.tmp 74)] [.none], none, (some 75), false⟩,
                       ⟨.call (some 76) 44 sg44 [(.tmp 75)] [.none], none, (some 76), false⟩,
                       ⟨.copy 73 (.tmp 76), none, (some 73), false⟩,
                       ⟨.ext 77 73 0, none, (some 77), false⟩,
                       ⟨.ext 78 73 1, none, (some 78), false⟩,
                       ⟨.take 12 (.tmp 77) (.slot 77), none, (some 12), false⟩,
                       ⟨.copy 13 (.tmp 78), none, (some 13), false⟩])
                     (.seq (.seq (.ops [⟨.copy 79 (.tmp 12), none, (some 79), false⟩,
                         ⟨.copy 80 (.tmp 4), none, (some 80), false⟩,
                         ⟨.call (some 81) 18 sg18 [(.tmp 79), (.tmp 80)] [.none, .none], none, (some 81), false⟩,
                         ⟨.un 82 .not (.tmp 81), none, (some 82), false⟩,
                         ⟨.copy 83 (.tmp 82), none, (some 83), false⟩,
                         ⟨.copy 84 (.tmp 13), (some (83, false)), (some 84), true⟩,
                         ⟨.copy 85 (.tmp 5), (some (83, false)), (some 85), true⟩,
                         ⟨.beq 86 true (.tmp 84) (.tmp 85), (some (83, false)), (some 86), true⟩,
                         ⟨.pick 87 (.tmp 83) (.const (.bool true)) (.tmp 86), none, (some 87), false⟩])
                       (.cond (.tmp 87)
                        (.seq (.ops [⟨.copy 2 (.const (.bool false)), none, (some 2), false⟩])
                         (.ret [(.tmp 2)] [.none]))
                        (.skip)))
                      (.seq (.ops [⟨.copy 11 (.const (.int .i64 1)), none, (some 11), false⟩])
                       (.seq (.ops [⟨.copy 88 (.tmp 7), none, (some 88), false⟩,
                          ⟨.copy 89 (.tmp 11), none, (some 89), false⟩,
                          ⟨.call (some 90) 35 sg35 [(.tmp 88), (.tmp 89)] [.none, .none], none, (some 90), false⟩,
                          ⟨.copy 11 (.tmp 90), none, (some 11), false⟩])
                        (.seq (.seq (.ops [⟨.copy 91 (.tmp 11), none, (some 91), false⟩,
                            ⟨.bin 92 .lss (.tmp 91) (.const (.int .i64 0)), none, (some 92), false⟩])
                          (.cond (.tmp 92)
                           (.seq (.ops [⟨.copy 2 (.const (.bool false)), none, (some 2), false⟩])
                            (.ret [(.tmp 2)] [.none]))
                           (.skip)))
                         (.seq (.seq (.ops [⟨.copy 93 (.tmp 11), none, (some 93), false⟩,
                             ⟨.copy 94 (.tmp 10), none, (some 94), false⟩,
                             ⟨.bin 95 .neq (.tmp 93) (.tmp 94), none, (some 95), false⟩])
                           (.cond (.tmp 95)
                            (.seq (.ops [⟨.copy 2 (.const (.bool false)), none, (some 2), false⟩])
                             (.ret [(.tmp 2)] [.none]))
                            (.skip)))
                          (.seq (.ops [⟨.copy 2 (.const (.bool true)), none, (some 2), false⟩])
                           (.ret [(.tmp 2)] [.none])))))))))))))))))))))))))
theorem k11 (r25 r27 r43 r44 r18 r21 r23 r22 r35 : Rel) : compileFn (E11 r25 r27 r43 r44 r18 r21 r23 r22 r35) Try.f11 sg11 hs11 = some c11 := by kernel_rfl
/- loop.example/g01334/spec.FirstSolution -/
noncomputable def l36 (r65 r66 : Rel) : Deps := [(65, sg65, r65), (66, sg66, r66)]
noncomputable def E36 (r65 r66 : Rel) : Env := mkE Try.prog [0, 1, 4] [(18, .own)] (l36 r65 r66) []
noncomputable def hs36 : HS := []
noncomputable def c36 : Cmd :=
  .seq (.ops [⟨.box 1 .sh (.tmp 0) .none, none, (some 1), false⟩,
     ⟨.copy 2 (.const (.slice none 0 0)), none, (some 2), false⟩,
     ⟨.copy 3 (.const (.bool false)), none, (some 3), false⟩])
   (.seq (.seq (.ops [⟨.loadB 5 (.tmp 1) (some 2) false, none, (some 5), false⟩,
       ⟨.call (some 6) 65 sg65 [(.tmp 5)] [.none], none, (some 6), false⟩,
       ⟨.un 7 .not (.tmp 6), none, (some 7), false⟩])
     (.cond (.tmp 7)
      (.seq (.ops [⟨.copy 2 (.const (.slice none 0 0)), none, (some 2), false⟩,
         ⟨.copy 3 (.const (.bool false)), none, (some 3), false⟩])
       (.ret [(.tmp 2), (.tmp 3)] [.none, .none]))
      (.skip)))
    (.seq (.ops [⟨.fadd 8 (.tmp 1) 0, none, (some 8), false⟩,
       ⟨.loadB 9 (.tmp 8) none true, none, (some 9), false⟩,
       ⟨.fadd 10 (.tmp 1) 1, none, (some 10), false⟩,
       ⟨.loadB 11 (.tmp 10) none false, none, (some 11), false⟩,
       ⟨.call (some 12) 66 sg66 [(.tmp 9), (.tmp 11)] [.none, .none], none, (some 12), false⟩,
       ⟨.take 4 (.tmp 12) (.slot 12), none, (some 4), false⟩])
     (.seq (.seq (.ops [⟨.copy 13 (.tmp 4), none, (some 13), false⟩,
         ⟨.len 14 false (.tmp 13), none, (some 14), false⟩,
         ⟨.bin 15 .eql (.tmp 14) (.const (.int .i64 0)), none, (some 15), false⟩])
       (.cond (.tmp 15)
        (.seq (.ops [⟨.copy 2 (.const (.slice none 0 0)), none, (some 2), false⟩,
           ⟨.copy 3 (.const (.bool false)), none, (some 3), false⟩])
         (.ret [(.tmp 2), (.tmp 3)] [.none, .none]))
        (.skip)))
      (.seq (.ops [⟨.copy 16 (.tmp 4), none, (some 16), false⟩,
         ⟨.iadd 17 16 24 (.const (.int .i64 0)), none, (some 17), false⟩,
         ⟨.loadE 18 16 17 none false, none, (some 18), false⟩,
         ⟨.copy 2 (.tmp 18), none, (some 2), false⟩,
         ⟨.copy 3 (.const (.bool true)), none, (some 3), false⟩])
       (.ret [(.tmp 2), (.tmp 3)] [(.elem 4 17), .none])))))
theorem k36 (r65 r66 : Rel) : compileFn (E36 r65 r66) Try.f36 sg36 hs36 = some c36 := by kernel_rfl
/- loop.example/g01334/impl.FirstSolution -/
noncomputable def l37 (r39 : Rel) : Deps := [(39, sg39, r39)]
noncomputable def E37 (r39 : Rel) : Env := mkE Try.prog [0, 1, 4, 5] [(16, .own)] (l37 r39) []
noncomputable def hs37 : HS := []
noncomputable def c37 : Cmd :=
  .seq (.ops [⟨.box 1 .sh (.tmp 0) .none, none, (some 1), false⟩,
     ⟨.copy 2 (.const (.slice none 0 0)), none, (some 2), false⟩,
     ⟨.copy 3 (.const (.bool false)), none, (some 3), false⟩])
   (.seq (.ops [⟨.loadB 7 (.tmp 1) (some 2) false, none, (some 7), false⟩,
      ⟨.call (some 8) 39 sg39 [(.tmp 7)] [.none], none, (some 8), false⟩,
      ⟨.copy 6 (.tmp 8), none, (some 6), false⟩,
      ⟨.ext 9 6 0, none, (some 9), false⟩,
      ⟨.ext 10 6 1, none, (some 10), false⟩,
      ⟨.take 4 (.tmp 9) (.slot 9), none, (some 4), false⟩,
      ⟨.copy 5 (.tmp 10), none, (some 5), false⟩])
    (.seq (.seq (.ops [⟨.copy 11 (.tmp 4), none, (some 11), false⟩,
        ⟨.len 12 false (.tmp 11), none, (some 12), false⟩,
        ⟨.bin 13 .eql (.tmp 12) (.const (.int .i64 0)), none, (some 13), false⟩])
      (.cond (.tmp 13)
       (.seq (.ops [⟨.copy 2 (.const (.slice none 0 0)), none, (some 2), false⟩,
          ⟨.copy 3 (.const (.bool false)), none, (some 3), false⟩])
        (.ret [(.tmp 2), (.tmp 3)] [.none, .none]))
       (.skip)))
     (.seq (.ops [⟨.copy 14 (.tmp 4), none, (some 14), false⟩,
        ⟨.iadd 15 14 24 (.const (.int .i64 0)), none, (some 15), false⟩,
        ⟨.loadE 16 14 15 none false, none, (some 16), false⟩,
        ⟨.copy 2 (.tmp 16), none, (some 2), false⟩,
        ⟨.copy 3 (.const (.bool true)), none, (some 3), false⟩])
      (.ret [(.tmp 2), (.tmp 3)] [(.elem 4 15), .none]))))
theorem k37 (r39 : Rel) : compileFn (E37 r39) Try.f37 sg37 hs37 = some c37 := by kernel_rfl
/- loop.example/g01334/laws.FnExactFirstSolution -/
noncomputable def l9 (r25 r27 r36 r37 r18 r21 r23 r22 r35 : Rel) : Deps := [(25, sg25, r25), (27, sg27, r27), (36, sg36, r36), (37, sg37, r37), (18, sg18, r18), (21, sg21, r21), (23, sg23, r23), (22, sg22, r22), (35, sg35, r35)]
noncomputable def E9 (r25 r27 r36 r37 r18 r21 r23 r22 r35 : Rel) : Env := mkE Try.prog [0, 1, 3, 4, 5, 6, 7, 8, 9, 10, 11, 12, 13] [] (l9 r25 r27 r36 r37 r18 r21 r23 r22 r35) []
noncomputable def hs9 : HS := []
noncomputable def c9 : Cmd :=
  .seq (.ops [⟨.box 1 .sh (.tmp 0) .none, none, (some 1), false⟩,
     ⟨.copy 2 (.const (.bool false)), none, (some 2), false⟩])
   (.seq (.ops [⟨.copy 3 (.const (.int .i64 1048576)), none, (some 3), false⟩])
    (.seq (.ops [⟨.loadB 14 (.tmp 1) (some 2) false, none, (some 14), false⟩,
       ⟨.copy 15 (.tmp 3), none, (some 15), false⟩,
       ⟨.call (some 16) 25 sg25 [(.tmp 14), (.tmp 15)] [.none, .none], none, (some 16), false⟩,
       ⟨.copy 3 (.tmp 16), none, (some 3), false⟩])
     (.seq (.seq (.ops [⟨.copy 17 (.tmp 3), none, (some 17), false⟩,
         ⟨.bin 18 .lss (.tmp 17) (.const (.int .i64 0)), none, (some 18), false⟩])
       (.cond (.tmp 18)
        (.seq (.ops [⟨.copy 2 (.const (.bool true)), none, (some 2), false⟩])
         (.ret [(.tmp 2)] [.none]))
        (.skip)))
      (.seq (.ops [⟨.loadB 20 (.tmp 1) (some 2) false, none, (some 20), false⟩,
         ⟨.call (some 21) 27 sg27 [(.tmp 20)] [.none], none, (some 21), false⟩,
         ⟨.call (some 22) 36 sg36 [(.tmp 21)] [.none], none, (some 22), false⟩,
         ⟨.copy 19 (.tmp 22), none, (some 19), false⟩,
         ⟨.ext 23 19 0, none, (some 23), false⟩,
         ⟨.ext 24 19 1, none, (some 24), false⟩,
         ⟨.take 4 (.tmp 23) (.slot 23), none, (some 4), false⟩,
         ⟨.copy 5 (.tmp 24), none, (some 5), false⟩])
       (.seq (.ops [⟨.loadB 25 (.tmp 1) (some 2) false, none, (some 25), false⟩,
          ⟨.call (some 26) 27 sg27 [(.tmp 25)] [.none], none, (some 26), false⟩,
          ⟨.alloc 6 .own [(.int .i64 0), .nil], none, (some 6), false⟩,
          ⟨.storeB (.tmp 6) (.tmp 26) (some 2) (.slot 26), none, none, false⟩])
        (.seq (.ops [⟨.loadB 28 (.tmp 6) (some 2) false, none, (some 28), false⟩,
           ⟨.call (some 29) 37 sg37 [(.tmp 28)] [.none], none, (some 29), false⟩,
           ⟨.copy 27 (.tmp 29), none, (some 27), false⟩,
           ⟨.ext 30 27 0, none, (some 30), false⟩,
           ⟨.ext 31 27 1, none, (some 31), false⟩,
           ⟨.take 7 (.tmp 30) (.slot 30), none, (some 7), false⟩,
           ⟨.copy 8 (.tmp 31), none, (some 8), false⟩])
         (.seq (.seq (.ops [⟨.copy 32 (.tmp 7), none, (some 32), false⟩,
             ⟨.copy 33 (.tmp 4), none, (some 33), false⟩,
             ⟨.call (some 34) 18 sg18 [(.tmp 32), (.tmp 33)] [.none, .none], none, (some 34), false⟩,
             ⟨.un 35 .not (.tmp 34), none, (some 35), false⟩,
             ⟨.copy 36 (.tmp 35), none, (some 36), false⟩,
             ⟨.copy 37 (.tmp 8), (some (36, false)), (some 37), true⟩,
             ⟨.copy 38 (.tmp 5), (some (36, false)), (some 38), true⟩,
             ⟨.beq 39 true (.tmp 37) (.tmp 38), (some (36, false)), (some 39), true⟩,
             ⟨.pick 40 (.tmp 36) (.const (.bool true)) (.tmp 39), none, (some 40), false⟩])
           (.cond (.tmp 40)
            (.seq (.ops [⟨.copy 2 (.const (.bool false)), none, (some 2), false⟩])
             (.ret [(.tmp 2)] [.none]))
            (.skip)))
          (.seq (.seq (.ops [⟨.loadB 41 (.tmp 6) (some 2) false, none, (some 41), false⟩,
              ⟨.loadB 42 (.tmp 1) (some 2) false, none, (some 42), false⟩,
              ⟨.call (some 43) 27 sg27 [(.tmp 42)] [.none], none, (some 43), false⟩,
              ⟨.call (some 44) 21 sg21 [(.tmp 41), (.tmp 43)] [.none, .none], none, (some 44), false⟩,
              ⟨.un 45 .not (.tmp 44), none, (some 45), false⟩])
            (.cond (.tmp 45)
             (.seq (.ops [⟨.copy 2 (.const (.bool false)), none, (some 2), false⟩])
              (.ret [(.tmp 2)] [.none]))
             (.skip)))
           (.seq (.ops [⟨.copy 9 (.const (.int .i64 1)), none, (some 9), false⟩])
            (.seq (.ops [⟨.loadB 46 (.tmp 6) (some 2) false, none, (some 46), false⟩,
               ⟨.copy 47 (.tmp 9), none, (some 47), false⟩,
               ⟨.callm 48 23 sg23 (.tmp 46) [(.tmp 47)] (.box 6 2), none, (some 48), false⟩,
               ⟨.copy 9 (.tmp 48), none, (some 9), false⟩])
             (.seq (.seq (.ops [⟨.copy 49 (.tmp 9), none, (some 49), false⟩,
                 ⟨.bin 50 .lss (.tmp 49) (.const (.int .i64 0)), none, (some 50), false⟩,
                 ⟨.copy 51 (.tmp 50), none, (some 51), false⟩,
                 ⟨.copy 52 (.tmp 7), (some (51, false)), (some 52), false⟩,
                 ⟨.copy 53 (.tmp 4), (some (51, false)), (some 53), false⟩,
                 ⟨.call (some 54) 18 sg18 [(.tmp 52), (.tmp 53)] [.none, .none], (some (51, false)), (some 54), true⟩,
                 ⟨.un 55 .not (.tmp 54), (some (51, false)), (some 55), true⟩,
                 ⟨.pick 56 (.tmp 51) (.const (.bool true)) (.tmp 55), none, (some 56), false⟩,
                 ⟨.copy 57 (.tmp 56), none, (some 57), false⟩,
                 ⟨.copy 58 (.tmp 8), (some (57, false)), (some 58), true⟩,
                 ⟨.copy 59 (.tmp 5), (some (57, false)), (some 59), true⟩,
                 ⟨.beq 60 true (.tmp 58) (.tmp 59), (some (57, false)), (some 60), true⟩,
                 ⟨.pick 61 (.tmp 57) (.const (.bool true)) (.tmp 60), none, (some 61), false⟩])
               (.cond (.tmp 61)
                (.seq (.ops [⟨.copy 2 (.const (.bool false)), none, (some 2), false⟩])
                 (.ret [(.tmp 2)] [.none]))
                (.skip)))
              (.seq (.ops [⟨.copy 10 (.const (.int .i64 1)), none, (some 10), false⟩])
               (.seq (.ops [⟨.copy 62 (.tmp 7), none, (some 62), false⟩,
                  ⟨.copy 63 (.tmp 10), none, (some 63), false⟩,
                  ⟨.callm 64 22 sg22 (.tmp 62) [(.tmp 63)] (.slot 7), none, (some 64), false⟩,
                  ⟨.copy 10 (.tmp 64), none, (some 10), false⟩])
                (.seq (.ops [⟨.copy 11 (.const (.int .i64 1)), none, (some 11), false⟩])
                 (.seq (.ops [⟨.copy 65 (.tmp 7), none, (some 65), false⟩,
                    ⟨.copy 66 (.tmp 11), none, (some 66), false⟩,
                    ⟨.call (some 67) 35 sg35 [(.tmp 65), (.tmp 66)] [.none, .none], none, (some 67), false⟩,
                    ⟨.copy 11 (.tmp 67), none, (some 11), false⟩])
                  (.seq (.seq (.ops [⟨.copy 68 (.tmp 11), none, (some 68), false⟩,
                      ⟨.bin 69 .lss (.tmp 68) (.const (.int .i64 0)), none, (some 69), false⟩])
                    (.cond (.tmp 69)
                     (.seq (.ops [⟨.copy 2 (.const (.bool false)), none, (some 2), false⟩])
                      (.ret [(.tmp 2)] [.none]))
                     (.skip)))
                   (.seq (.seq (.ops [⟨.copy 70 (.tmp 11), none, (some 70), false⟩,
                       ⟨.copy 71 (.tmp 10), none, (some 71), false⟩,
                       ⟨.bin 72 .neq (.tmp 70) (.tmp 71), none, (some 72), false⟩])
                     (.cond (.tmp 72)
                      (.seq (.ops [⟨.copy 2 (.const (.bool false)), none, (some 2), false⟩])
                       (.ret [(.tmp 2)] [.none]))
                      (.skip)))
                    (.seq (.ops [⟨.loadB 74 (.tmp 1) (some 2) false, none, (some 74), false⟩,
                       ⟨.call (some 75) 27 sg27 [(.tmp 74)] [.none], none, (some 75), false⟩,
                       ⟨.call (some 76) 37 sg37 [(.tmp 75)] [.none], none, (some 76), false⟩,
                       ⟨.copy 73 (.tmp 76), none, (some 73), false⟩,
                       ⟨.ext 77 73 0, none, (some 77), false⟩,
                       ⟨.ext 78 73 1, none, (some 78), false⟩,
                       ⟨.take 12 (.tmp 77) (.slot 77), none, (some 12), false⟩,
                       ⟨.copy 13 (.tmp 78), none, (some 13), false⟩])
                     (.seq (.seq (.ops [⟨.copy 79 (.tmp 12), none, (some 79), false⟩,
                         ⟨.copy 80 (.tmp 4), none, (some 80), false⟩,
                         ⟨.call (some 81) 18 sg18 [(.tmp 79), (.tmp 80)] [.none, .none], none, (some 81), false⟩,
                         ⟨.un 82 .not (.tmp 81), none, (some 82), false⟩,
                         ⟨.copy 83 (.tmp 82), none, (some 83), false⟩,
                         ⟨.copy 84 (.tmp 13), (some (83, false)), (some 84), true⟩,
                         ⟨.copy 85 (.tmp 5), (some (83, false)), (some 85), true⟩,
                         ⟨.beq 86 true (.tmp 84) (.tmp 85), (some (83, false)), (some 86), true⟩,
                         ⟨.pick 87 (.tmp 83) (.const (.bool true)) (.tmp 86), none, (some 87), false⟩])
                       (.cond (.tmp 87)
                        (.seq (.ops [⟨.copy 2 (.const (.bool false)), none, (some 2), false⟩])
                         (.ret [(.tmp 2)] [.none]))
                        (.skip)))
                      (.seq (.ops [⟨.copy 11 (.const (.int .i64 1)), none, (some 11), false⟩])
                       (.seq (.ops [⟨.copy 88 (.tmp 7), none, (some 88), false⟩,
                          ⟨.copy 89 (.tmp 11), none, (some 89), false⟩,
                          ⟨.call (some 90) 35 sg35 [(.tmp 88), (.tmp 89)] [.none, .none], none, (some 90), false⟩,
                          ⟨.copy 11 (.tmp 90), none, (some 11), false⟩])
                        (.seq (.seq (.ops [⟨.copy 91 (.tmp 11), none, (some 91), false⟩,
                            ⟨.bin 92 .lss (.tmp 91) (.const (.int .i64 0)), none, (some 92), false⟩])
                          (.cond (.tmp 92)
                           (.seq (.ops [⟨.copy 2 (.const (.bool false)), none, (some 2), false⟩])
                            (.ret [(.tmp 2)] [.none]))
                           (.skip)))
                         (.seq (.seq (.ops [⟨.copy 93 (.tmp 11), none, (some 93), false⟩,
                             ⟨.copy 94 (.tmp 10), none, (some 94), false⟩,
                             ⟨.bin 95 .neq (.tmp 93) (.tmp 94), none, (some 95), false⟩])
                           (.cond (.tmp 95)
                            (.seq (.ops [⟨.copy 2 (.const (.bool false)), none, (some 2), false⟩])
                             (.ret [(.tmp 2)] [.none]))
                            (.skip)))
                          (.seq (.ops [⟨.copy 2 (.const (.bool true)), none, (some 2), false⟩])
                           (.ret [(.tmp 2)] [.none])))))))))))))))))))))))))
theorem k9 (r25 r27 r36 r37 r18 r21 r23 r22 r35 : Rel) : compileFn (E9 r25 r27 r36 r37 r18 r21 r23 r22 r35) Try.f9 sg9 hs9 = some c9 := by kernel_rfl
/- loop.example/g01334/spec.Solutions -/
noncomputable def l38 (r65 r66 : Rel) : Deps := [(65, sg65, r65), (66, sg66, r66)]
noncomputable def E38 (r65 r66 : Rel) : Env := mkE Try.prog [0, 1] [] (l38 r65 r66) []
noncomputable def hs38 : HS := []
noncomputable def c38 : Cmd :=
  .seq (.ops [⟨.box 1 .sh (.tmp 0) .none, none, (some 1), false⟩,
     ⟨.copy 2 (.const (.slice none 0 0)), none, (some 2), false⟩,
     ⟨.copy 3 (.const (.bool false)), none, (some 3), false⟩])
   (.seq (.seq (.ops [⟨.loadB 4 (.tmp 1) (some 2) false, none, (some 4), false⟩,
       ⟨.call (some 5) 65 sg65 [(.tmp 4)] [.none], none, (some 5), false⟩,
       ⟨.un 6 .not (.tmp 5), none, (some 6), false⟩])
     (.cond (.tmp 6)
      (.seq (.ops [⟨.copy 2 (.const (.slice none 0 0)), none, (some 2), false⟩,
         ⟨.copy 3 (.const (.bool false)), none, (some 3), false⟩])
       (.ret [(.tmp 2), (.tmp 3)] [.none, .none]))
      (.skip)))
    (.seq (.ops [⟨.fadd 7 (.tmp 1) 0, none, (some 7), false⟩,
       ⟨.loadB 8 (.tmp 7) none true, none, (some 8), false⟩,
       ⟨.fadd 9 (.tmp 1) 1, none, (some 9), false⟩,
       ⟨.loadB 10 (.tmp 9) none false, none, (some 10), false⟩,
       ⟨.call (some 11) 66 sg66 [(.tmp 8), (.tmp 10)] [.none, .none], none, (some 11), false⟩,
       ⟨.take 2 (.tmp 11) (.slot 11), none, (some 2), false⟩,
       ⟨.copy 3 (.const (.bool true)), none, (some 3), false⟩])
     (.ret [(.tmp 2), (.tmp 3)] [(.slot 2), .none])))
theorem k38 (r65 r66 : Rel) : compileFn (E38 r65 r66) Try.f38 sg38 hs38 = some c38 := by kernel_rfl
/- loop.example/g01334/laws.eqIntSS -/
noncomputable def l40 (r18 : Rel) : Deps := [(18, sg18, r18)]
noncomputable def E40 (r18 : Rel) : Env := mkE Try.prog [0, 1, 2, 3, 5] [] (l40 r18) []
noncomputable def hs40 : HS := [[2, 3, 4, 6, 7, 8, 9, 10, 11, 12, 13, 14, 15, 16, 17, 18, 19, 20, 21, 22, 23, 24, 25, 26]]
noncomputable def c40 : Cmd :=
  .seq (.ops [⟨.copy 4 (.const (.bool false)), none, (some 4), false⟩])
   (.seq (.seq (.ops [⟨.copy 6 (.tmp 0), none, (some 6), false⟩,
       ⟨.len 7 false (.tmp 6), none, (some 7), false⟩,
       ⟨.copy 8 (.tmp 1), none, (some 8), false⟩,
       ⟨.len 9 false (.tmp 8), none, (some 9), false⟩,
       ⟨.bin 10 .neq (.tmp 7) (.tmp 9), none, (some 10), false⟩])
     (.cond (.tmp 10)
      (.seq (.ops [⟨.copy 4 (.const (.bool false)), none, (some 4), false⟩])
       (.ret [(.tmp 4)] [.none]))
      (.skip)))
    (.seq (.seq (.ops [⟨.copy 5 (.const (.int .i64 0)), none, (some 5), false⟩])
      (.block 0 (.loop [true, true, false, false, false, true, false, false, false, false, false, false, false, false, false, false, false, false, false, false, false, false, false, false, false, false, false]
        (.seq (.seq (.ops [⟨.copy 11 (.tmp 5), none, (some 11), false⟩,
            ⟨.copy 12 (.tmp 0), none, (some 12), false⟩,
            ⟨.len 13 false (.tmp 12), none, (some 13), false⟩,
            ⟨.bin 14 .lss (.tmp 11) (.tmp 13), none, (some 14), false⟩])
          (.cond (.tmp 14)
           (.skip)
           (.exit 0)))
         (.seq (.block 1 (.seq (.ops [⟨.copy 17 (.tmp 0), none, (some 17), false⟩,
              ⟨.copy 18 (.tmp 5), none, (some 18), false⟩,
              ⟨.iadd 19 17 24 (.tmp 18), none, (some 19), false⟩,
              ⟨.loadE 20 17 19 none false, none, (some 20), false⟩,
              ⟨.copy 21 (.tmp 1), none, (some 21), false⟩,
              ⟨.copy 22 (.tmp 5), none, (some 22), false⟩,
              ⟨.iadd 23 21 24 (.tmp 22), none, (some 23), false⟩,
              ⟨.loadE 24 21 23 none false, none, (some 24), false⟩,
              ⟨.call (some 25) 18 sg18 [(.tmp 20), (.tmp 24)] [.none, .none], none, (some 25), false⟩,
              ⟨.un 26 .not (.tmp 25), none, (some 26), false⟩])
            (.cond (.tmp 26)
             (.seq (.ops [⟨.copy 4 (.const (.bool false)), none, (some 4), false⟩])
              (.ret [(.tmp 4)] [.none]))
             (.skip))))
          (.ops [⟨.copy 15 (.tmp 5), none, (some 15), false⟩,
            ⟨.bin 16 .add (.tmp 15) (.const (.int .i64 1)), none, (some 16), false⟩,
            ⟨.copy 5 (.tmp 16), none, (some 5), false⟩]))))))
     (.seq (.ops [⟨.copy 4 (.const (.bool true)), none, (some 4), false⟩])
      (.ret [(.tmp 4)] [.none]))))
theorem k40 (r18 : Rel) : compileFn (E40 r18) Try.f40 sg40 hs40 = some c40 := by kernel_rfl
/- loop.example/g01334/laws.markIntSS -/
noncomputable def l41 (r22 : Rel) : Deps := [(22, sg22, r22)]
noncomputable def E41 (r22 : Rel) : Env := mkE Try.prog [0, 1, 2, 3, 5] [(15, .own)] (l41 r22) []
noncomputable def hs41 : HS := [[2, 3, 4, 6, 7, 8, 9, 10, 11, 12, 13, 14, 15, 16, 17, 18]]
noncomputable def c41 : Cmd :=
  .seq (.ops [⟨.copy 4 (.const (.int .i64 0)), none, (some 4), false⟩])
   (.seq (.seq (.ops [⟨.copy 5 (.const (.int .i64 0)), none, (some 5), false⟩])
     (.block 0 (.loop [true, true, false, false, false, true, false, false, false, false, false, false, false, false, false, false, false, false, false]
       (.seq (.seq (.ops [⟨.copy 6 (.tmp 5), none, (some 6), false⟩,
           ⟨.copy 7 (.tmp 0), none, (some 7), false⟩,
           ⟨.len 8 false (.tmp 7), none, (some 8), false⟩,
           ⟨.bin 9 .lss (.tmp 6) (.tmp 8), none, (some 9), false⟩])
         (.cond (.tmp 9)
          (.skip)
          (.exit 0)))
        (.seq (.block 1 (.ops [⟨.copy 12 (.tmp 0), none, (some 12), false⟩,
            ⟨.copy 13 (.tmp 5), none, (some 13), false⟩,
            ⟨.iadd 14 12 24 (.tmp 13), none, (some 14), false⟩,
            ⟨.loadE 15 12 14 none false, none, (some 15), false⟩,
            ⟨.copy 16 (.tmp 1), none, (some 16), false⟩,
            ⟨.callm 17 22 sg22 (.tmp 15) [(.tmp 16)] (.elem 0 14), none, (some 17), false⟩,
            ⟨.copy 1 (.tmp 17), none, (some 1), false⟩]))
         (.ops [⟨.copy 10 (.tmp 5), none, (some 10), false⟩,
           ⟨.bin 11 .add (.tmp 10) (.const (.int .i64 1)), none, (some 11), false⟩,
           ⟨.copy 5 (.tmp 11), none, (some 5), false⟩]))))))
    (.seq (.ops [⟨.copy 18 (.tmp 1), none, (some 18), false⟩,
       ⟨.copy 4 (.tmp 18), none, (some 4), false⟩])
     (.ret [(.tmp 4), (.tmp 0)] [.none, (.slot 0)])))
theorem k41 (r22 : Rel) : compileFn (E41 r22) Try.f41 sg41 hs41 = some c41 := by kernel_rfl
/- loop.example/g01334/laws.heldIntSS -/
noncomputable def l42 (r35 : Rel) : Deps := [(35, sg35, r35)]
noncomputable def E42 (r35 : Rel) : Env := mkE Try.prog [0, 1, 2, 3, 5] [] (l42 r35) []
noncomputable def hs42 : HS := [[2, 3, 4, 6, 7, 8, 9, 10, 11, 12, 13, 14, 15, 16, 17, 18, 19, 20]]
noncomputable def c42 : Cmd :=
  .seq (.ops [⟨.copy 4 (.const (.int .i64 0)), none, (some 4), false⟩])
   (.seq (.seq (.ops [⟨.copy 5 (.const (.int .i64 0)), none, (some 5), false⟩])
     (.block 0 (.loop [true, true, false, false, false, true, false, false, false, false, false, false, false, false, false, false, false, false, false, false, false]
       (.seq (.seq (.ops [⟨.copy 6 (.tmp 5), none, (some 6), false⟩,
           ⟨.copy 7 (.tmp 0), none, (some 7), false⟩,
           ⟨.len 8 false (.tmp 7), none, (some 8), false⟩,
           ⟨.bin 9 .lss (.tmp 6) (.tmp 8), none, (some 9), false⟩])
         (.cond (.tmp 9)
          (.skip)
          (.exit 0)))
        (.seq (.block 1 (.seq (.ops [⟨.copy 12 (.tmp 0), none, (some 12), false⟩,
             ⟨.copy 13 (.tmp 5), none, (some 13), false⟩,
             ⟨.iadd 14 12 24 (.tmp 13), none, (some 14), false⟩,
             ⟨.loadE 15 12 14 none false, none, (some 15), false⟩,
             ⟨.copy 16 (.tmp 1), none, (some 16), false⟩,
             ⟨.call (some 17) 35 sg35 [(.tmp 15), (.tmp 16)] [.none, .none], none, (some 17), false⟩,
             ⟨.copy 1 (.tmp 17), none, (some 1), false⟩])
           (.seq (.ops [⟨.copy 18 (.tmp 1), none, (some 18), false⟩,
              ⟨.bin 19 .lss (.tmp 18) (.const (.int .i64 0)), none, (some 19), false⟩])
            (.cond (.tmp 19)
             (.seq (.ops [⟨.copy 4 (.const (.int .i64 (-1))), none, (some 4), false⟩])
              (.ret [(.tmp 4)] [.none]))
             (.skip)))))
         (.ops [⟨.copy 10 (.tmp 5), none, (some 10), false⟩,
           ⟨.bin 11 .add (.tmp 10) (.const (.int .i64 1)), none, (some 11), false⟩,
           ⟨.copy 5 (.tmp 11), none, (some 5), false⟩]))))))
    (.seq (.ops [⟨.copy 20 (.tmp 1), none, (some 20), false⟩,
       ⟨.copy 4 (.tmp 20), none, (some 4), false⟩])
     (.ret [(.tmp 4)] [.none])))
theorem k42 (r35 : Rel) : compileFn (E42 r35) Try.f42 sg42 hs42 = some c42 := by kernel_rfl
/- loop.example/g01334/laws.FnExactSolutions -/
noncomputable def l10 (r25 r27 r38 r39 r40 r21 r23 r41 r42 : Rel) : Deps := [(25, sg25, r25), (27, sg27, r27), (38, sg38, r38), (39, sg39, r39), (40, sg40, r40), (21, sg21, r21), (23, sg23, r23), (41, sg41, r41), (42, sg42, r42)]
noncomputable def E10 (r25 r27 r38 r39 r40 r21 r23 r41 r42 : Rel) : Env := mkE Try.prog [0, 1, 3, 4, 5, 6, 7, 8, 9, 10, 11, 12, 13] [] (l10 r25 r27 r38 r39 r40 r21 r23 r41 r42) []
noncomputable def hs10 : HS := []
noncomputable def c10 : Cmd :=
  .seq (.ops [⟨.box 1 .sh (.tmp 0) .none, none, (some 1), false⟩,
     ⟨.copy 2 (.const (.bool false)), none, (some 2), false⟩])
   (.seq (.ops [⟨.copy 3 (.const (.int .i64 1048576)), none, (some 3), false⟩])
    (.seq (.ops [⟨.loadB 14 (.tmp 1) (some 2) false, none, (some 14), false⟩,
       ⟨.copy 15 (.tmp 3), none, (some 15), false⟩,
       ⟨.call (some 16) 25 sg25 [(.tmp 14), (.tmp 15)] [.none, .none], none, (some 16), false⟩,
       ⟨.copy 3 (.tmp 16), none, (some 3), false⟩])
     (.seq (.seq (.ops [⟨.copy 17 (.tmp 3), none, (some 17), false⟩,
         ⟨.bin 18 .lss (.tmp 17) (.const (.int .i64 0)), none, (some 18), false⟩])
       (.cond (.tmp 18)
        (.seq (.ops [⟨.copy 2 (.const (.bool true)), none, (some 2), false⟩])
         (.ret [(.tmp 2)] [.none]))
        (.skip)))
      (.seq (.ops [⟨.loadB 20 (.tmp 1) (some 2) false, none, (some 20), false⟩,
         ⟨.call (some 21) 27 sg27 [(.tmp 20)] [.none], none, (some 21), false⟩,
         ⟨.call (some 22) 38 sg38 [(.tmp 21)] [.none], none, (some 22), false⟩,
         ⟨.copy 19 (.tmp 22), none, (some 19), false⟩,
         ⟨.ext 23 19 0, none, (some 23), false⟩,
         ⟨.ext 24 19 1, none, (some 24), false⟩,
         ⟨.take 4 (.tmp 23) (.slot 23), none, (some 4), false⟩,
         ⟨.copy 5 (.tmp 24), none, (some 5), false⟩])
       (.seq (.ops [⟨.loadB 25 (.tmp 1) (some 2) false, none, (some 25), false⟩,
          ⟨.call (some 26) 27 sg27 [(.tmp 25)] [.none], none, (some 26), false⟩,
          ⟨.alloc 6 .own [(.int .i64 0), .nil], none, (some 6), false⟩,
          ⟨.storeB (.tmp 6) (.tmp 26) (some 2) (.slot 26), none, none, false⟩])
        (.seq (.ops [⟨.loadB 28 (.tmp 6) (some 2) false, none, (some 28), false⟩,
           ⟨.call (some 29) 39 sg39 [(.tmp 28)] [.none], none, (some 29), false⟩,
           ⟨.copy 27 (.tmp 29), none, (some 27), false⟩,
           ⟨.ext 30 27 0, none, (some 30), false⟩,
           ⟨.ext 31 27 1, none, (some 31), false⟩,
           ⟨.take 7 (.tmp 30) (.slot 30), none, (some 7), false⟩,
           ⟨.copy 8 (.tmp 31), none, (some 8), false⟩])
         (.seq (.seq (.ops [⟨.copy 32 (.tmp 7), none, (some 32), false⟩,
             ⟨.copy 33 (.tmp 4), none, (some 33), false⟩,
             ⟨.call (some 34) 40 sg40 [(.tmp 32), (.tmp 33)] [.none, .none], none, (some 34), false⟩,
             ⟨.un 35 .not (.tmp 34), none, (some 35), false⟩,
             ⟨.copy 36 (.tmp 35), none, (some 36), false⟩,
             ⟨.copy 37 (.tmp 8), (some (36, false)), (some 37), true⟩,
             ⟨.copy 38 (.tmp 5), (some (36, false)), (some 38), true⟩,
             ⟨.beq 39 true (.tmp 37) (.tmp 38), (some (36, false)), (some 39), true⟩,
             ⟨.pick 40 (.tmp 36) (.const (.bool true)) (.tmp 39), none, (some 40), false⟩])
           (.cond (.tmp 40)
            (.seq (.ops [⟨.copy 2 (.const (.bool false)), none, (some 2), false⟩])
             (.ret [(.tmp 2)] [.none]))
            (.skip)))
          (.seq (.seq (.ops [⟨.loadB 41 (.tmp 6) (some 2) false, none, (some 41), false⟩,
              ⟨.loadB 42 (.tmp 1) (some 2) false, none, (some 42), false⟩,
              ⟨.call (some 43) 27 sg27 [(.tmp 42)] [.none], none, (some 43), false⟩,
              ⟨.call (some 44) 21 sg21 [(.tmp 41), (.tmp 43)] [.none, .none], none, (some 44), false⟩,
              ⟨.un 45 .not (.tmp 44), none, (some 45), false⟩])
            (.cond (.tmp 45)
             (.seq (.ops [⟨.copy 2 (.const (.bool false)), none, (some 2), false⟩])
              (.ret [(.tmp 2)] [.none]))
             (.skip)))
           (.seq (.ops [⟨.copy 9 (.const (.int .i64 1)), none, (some 9), false⟩])
            (.seq (.ops [⟨.loadB 46 (.tmp 6) (some 2) false, none, (some 46), false⟩,
               ⟨.copy 47 (.tmp 9), none, (some 47), false⟩,
               ⟨.callm 48 23 sg23 (.tmp 46) [(.tmp 47)] (.box 6 2), none, (some 48), false⟩,
               ⟨.copy 9 (.tmp 48), none, (some 9), false⟩])
             (.seq (.seq (.ops [⟨.copy 49 (.tmp 9), none, (some 49), false⟩,
                 ⟨.bin 50 .lss (.tmp 49) (.const (.int .i64 0)), none, (some 50), false⟩,
                 ⟨.copy 51 (.tmp 50), none, (some 51), false⟩,
                 ⟨.copy 52 (.tmp 7), (some (51, false)), (some 52), false⟩,
                 ⟨.copy 53 (.tmp 4), (some (51, false)), (some 53), false⟩,
                 ⟨.call (some 54) 40 sg40 [(.tmp 52), (.tmp 53)] [.none, .none], (some (51, false)), (some 54), true⟩,
                 ⟨.un 55 .not (.tmp 54), (some (51, false)), (some 55), true⟩,
                 ⟨.pick 56 (.tmp 51) (.const (.bool true)) (.tmp 55), none, (some 56), false⟩,
                 ⟨.copy 57 (.tmp 56), none, (some 57), false⟩,
                 ⟨.copy 58 (.tmp 8), (some (57, false)), (some 58), true⟩,
                 ⟨.copy 59 (.tmp 5), (some (57, false)), (some 59), true⟩,
                 ⟨.beq 60 true (.tmp 58) (.tmp 59), (some (57, false)), (some 60), true⟩,
                 ⟨.pick 61 (.tmp 57) (.const (.bool true)) (.tmp 60), none, (some 61), false⟩])
               (.cond (.tmp 61)
                (.seq (.ops [⟨.copy 2 (.const (.bool false)), none, (some 2), false⟩])
                 (.ret [(.tmp 2)] [.none]))
                (.skip)))
              (.seq (.ops [⟨.copy 10 (.const (.int .i64 1)), none, (some 10), false⟩])
               (.seq (.ops [⟨.copy 62 (.tmp 7), none, (some 62), false⟩,
                  ⟨.copy 63 (.tmp 10), none, (some 63), false⟩,
                  ⟨.callm 64 41 sg41 (.tmp 62) [(.tmp 63)] (.slot 7), none, (some 64), false⟩,
                  ⟨.copy 10 (.tmp 64), none, (some 10), false⟩])
                (.seq (.ops [⟨.copy 11 (.const (.int .i64 1)), none, (some 11), false⟩])
                 (.seq (.ops [⟨.copy 65 (.tmp 7), none, (some 65), false⟩,
                    ⟨.copy 66 (.tmp 11), none, (some 66), false⟩,
                    ⟨.call (some 67) 42 sg42 [(.tmp 65), (.tmp 66)] [.none, .none], none, (some 67), false⟩,
                    ⟨.copy 11 (.tmp 67), none, (some 11), false⟩])
                  (.seq (.seq (.ops [⟨.copy 68 (.tmp 11), none, (some 68), false⟩,
                      ⟨.bin 69 .lss (.tmp 68) (.const (.int .i64 0)), none, (some 69), false⟩])
                    (.cond (.tmp 69)
                     (.seq (.ops [⟨.copy 2 (.const (.bool false)), none, (some 2), false⟩])
                      (.ret [(.tmp 2)] [.none]))
                     (.skip)))
                   (.seq (.seq (.ops [⟨.copy 70 (.tmp 11), none, (some 70), false⟩,
                       ⟨.copy 71 (.tmp 10), none, (some 71), false⟩,
                       ⟨.bin 72 .neq (.tmp 70) (.tmp 71), none, (some 72), false⟩])
                     (.cond (.tmp 72)
                      (.seq (.ops [⟨.copy 2 (.const (.bool false)), none, (some 2), false⟩])
                       (.ret [(.tmp 2)] [.none]))
                      (.skip)))
                    (.seq (.ops [⟨.loadB 74 (.tmp 1) (some 2) false, none, (some 74), false⟩,
                       ⟨.call (some 75) 27 sg27 [(.tmp 74)] [.none], none, (some 75), false⟩,
                       ⟨.call (some 76) 39 sg39 [(.tmp 75)] [.none], none, (some 76), false⟩,
                       ⟨.copy 73 (.tmp 76), none, (some 73), false⟩,
                       ⟨.ext 77 73 0, none, (some 77), false⟩,
                       ⟨.ext 78 73 1, none, (some 78), false⟩,
                       ⟨.take 12 (.tmp 77) (.slot 77), none, (some 12), false⟩,
                       ⟨.copy 13 (.tmp 78), none, (some 13), false⟩])
                     (.seq (.seq (.ops [⟨.copy 79 (.tmp 12), none, (some 79), false⟩,
                         ⟨.copy 80 (.tmp 4), none, (some 80), false⟩,
                         ⟨.call (some 81) 40 sg40 [(.tmp 79), (.tmp 80)] [.none, .none], none, (some 81), false⟩,
                         ⟨.un 82 .not (.tmp 81), none, (some 82), false⟩,
                         ⟨.copy 83 (.tmp 82), none, (some 83), false⟩,
                         ⟨.copy 84 (.tmp 13), (some (83, false)), (some 84), true⟩,
                         ⟨.copy 85 (.tmp 5), (some (83, false)), (some 85), true⟩,
                         ⟨.beq 86 true (.tmp 84) (.tmp 85), (some (83, false)), (some 86), true⟩,
                         ⟨.pick 87 (.tmp 83) (.const (.bool true)) (.tmp 86), none, (some 87), false⟩])
                       (.cond (.tmp 87)
                        (.seq (.ops [⟨.copy 2 (.const (.bool false)), none, (some 2), false⟩])
                         (.ret [(.tmp 2)] [.none]))
                        (.skip)))
                      (.seq (.ops [⟨.copy 11 (.const (.int .i64 1)), none, (some 11), false⟩])
                       (.seq (.ops [⟨.copy 88 (.tmp 7), none, (some 88), false⟩,
                          ⟨.copy 89 (.tmp 11), none, (some 89), false⟩,
                          ⟨.call (some 90) 42 sg42 [(.tmp 88), (.tmp 89)] [.none, .none], none, (some 90), false⟩,
                          ⟨.copy 11 (.tmp 90), none, (some 11), false⟩])
                        (.seq (.seq (.ops [⟨.copy 91 (.tmp 11), none, (some 91), false⟩,
                            ⟨.bin 92 .lss (.tmp 91) (.const (.int .i64 0)), none, (some 92), false⟩])
                          (.cond (.tmp 92)
                           (.seq (.ops [⟨.copy 2 (.const (.bool false)), none, (some 2), false⟩])
                            (.ret [(.tmp 2)] [.none]))
                           (.skip)))
                         (.seq (.seq (.ops [⟨.copy 93 (.tmp 11), none, (some 93), false⟩,
                             ⟨.copy 94 (.tmp 10), none, (some 94), false⟩,
                             ⟨.bin 95 .neq (.tmp 93) (.tmp 94), none, (some 95), false⟩])
                           (.cond (.tmp 95)
                            (.seq (.ops [⟨.copy 2 (.const (.bool false)), none, (some 2), false⟩])
                             (.ret [(.tmp 2)] [.none]))
                            (.skip)))
                          (.seq (.ops [⟨.copy 2 (.const (.bool true)), none, (some 2), false⟩])
                           (.ret [(.tmp 2)] [.none])))))))))))))))))))))))))
theorem k10 (r25 r27 r38 r39 r40 r21 r23 r41 r42 : Rel) : compileFn (E10 r25 r27 r38 r39 r40 r21 r23 r41 r42) Try.f10 sg10 hs10 = some c10 := by kernel_rfl
/- loop.example/g01334/spec.LeftByClues -/
noncomputable def l33 (r65 r66 : Rel) : Deps := [(65, sg65, r65), (66, sg66, r66)]
noncomputable def E33 (r65 r66 : Rel) : Env := mkE Try.prog [0, 1, 4, 5] [] (l33 r65 r66) []
noncomputable def hs33 : HS := [[0, 2, 3, 6, 7, 8, 9, 10, 11, 12, 13, 14, 15, 16, 17, 18, 19, 20, 21, 22, 23, 24, 25, 26, 27]]
noncomputable def c33 : Cmd :=
  .seq (.ops [⟨.box 1 .sh (.tmp 0) .none, none, (some 1), false⟩,
     ⟨.copy 2 (.const (.slice none 0 0)), none, (some 2), false⟩,
     ⟨.copy 3 (.const (.bool false)), none, (some 3), false⟩])
   (.seq (.seq (.ops [⟨.loadB 6 (.tmp 1) (some 2) false, none, (some 6), false⟩,
       ⟨.call (some 7) 65 sg65 [(.tmp 6)] [.none], none, (some 7), false⟩,
       ⟨.un 8 .not (.tmp 7), none, (some 8), false⟩])
     (.cond (.tmp 8)
      (.seq (.ops [⟨.copy 2 (.const (.slice none 0 0)), none, (some 2), false⟩,
         ⟨.copy 3 (.const (.bool false)), none, (some 3), false⟩])
       (.ret [(.tmp 2), (.tmp 3)] [.none, .none]))
      (.skip)))
    (.seq (.ops [⟨.copy 4 (.const (.slice none 0 0)), none, (some 4), false⟩])
     (.seq (.seq (.ops [⟨.copy 5 (.const (.int .i64 0)), none, (some 5), false⟩])
       (.block 0 (.loop [false, true, false, false, true, true, false, false, false, false, false, false, false, false, false, false, false, false, false, false, false, false, false, false, false, false, false, false]
         (.seq (.seq (.ops [⟨.copy 9 (.tmp 5), none, (some 9), false⟩,
             ⟨.fadd 10 (.tmp 1) 1, none, (some 10), false⟩,
             ⟨.loadB 11 (.tmp 10) none false, none, (some 11), false⟩,
             ⟨.len 12 false (.tmp 11), none, (some 12), false⟩,
             ⟨.bin 13 .leq (.tmp 9) (.tmp 12), none, (some 13), false⟩])
           (.cond (.tmp 13)
            (.skip)
            (.exit 0)))
          (.seq (.block 1 (.ops [⟨.copy 16 (.tmp 4), none, (some 16), false⟩,
              ⟨.fadd 17 (.tmp 1) 0, none, (some 17), false⟩,
              ⟨.loadB 18 (.tmp 17) none true, none, (some 18), false⟩,
              ⟨.fadd 19 (.tmp 1) 1, none, (some 19), false⟩,
              ⟨.loadB 20 (.tmp 19) none false, none, (some 20), false⟩,
              ⟨.copy 21 (.tmp 5), none, (some 21), false⟩,
              ⟨.sli 22 27 (.tmp 20) none (some (.tmp 21)) none, none, (some 22), false⟩,
              ⟨.call (some 23) 66 sg66 [(.tmp 18), (.tmp 22)] [.none, .none], none, (some 23), false⟩,
              ⟨.len 24 false (.tmp 23), none, (some 24), false⟩,
              ⟨.lit 25 3 1 [(.tmp 24)] [.none], none, (some 25), false⟩,
              ⟨.app 26 3 8 true (.tmp 16) (.tmp 25) [(.slot 4), .none], none, (some 26), false⟩,
              ⟨.take 4 (.tmp 26) (.slot 26), none, (some 4), false⟩]))
           (.ops [⟨.copy 14 (.tmp 5), none, (some 14), false⟩,
             ⟨.bin 15 .add (.tmp 14) (.const (.int .i64 1)), none, (some 15), false⟩,
             ⟨.copy 5 (.tmp 15), none, (some 5), false⟩]))))))
      (.seq (.ops [⟨.copy 27 (.tmp 4), none, (some 27), false⟩,
         ⟨.copy 2 (.tmp 27), none, (some 2), false⟩,
         ⟨.copy 3 (.const (.bool true)), none, (some 3), false⟩])
       (.ret [(.tmp 2), (.tmp 3)] [(.slot 4), .none])))))
theorem k33 (r65 r66 : Rel) : compileFn (E33 r65 r66) Try.f33 sg33 hs33 = some c33 := by kernel_rfl
/- loop.example/g01334/impl.LeftByClues -/
noncomputable def l34 (r69 r70 : Rel) : Deps := [(69, sg69, r69), (70, sg70, r70)]
noncomputable def E34 (r69 r70 : Rel) : Env := mkE Try.prog [0, 1, 4, 5] [] (l34 r69 r70) []
noncomputable def hs34 : HS := [[0, 2, 3, 5, 6, 7, 8, 9, 10, 11, 12, 15, 16, 17, 18, 19, 20, 21, 22, 23, 24, 25, 26, 27, 28, 29]]
noncomputable def c34 : Cmd :=
  .seq (.ops [⟨.box 1 .sh (.tmp 0) .none, none, (some 1), false⟩,
     ⟨.copy 2 (.const (.slice none 0 0)), none, (some 2), false⟩,
     ⟨.copy 3 (.const (.bool false)), none, (some 3), false⟩])
   (.seq (.seq (.ops [⟨.loadB 6 (.tmp 1) (some 2) false, none, (some 6), false⟩,
       ⟨.call (some 7) 69 sg69 [(.tmp 6)] [.none], none, (some 7), false⟩,
       ⟨.un 8 .not (.tmp 7), none, (some 8), false⟩])
     (.cond (.tmp 8)
      (.seq (.ops [⟨.copy 2 (.const (.slice none 0 0)), none, (some 2), false⟩,
         ⟨.copy 3 (.const (.bool false)), none, (some 3), false⟩])
       (.ret [(.tmp 2), (.tmp 3)] [.none, .none]))
      (.skip)))
    (.seq (.ops [⟨.lit 9 3 1 [] [], none, (some 9), false⟩,
       ⟨.take 4 (.tmp 9) (.slot 9), none, (some 4), false⟩])
     (.seq (.seq (.ops [⟨.fadd 10 (.tmp 1) 1, none, (some 10), false⟩,
         ⟨.loadB 11 (.tmp 10) none false, none, (some 11), false⟩,
         ⟨.len 12 false (.tmp 11), none, (some 12), false⟩,
         ⟨.bin 13 .add (.tmp 12) (.const (.int .i64 1)), none, (some 13), false⟩,
         ⟨.copy 14 (.const (.int .i64 0)), none, (some 14), false⟩])
       (.block 0 (.loop [false, true, false, false, true, false, false, false, false, false, false, false, false, true, true, false, false, false, false, false, false, false, false, false, false, false, false, false, false, false]
         (.seq (.ops [⟨.bin 15 .lss (.tmp 14) (.tmp 13), none, (some 15), false⟩])
          (.seq (.cond (.tmp 15)
            (.skip)
            (.exit 0))
           (.seq (.block 1 (.seq (.ops [⟨.copy 16 (.tmp 14), none, (some 16), false⟩,
                ⟨.copy 5 (.tmp 16), none, (some 5), false⟩])
              (.ops [⟨.copy 17 (.tmp 4), none, (some 17), false⟩,
                ⟨.fadd 18 (.tmp 1) 0, none, (some 18), false⟩,
                ⟨.loadB 19 (.tmp 18) none true, none, (some 19), false⟩,
                ⟨.fadd 20 (.tmp 1) 1, none, (some 20), false⟩,
                ⟨.loadB 21 (.tmp 20) none false, none, (some 21), false⟩,
                ⟨.copy 22 (.tmp 5), none, (some 22), false⟩,
                ⟨.sli 23 27 (.tmp 21) none (some (.tmp 22)) none, none, (some 23), false⟩,
                ⟨.call (some 24) 70 sg70 [(.tmp 19), (.tmp 23)] [.none, .none], none, (some 24), false⟩,
                ⟨.len 25 false (.tmp 24), none, (some 25), false⟩,
                ⟨.lit 26 3 1 [(.tmp 25)] [.none], none, (some 26), false⟩,
                ⟨.app 27 3 8 true (.tmp 17) (.tmp 26) [(.slot 4), .none], none, (some 27), false⟩,
                ⟨.take 4 (.tmp 27) (.slot 27), none, (some 4), false⟩])))
            (.ops [⟨.bin 28 .add (.tmp 14) (.const (.int .i64 1)), none, (some 28), false⟩,
              ⟨.copy 14 (.tmp 28), none, (some 14), false⟩])))))))
      (.seq (.ops [⟨.copy 29 (.tmp 4), none, (some 29), false⟩,
         ⟨.copy 2 (.tmp 29), none, (some 2), false⟩,
         ⟨.copy 3 (.const (.bool true)), none, (some 3), false⟩])
       (.ret [(.tmp 2), (.tmp 3)] [(.slot 4), .none])))))
theorem k34 (r69 r70 : Rel) : compileFn (E34 r69 r70) Try.f34 sg34 hs34 = some c34 := by kernel_rfl
/- loop.example/g01334/laws.FnExactLeftByClues -/
noncomputable def l8 (r25 r27 r33 r34 r18 r21 r23 r22 r35 : Rel) : Deps := [(25, sg25, r25), (27, sg27, r27), (33, sg33, r33), (34, sg34, r34), (18, sg18, r18), (21, sg21, r21), (23, sg23, r23), (22, sg22, r22), (35, sg35, r35)]
noncomputable def E8 (r25 r27 r33 r34 r18 r21 r23 r22 r35 : Rel) : Env := mkE Try.prog [0, 1, 3, 4, 5, 6, 7, 8, 9, 10, 11, 12, 13] [] (l8 r25 r27 r33 r34 r18 r21 r23 r22 r35) []
noncomputable def hs8 : HS := []
noncomputable def c8 : Cmd :=
  .seq (.ops [⟨.box 1 .sh (.tmp 0) .none, none, (some 1), false⟩,
     ⟨.copy 2 (.const (.bool false)), none, (some 2), false⟩])
   (.seq (.ops [⟨.copy 3 (.const (.int .i64 1048576)), none, (some 3), false⟩])
    (.seq (.ops [⟨.loadB 14 (.tmp 1) (some 2) false, none, (some 14), false⟩,
       ⟨.copy 15 (.tmp 3), none, (some 15), false⟩,
       ⟨.call (some 16) 25 sg25 [(.tmp 14), (.tmp 15)] [.none, .none], none, (some 16), false⟩,
       ⟨.copy 3 (.tmp 16), none, (some 3), false⟩])
     (.seq (.seq (.ops [⟨.copy 17 (.tmp 3), none, (some 17), false⟩,
         ⟨.bin 18 .lss (.tmp 17) (.const (.int .i64 0)), none, (some 18), false⟩])
       (.cond (.tmp 18)
        (.seq (.ops [⟨.copy 2 (.const (.bool true)), none, (some 2), false⟩])
         (.ret [(.tmp 2)] [.none]))
        (.skip)))
      (.seq (.ops [⟨.loadB 20 (.tmp 1) (some 2) false, none, (some 20), false⟩,
         ⟨.call (some 21) 27 sg27 [(.tmp 20)] [.none], none, (some 21), false⟩,
         ⟨.call (some 22) 33 sg33 [(.tmp 21)] [.none], none, (some 22), false⟩,
         ⟨.copy 19 (.tmp 22), none, (some 19), false⟩,
         ⟨.ext 23 19 0, none, (some 23), false⟩,
         ⟨.ext 24 19 1, none, (some 24), false⟩,
         ⟨.take 4 (.tmp 23) (.slot 23), none, (some 4), false⟩,
         ⟨.copy 5 (.tmp 24), none, (some 5), false⟩])
       (.seq (.ops [⟨.loadB 25 (.tmp 1) (some 2) false, none, (some 25), false⟩,
          ⟨.call (some 26) 27 sg27 [(.tmp 25)] [.none], none, (some 26), false⟩,
          ⟨.alloc 6 .own [(.int .i64 0), .nil], none, (some 6), false⟩,
          ⟨.storeB (.tmp 6) (.tmp 26) (some 2) (.slot 26), none, none, false⟩])
        (.seq (.ops [⟨.loadB 28 (.tmp 6) (some 2) false, none, (some 28), false⟩,
           ⟨.call (some 29) 34 sg34 [(.tmp 28)] [.none], none, (some 29), false⟩,
           ⟨.copy 27 (.tmp 29), none, (some 27), false⟩,
           ⟨.ext 30 27 0, none, (some 30), false⟩,
           ⟨.ext 31 27 1, none, (some 31), false⟩,
           ⟨.take 7 (.tmp 30) (.slot 30), none, (some 7), false⟩,
           ⟨.copy 8 (.tmp 31), none, (some 8), false⟩])
         (.seq (.seq (.ops [⟨.copy 32 (.tmp 7), none, (some 32), false⟩,
             ⟨.copy 33 (.tmp 4), none, (some 33), false⟩,
             ⟨.call (some 34) 18 sg18 [(.tmp 32), (.tmp 33)] [.none, .none], none, (some 34), false⟩,
             ⟨.un 35 .not (.tmp 34), none, (some 35), false⟩,
             ⟨.copy 36 (.tmp 35), none, (some 36), false⟩,
             ⟨.copy 37 (.tmp 8), (some (36, false)), (some 37), true⟩,
             ⟨.copy 38 (.tmp 5), (some (36, false)), (some 38), true⟩,
             ⟨.beq 39 true (.tmp 37) (.tmp 38), (some (36, false)), (some 39), true⟩,
             ⟨.pick 40 (.tmp 36) (.const (.bool true)) (.tmp 39), none, (some 40), false⟩])
           (.cond (.tmp 40)
            (.seq (.ops [⟨.copy 2 (.const (.bool false)), none, (some 2), false⟩])
             (.ret [(.tmp 2)] [.none]))
            (.skip)))
          (.seq (.seq (.ops [⟨.loadB 41 (.tmp 6) (some 2) false, none, (some 41), false⟩,
              ⟨.loadB 42 (.tmp 1) (some 2) false, none, (some 42), false⟩,
              ⟨.call (some 43) 27 sg27 [(.tmp 42)] [.none], none, (some 43), false⟩,
              ⟨.call (some 44) 21 sg21 [(.tmp 41), (.tmp 43)] [.none, .none], none, (some 44), false⟩,
              ⟨.un 45 .not (.tmp 44), none, (some 45), false⟩])
            (.cond (.tmp 45)
             (.seq (.ops [⟨.copy 2 (.const (.bool false)), none, (some 2), false⟩])
              (.ret [(.tmp 2)] [.none]))
             (.skip)))
           (.seq (.ops [⟨.copy 9 (.const (.int .i64 1)), none, (some 9), false⟩])
            (.seq (.ops [⟨.loadB 46 (.tmp 6) (some 2) false, none, (some 46), false⟩,
               ⟨.copy 47 (.tmp 9), none, (some 47), false⟩,
               ⟨.callm 48 23 sg23 (.tmp 46) [(.tmp 47)] (.box 6 2), none, (some 48), false⟩,
               ⟨.copy 9 (.tmp 48), none, (some 9), false⟩])
             (.seq (.seq (.ops [⟨.copy 49 (.tmp 9), none, (some 49), false⟩,
                 ⟨.bin 50 .lss (.tmp 49) (.const (.int .i64 0)), none, (some 50), false⟩,
                 ⟨.copy 51 (.tmp 50), none, (some 51), false⟩,
                 ⟨.copy 52 (.tmp 7), (some (51, false)), (some 52), false⟩,
                 ⟨.copy 53 (.tmp 4), (some (51, false)), (some 53), false⟩,
                 ⟨.call (some 54) 18 sg18 [(.tmp 52), (.tmp 53)] [.none, .none], (some (51, false)), (some 54), true⟩,
                 ⟨.un 55 .not (.tmp 54), (some (51, false)), (some 55), true⟩,
                 ⟨.pick 56 (.tmp 51) (.const (.bool true)) (.tmp 55), none, (some 56), false⟩,
                 ⟨.copy 57 (.tmp 56), none, (some 57), false⟩,
                 ⟨.copy 58 (.tmp 8), (some (57, false)), (some 58), true⟩,
                 ⟨.copy 59 (.tmp 5), (some (57, false)), (some 59), true⟩,
                 ⟨.beq 60 true (.tmp 58) (.tmp 59), (some (57, false)), (some 60), true⟩,
                 ⟨.pick 61 (.tmp 57) (.const (.bool true)) (.tmp 60), none, (some 61), false⟩])
               (.cond (.tmp 61)
                (.seq (.ops [⟨.copy 2 (.const (.bool false)), none, (some 2), false⟩])
                 (.ret [(.tmp 2)] [.none]))
                (.skip)))
              (.seq (.ops [⟨.copy 10 (.const (.int .i64 1)), none, (some 10), false⟩])
               (.seq (.ops [⟨.copy 62 (.tmp 7), none, (some 62), false⟩,
                  ⟨.copy 63 (.tmp 10), none, (some 63), false⟩,
                  ⟨.callm 64 22 sg22 (.tmp 62) [(.tmp 63)] (.slot 7), none, (some 64), false⟩,
                  ⟨.copy 10 (.tmp 64), none, (some 10), false⟩])
                (.seq (.ops [⟨.copy 11 (.const (.int .i64 1)), none, (some 11), false⟩])
                 (.seq (.ops [⟨.copy 65 (.tmp 7), none, (some 65), false⟩,
                    ⟨.copy 66 (.tmp 11), none, (some 66), false⟩,
                    ⟨.call (some 67) 35 sg35 [(.tmp 65), (.tmp 66)] [.none, .none], none, (some 67), false⟩,
                    ⟨.copy 11 (.tmp 67), none, (some 11), false⟩])
                  (.seq (.seq (.ops [⟨.copy 68 (.tmp 11), none, (some 68), false⟩,
                      ⟨.bin 69 .lss (.tmp 68) (.const (.int .i64 0)), none, (some 69), false⟩])
                    (.cond (.tmp 69)
                     (.seq (.ops [⟨.copy 2 (.const (.bool false)), none, (some 2), false⟩])
                      (.ret [(.tmp 2)] [.none]))
                     (.skip)))
                   (.seq (.seq (.ops [⟨.copy 70 (.tmp 11), none, (some 70), false⟩,
                       ⟨.copy 71 (.tmp 10), none, (some 71), false⟩,
                       ⟨.bin 72 .neq (.tmp 70) (.tmp 71), none, (some 72), false⟩])
                     (.cond (.tmp 72)
                      (.seq (.ops [⟨.copy 2 (.const (.bool false)), none, (some 2), false⟩])
                       (.ret [(.tmp 2)] [.none]))
                      (.skip)))
                    (.seq (.ops [⟨.loadB 74 (.tmp 1) (some 2) false, none, (some 74), false⟩,
                       ⟨.call (some 75) 27 sg27 [(.tmp 74)] [.none], none, (some 75), false⟩,
                       ⟨.call (some 76) 34 sg34 [(.tmp 75)] [.none], none, (some 76), false⟩,
                       ⟨.copy 73 (.tmp 76), none, (some 73), false⟩,
                       ⟨.ext 77 73 0, none, (some 77), false⟩,
                       ⟨.ext 78 73 1, none, (some 78), false⟩,
                       ⟨.take 12 (.tmp 77) (.slot 77), none, (some 12), false⟩,
                       ⟨.copy 13 (.tmp 78), none, (some 13), false⟩])
                     (.seq (.seq (.ops [⟨.copy 79 (.tmp 12), none, (some 79), false⟩,
                         ⟨.copy 80 (.tmp 4), none, (some 80), false⟩,
                         ⟨.call (some 81) 18 sg18 [(.tmp 79), (.tmp 80)] [.none, .none], none, (some 81), false⟩,
                         ⟨.un 82 .not (.tmp 81), none, (some 82), false⟩,
                         ⟨.copy 83 (.tmp 82), none, (some 83), false⟩,
                         ⟨.copy 84 (.tmp 13), (some (83, false)), (some 84), true⟩,
                         ⟨.copy 85 (.tmp 5), (some (83, false)), (some 85), true⟩,
                         ⟨.beq 86 true (.tmp 84) (.tmp 85), (some (83, false)), (some 86), true⟩,
                         ⟨.pick 87 (.tmp 83) (.const (.bool true)) (.tmp 86), none, (some 87), false⟩])
                       (.cond (.tmp 87)
                        (.seq (.ops [⟨.copy 2 (.const (.bool false)), none, (some 2), false⟩])
                         (.ret [(.tmp 2)] [.none]))
                        (.skip)))
                      (.seq (.ops [⟨.copy 11 (.const (.int .i64 1)), none, (some 11), false⟩])
                       (.seq (.ops [⟨.copy 88 (.tmp 7), none, (some 88), false⟩,
                          ⟨.copy 89 (.tmp 11), none, (some 89), false⟩,
                          ⟨.call (some 90) 35 sg35 [(.tmp 88), (.tmp 89)] [.none, .none], none, (some 90), false⟩,
                          ⟨.copy 11 (.tmp 90), none, (some 11), false⟩])
                        (.seq (.seq (.ops [⟨.copy 91 (.tmp 11), none, (some 91), false⟩,
                            ⟨.bin 92 .lss (.tmp 91) (.const (.int .i64 0)), none, (some 92), false⟩])
                          (.cond (.tmp 92)
                           (.seq (.ops [⟨.copy 2 (.const (.bool false)), none, (some 2), false⟩])
                            (.ret [(.tmp 2)] [.none]))
                           (.skip)))
                         (.seq (.seq (.ops [⟨.copy 93 (.tmp 11), none, (some 93), false⟩,
                             ⟨.copy 94 (.tmp 10), none, (some 94), false⟩,
                             ⟨.bin 95 .neq (.tmp 93) (.tmp 94), none, (some 95), false⟩])
                           (.cond (.tmp 95)
                            (.seq (.ops [⟨.copy 2 (.const (.bool false)), none, (some 2), false⟩])
                             (.ret [(.tmp 2)] [.none]))
                            (.skip)))
                          (.seq (.ops [⟨.copy 2 (.const (.bool true)), none, (some 2), false⟩])
                           (.ret [(.tmp 2)] [.none])))))))))))))))))))))))))
theorem k8 (r25 r27 r33 r34 r18 r21 r23 r22 r35 : Rel) : compileFn (E8 r25 r27 r33 r34 r18 r21 r23 r22 r35) Try.f8 sg8 hs8 = some c8 := by kernel_rfl
/- loop.example/g01334/spec.pzNext -/
noncomputable def l56 : Deps := []
noncomputable def E56 : Env := mkE Try.prog [0, 1] [] (l56) []
noncomputable def hs56 : HS := []
noncomputable def c56 : Cmd :=
  .seq (.ops [⟨.copy 2 (.const (.int .i64 0)), none, (some 2), false⟩])
   (.seq (.ops [⟨.copy 3 (.tmp 0), none, (some 3), false⟩,
      ⟨.bin 4 .mul (.const (.int .i64 241)) (.tmp 3), none, (some 4), false⟩,
      ⟨.bin 5 .add (.tmp 4) (.const (.int .i64 1693)), none, (some 5), false⟩,
      ⟨.bin 6 .rem (.tmp 5) (.const (.int .i64 10007)), none, (some 6), false⟩,
      ⟨.copy 2 (.tmp 6), none, (some 2), false⟩])
    (.ret [(.tmp 2)] [.none]))
theorem k56 : compileFn (E56) Try.f56 sg56 hs56 = some c56 := by kernel_rfl
/- loop.example/g01334/spec.pzOf -/
noncomputable def l57 (r78 : Rel) : Deps := [(78, sg78, r78)]
noncomputable def E57 (r78 : Rel) : Env := mkE Try.prog [0, 1, 2, 3, 4, 5, 7] [] (l57 r78) []
noncomputable def hs57 : HS := []
noncomputable def c57 : Cmd :=
  .seq (.ops [⟨.alloc 6 .own [(.int .i64 0), (.int .i64 0), (.int .i64 0), (.int .i64 0)], none, (some 6), false⟩])
   (.seq (.ops [⟨.copy 8 (.tmp 0), none, (some 8), false⟩,
      ⟨.build 9 [(.int .i64 0), (.int .i64 0), (.int .i64 0), (.int .i64 0)] [(0, 1, (.tmp 8))] [], none, (some 9), false⟩,
      ⟨.alloc 7 .own [(.int .i64 0), (.int .i64 0), (.int .i64 0), (.int .i64 0)], none, (some 7), false⟩,
      ⟨.storeB (.tmp 7) (.tmp 9) (some 4) .none, none, none, false⟩])
    (.seq (.seq (.ops [⟨.copy 10 (.tmp 0), none, (some 10), false⟩])
      (.block 0 (.seq (.seq (.ops [⟨.bin 12 .eql (.tmp 10) (.const (.int .i64 1)), none, (some 12), false⟩,
           ⟨.copy 11 (.tmp 12), none, (some 11), false⟩])
         (.cond (.tmp 11)
          (.skip)
          (.ops [⟨.bin 13 .eql (.tmp 10) (.const (.int .i64 4)), none, (some 13), false⟩,
            ⟨.copy 11 (.tmp 13), none, (some 11), false⟩])))
        (.cond (.tmp 11)
         (.seq (.ops [⟨.copy 14 (.tmp 1), none, (some 14), false⟩,
            ⟨.copy 15 (.tmp 2), none, (some 15), false⟩,
            ⟨.len 16 false (.tmp 15), none, (some 16), false⟩,
            ⟨.bin 17 .rem (.tmp 14) (.tmp 16), none, (some 17), false⟩,
            ⟨.fadd 18 (.tmp 7) 1, none, (some 18), false⟩,
            ⟨.storeB (.tmp 18) (.tmp 17) none .none, none, none, false⟩])
          (.ops [⟨.fadd 19 (.tmp 7) 1, none, (some 19), false⟩,
            ⟨.loadB 20 (.tmp 19) none true, none, (some 20), false⟩,
            ⟨.bin 21 .add (.tmp 20) (.const (.int .i64 1)), none, (some 21), false⟩,
            ⟨.copy 22 (.tmp 2), none, (some 22), false⟩,
            ⟨.len 23 false (.tmp 22), none, (some 23), false⟩,
            ⟨.bin 24 .rem (.tmp 21) (.tmp 23), none, (some 24), false⟩,
            ⟨.fadd 25 (.tmp 7) 2, none, (some 25), false⟩,
            ⟨.storeB (.tmp 25) (.tmp 24) none .none, none, none, false⟩]))
         (.seq (.ops [⟨.bin 27 .eql (.tmp 10) (.const (.int .i64 2)), none, (some 27), false⟩,
            ⟨.copy 26 (.tmp 27), none, (some 26), false⟩])
          (.cond (.tmp 26)
           (.ops [⟨.copy 28 (.tmp 1), none, (some 28), false⟩,
             ⟨.bin 29 .rem (.tmp 28) (.const (.int .i64 19)), none, (some 29), false⟩,
             ⟨.bin 30 .add (.tmp 29) (.const (.int .i64 6)), none, (some 30), false⟩,
             ⟨.fadd 31 (.tmp 7) 1, none, (some 31), false⟩,
             ⟨.storeB (.tmp 31) (.tmp 30) none .none, none, none, false⟩])
           (.seq (.ops [⟨.bin 33 .eql (.tmp 10) (.const (.int .i64 3)), none, (some 33), false⟩,
              ⟨.copy 32 (.tmp 33), none, (some 32), false⟩])
            (.cond (.tmp 32)
             (.ops [⟨.copy 34 (.tmp 1), none, (some 34), false⟩,
               ⟨.bin 35 .rem (.tmp 34) (.const (.int .i64 24)), none, (some 35), false⟩,
               ⟨.bin 36 .add (.tmp 35) (.const (.int .i64 1)), none, (some 36), false⟩,
               ⟨.fadd 37 (.tmp 7) 1, none, (some 37), false⟩,
               ⟨.storeB (.tmp 37) (.tmp 36) none .none, none, none, false⟩])
             (.skip)))))))))
     (.seq (.ops [⟨.copy 38 (.tmp 0), none, (some 38), false⟩,
        ⟨.fadd 39 (.tmp 7) 1, none, (some 39), false⟩,
        ⟨.loadB 40 (.tmp 39) none true, none, (some 40), false⟩,
        ⟨.fadd 41 (.tmp 7) 2, none, (some 41), false⟩,
        ⟨.loadB 42 (.tmp 41) none true, none, (some 42), false⟩,
        ⟨.copy 43 (.tmp 2), none, (some 43), false⟩,
        ⟨.call (some 44) 78 sg78 [(.tmp 38), (.tmp 40), (.tmp 42), (.tmp 43)] [.none, .none, .none, .none], none, (some 44), false⟩,
        ⟨.fadd 45 (.tmp 7) 3, none, (some 45), false⟩,
        ⟨.storeB (.tmp 45) (.tmp 44) none .none, none, none, false⟩])
      (.seq (.ops [⟨.loadB 46 (.tmp 7) (some 4) true, none, (some 46), false⟩,
         ⟨.storeB (.tmp 6) (.tmp 46) (some 4) .none, none, none, false⟩])
       (.ret [(.cell 6 (some 4) true)] [.none])))))
theorem k57 (r78 : Rel) : compileFn (E57 r78) Try.f57 sg57 hs57 = some c57 := by kernel_rfl
/- loop.example/g01334/spec.MakePuzzle -/
noncomputable def l19 (r49 r55 r56 r57 : Rel) : Deps := [(49, sg49, r49), (55, sg55, r55), (56, sg56, r56), (57, sg57, r57)]
noncomputable def E19 (r49 r55 r56 r57 : Rel) : Env := mkE Try.prog [0, 1, 2, 3, 4, 5, 8, 9, 10] [] (l19 r49 r55 r56 r57) []
noncomputable def hs19 : HS := [[2, 3, 4, 5, 7, 10, 11, 12, 13, 14, 15, 16, 17, 18, 19, 20, 21, 22, 23, 24, 25, 26, 27, 28, 29, 30, 31, 32, 33, 34, 35, 36, 37, 38, 39, 40, 41, 42, 43, 44, 45, 46, 47, 48]]
noncomputable def c19 : Cmd :=
  .seq (.ops [⟨.alloc 6 .own [(.int .i64 0), .nil], none, (some 6), false⟩,
     ⟨.copy 7 (.const (.bool false)), none, (some 7), false⟩])
   (.seq (.seq (.ops [⟨.copy 11 (.tmp 0), none, (some 11), false⟩,
       ⟨.call (some 12) 49 sg49 [(.tmp 11)] [.none], none, (some 12), false⟩,
       ⟨.un 13 .not (.tmp 12), none, (some 13), false⟩,
       ⟨.copy 14 (.tmp 13), none, (some 14), false⟩,
       ⟨.copy 15 (.tmp 1), (some (14, false)), (some 15), true⟩,
       ⟨.call (some 16) 55 sg55 [(.tmp 15), (.const (.int .i64 0)), (.const (.int .i64 6))] [.none, .none, .none], (some (14, false)), (some 16), true⟩,
       ⟨.un 17 .not (.tmp 16), (some (14, false)), (some 17), true⟩,
       ⟨.pick 18 (.tmp 14) (.const (.bool true)) (.tmp 17), none, (some 18), false⟩,
       ⟨.copy 19 (.tmp 18), none, (some 19), false⟩,
       ⟨.copy 20 (.tmp 2), (some (19, false)), (some 20), true⟩,
       ⟨.call (some 21) 55 sg55 [(.tmp 20), (.const (.int .i64 0)), (.const (.int .i64 9999))] [.none, .none, .none], (some (19, false)), (some 21), true⟩,
       ⟨.un 22 .not (.tmp 21), (some (19, false)), (some 22), true⟩,
       ⟨.pick 23 (.tmp 19) (.const (.bool true)) (.tmp 22), none, (some 23), false⟩])
     (.cond (.tmp 23)
      (.seq (.ops [⟨.build 24 [(.int .i64 0), .nil] [] [], none, (some 24), false⟩,
         ⟨.storeB (.tmp 6) (.tmp 24) (some 2) .none, none, none, false⟩,
         ⟨.copy 7 (.const (.bool false)), none, (some 7), false⟩])
       (.ret [(.cell 6 (some 2) false), (.tmp 7)] [(.box 6 2), .none]))
      (.skip)))
    (.seq (.ops [⟨.copy 25 (.tmp 0), none, (some 25), false⟩,
       ⟨.len 26 false (.tmp 25), none, (some 26), false⟩,
       ⟨.build 27 [(.int .i64 0), .nil] [(0, 1, (.tmp 26))] [], none, (some 27), false⟩,
       ⟨.alloc 8 .own [(.int .i64 0), .nil], none, (some 8), false⟩,
       ⟨.storeB (.tmp 8) (.tmp 27) (some 2) .none, none, none, false⟩])
     (.seq (.ops [⟨.copy 28 (.tmp 2), none, (some 28), false⟩,
        ⟨.copy 9 (.tmp 28), none, (some 9), false⟩])
      (.seq (.block 0 (.loop [true, true, false, false, false, false, true, false, true, true, false, false, false, false, false, false, false, false, false, false, false, false, false, false, false, false, false, false, false, false, false, false, false, false, false, false, false, false, false, false, false, false, false, false, false, false, false, false, false]
         (.seq (.seq (.ops [⟨.copy 29 (.tmp 1), none, (some 29), false⟩,
             ⟨.bin 30 .gtr (.tmp 29) (.const (.int .i64 0)), none, (some 30), false⟩])
           (.cond (.tmp 30)
            (.skip)
            (.exit 0)))
          (.seq (.block 1 (.seq (.ops [⟨.copy 33 (.tmp 9), none, (some 33), false⟩,
               ⟨.call (some 34) 56 sg56 [(.tmp 33)] [.none], none, (some 34), false⟩,
               ⟨.copy 9 (.tmp 34), none, (some 9), false⟩])
             (.seq (.ops [⟨.copy 35 (.tmp 9), none, (some 35), false⟩,
                ⟨.bin 36 .rem (.tmp 35) (.const (.int .i64 6)), none, (some 36), false⟩,
                ⟨.copy 10 (.tmp 36), none, (some 10), false⟩])
              (.seq (.ops [⟨.copy 37 (.tmp 9), none, (some 37), false⟩,
                 ⟨.call (some 38) 56 sg56 [(.tmp 37)] [.none], none, (some 38), false⟩,
                 ⟨.copy 9 (.tmp 38), none, (some 9), false⟩])
               (.ops [⟨.fadd 39 (.tmp 8) 1, none, (some 39), false⟩,
                 ⟨.loadB 40 (.tmp 39) none false, none, (some 40), false⟩,
                 ⟨.copy 41 (.tmp 10), none, (some 41), false⟩,
                 ⟨.copy 42 (.tmp 9), none, (some 42), false⟩,
                 ⟨.copy 43 (.tmp 0), none, (some 43), false⟩,
                 ⟨.call (some 44) 57 sg57 [(.tmp 41), (.tmp 42), (.tmp 43)] [.none, .none, .none], none, (some 44), false⟩,
                 ⟨.lit 45 27 4 [(.tmp 44)] [.none], none, (some 45), false⟩,
                 ⟨.app 46 27 32 true (.tmp 40) (.tmp 45) [(.box 39 0), .none], none, (some 46), false⟩,
                 ⟨.fadd 47 (.tmp 8) 1, none, (some 47), false⟩,
                 ⟨.storeB (.tmp 47) (.tmp 46) none (.slot 46), none, none, false⟩])))))
           (.ops [⟨.copy 31 (.tmp 1), none, (some 31), false⟩,
             ⟨.bin 32 .sub (.tmp 31) (.const (.int .i64 1)), none, (some 32), false⟩,
             ⟨.copy 1 (.tmp 32), none, (some 1), false⟩])))))
       (.seq (.ops [⟨.loadB 48 (.tmp 8) (some 2) false, none, (some 48), false⟩,
          ⟨.storeB (.tmp 6) (.tmp 48) (some 2) (.box 8 2), none, none, false⟩,
          ⟨.copy 7 (.const (.bool true)), none, (some 7), false⟩])
        (.ret [(.cell 6 (some 2) false), (.tmp 7)] [(.box 6 2), .none]))))))
theorem k19 (r49 r55 r56 r57 : Rel) : compileFn (E19 r49 r55 r56 r57) Try.f19 sg19 hs19 = some c19 := by kernel_rfl
/- loop.example/g01334/impl.MakePuzzle$1 -/
noncomputable def l59 : Deps := []
noncomputable def E59 : Env := mkE Try.prog [] [] (l59) []
noncomputable def hs59 : HS := []
noncomputable def c59 : Cmd :=
  .seq (.ops [⟨.copy 1 (.const (.int .i64 0)), none, (some 1), false⟩])
   (.seq (.ops [⟨.loadB 2 (.tmp 0) none true, none, (some 2), false⟩,
      ⟨.bin 3 .mul (.tmp 2) (.const (.int .i64 241)), none, (some 3), false⟩,
      ⟨.bin 4 .add (.tmp 3) (.const (.int .i64 1693)), none, (some 4), false⟩,
      ⟨.bin 5 .rem (.tmp 4) (.const (.int .i64 10007)), none, (some 5), false⟩,
      ⟨.storeB (.tmp 0) (.tmp 5) none .none, none, none, false⟩])
    (.seq (.ops [⟨.loadB 6 (.tmp 0) none true, none, (some 6), false⟩,
       ⟨.copy 1 (.tmp 6), none, (some 1), false⟩])
     (.ret [(.tmp 1)] [.none])))
theorem k59 : compileFn (E59) Try.f59 sg59 hs59 = some c59 := by kernel_rfl
/- loop.example/g01334/impl.MakePuzzle -/
noncomputable def l20 (r52 r58 r60 r59 : Rel) : Deps := [(52, sg52, r52), (58, sg58, r58), (60, sg60, r60), (59, sg59, r59)]
noncomputable def E20 (r52 r58 r60 r59 : Rel) : Env := mkE Try.prog [0, 1, 2, 3, 4, 5, 8, 9, 10, 11, 12, 13] [] (l20 r52 r58 r60 r59) [(35, 59, 1), (38, 59, 1)]
noncomputable def hs20 : HS := [[1, 2, 3, 4, 5, 7, 10, 11, 12, 13, 14, 15, 16, 17, 18, 19, 20, 21, 22, 23, 24, 25, 26, 27, 28, 29, 30, 31, 34, 35, 36, 37, 38, 39, 40, 41, 42, 43, 44, 45, 46, 47, 48, 49, 50, 51, 52, 53, 54, 55, 56, 57, 58, 59, 60, 61, 62, 63, 64, 65, 66, 67, 68, 69, 70, 71, 72, 73, 74, 75, 76, 77, 78]]
noncomputable def c20 : Cmd :=
  .seq (.ops [⟨.box 5 .own (.tmp 2) .none, none, (some 5), false⟩,
     ⟨.alloc 6 .own [(.int .i64 0), .nil], none, (some 6), false⟩,
     ⟨.copy 7 (.const (.bool false)), none, (some 7), false⟩])
   (.seq (.seq (.ops [⟨.copy 14 (.tmp 0), none, (some 14), false⟩,
       ⟨.call (some 15) 52 sg52 [(.tmp 14)] [.none], none, (some 15), false⟩,
       ⟨.un 16 .not (.tmp 15), none, (some 16), false⟩,
       ⟨.copy 17 (.tmp 16), none, (some 17), false⟩,
       ⟨.copy 18 (.tmp 1), (some (17, false)), (some 18), true⟩,
       ⟨.call (some 19) 58 sg58 [(.tmp 18), (.const (.int .i64 0)), (.const (.int .i64 6))] [.none, .none, .none], (some (17, false)), (some 19), true⟩,
       ⟨.un 20 .not (.tmp 19), (some (17, false)), (some 20), true⟩,
       ⟨.pick 21 (.tmp 17) (.const (.bool true)) (.tmp 20), none, (some 21), false⟩,
       ⟨.copy 22 (.tmp 21), none, (some 22), false⟩,
       ⟨.loadB 23 (.tmp 5) none true, (some (22, false)), (some 23), true⟩,
       ⟨.call (some 24) 58 sg58 [(.tmp 23), (.const (.int .i64 0)), (.const (.int .i64 9999))] [.none, .none, .none], (some (22, false)), (some 24), true⟩,
       ⟨.un 25 .not (.tmp 24), (some (22, false)), (some 25), true⟩,
       ⟨.pick 26 (.tmp 22) (.const (.bool true)) (.tmp 25), none, (some 26), false⟩])
     (.cond (.tmp 26)
      (.seq (.ops [⟨.build 27 [(.int .i64 0), .nil] [] [], none, (some 27), false⟩,
         ⟨.storeB (.tmp 6) (.tmp 27) (some 2) .none, none, none, false⟩,
         ⟨.copy 7 (.const (.bool false)), none, (some 7), false⟩])
       (.ret [(.cell 6 (some 2) false), (.tmp 7)] [(.box 6 2), .none]))
      (.skip)))
    (.seq (.ops [⟨.mkfn 28 59 [(.tmp 5)], none, (some 28), false⟩,
       ⟨.copy 8 (.tmp 28), none, (some 8), false⟩])
     (.seq (.ops [⟨.copy 29 (.tmp 0), none, (some 29), false⟩,
        ⟨.len 30 false (.tmp 29), none, (some 30), false⟩,
        ⟨.build 31 [(.int .i64 0), .nil] [(0, 1, (.tmp 30))] [], none, (some 31), false⟩,
        ⟨.alloc 9 .own [(.int .i64 0), .nil], none, (some 9), false⟩,
        ⟨.storeB (.tmp 9) (.tmp 31) (some 2) .none, none, none, false⟩])
      (.seq (.seq (.ops [⟨.copy 32 (.tmp 1), none, (some 32), false⟩,
          ⟨.copy 33 (.const (.int .i64 0)), none, (some 33), false⟩])
        (.block 0 (.loop [true, false, false, false, false, false, true, false, true, true, false, false, false, false, false, false, false, false, false, false, false, false, false, false, false, false, false, false, false, false, false, false, true, true, false, false, false, false, false, false, false, false, false, false, false, false, false, false, false, false, false, false, false, false, false, false, false, false, false, false, false, false, false, false, false, false, false, false, false, false, false, false, false, false, false, false, false, false, false]
          (.seq (.ops [⟨.bin 34 .lss (.tmp 33) (.tmp 32), none, (some 34), false⟩])
           (.seq (.cond (.tmp 34)
             (.skip)
             (.exit 0))
            (.seq (.block 1 (.seq (.ops [⟨.copy 35 (.tmp 8), none, (some 35), false⟩,
                 ⟨.callv (some 36) (.tmp 35) 59 1 sg59 [] [], none, (some 36), false⟩,
                 ⟨.bin 37 .rem (.tmp 36) (.const (.int .i64 6)), none, (some 37), false⟩,
                 ⟨.copy 10 (.tmp 37), none, (some 10), false⟩])
               (.seq (.ops [⟨.copy 38 (.tmp 8), none, (some 38), false⟩,
                  ⟨.callv (some 39) (.tmp 38) 59 1 sg59 [] [], none, (some 39), false⟩,
                  ⟨.copy 11 (.tmp 39), none, (some 11), false⟩,
                  ⟨.copy 12 (.const (.int .i64 0)), none, (some 12), false⟩,
                  ⟨.copy 13 (.const (.int .i64 0)), none, (some 13), false⟩])
                (.seq (.seq (.ops [⟨.copy 40 (.tmp 10), none, (some 40), false⟩])
                  (.block 2 (.seq (.seq (.ops [⟨.bin 42 .eql (.tmp 40) (.const (.int .i64 1)), none, (some 42), false⟩,
                       ⟨.copy 41 (.tmp 42), none, (some 41), false⟩])
                     (.cond (.tmp 41)
                      (.skip)
                      (.ops [⟨.bin 43 .eql (.tmp 40) (.const (.int .i64 4)), none, (some 43), false⟩,
                        ⟨.copy 41 (.tmp 43), none, (some 41), false⟩])))
                    (.cond (.tmp 41)
                     (.seq (.ops [⟨.copy 44 (.tmp 11), none, (some 44), false⟩,
                        ⟨.copy 45 (.tmp 0), none, (some 45), false⟩,
                        ⟨.len 46 false (.tmp 45), none, (some 46), false⟩,
                        ⟨.bin 47 .rem (.tmp 44) (.tmp 46), none, (some 47), false⟩,
                        ⟨.copy 12 (.tmp 47), none, (some 12), false⟩])
                      (.ops [⟨.copy 48 (.tmp 12), none, (some 48), false⟩,
                        ⟨.bin 49 .add (.tmp 48) (.const (.int .i64 1)), none, (some 49), false⟩,
                        ⟨.copy 50 (.tmp 0), none, (some 50), false⟩,
                        ⟨.len 51 false (.tmp 50), none, (some 51), false⟩,
                        ⟨.bin 52 .rem (.tmp 49) (.tmp 51), none, (some 52), false⟩,
                        ⟨.copy 13 (.tmp 52), none, (some 13), false⟩]))
                     (.seq (.ops [⟨.bin 54 .eql (.tmp 40) (.const (.int .i64 2)), none, (some 54), false⟩,
                        ⟨.copy 53 (.tmp 54), none, (some 53), false⟩])
                      (.cond (.tmp 53)
                       (.ops [⟨.copy 55 (.tmp 11), none, (some 55), false⟩,
                         ⟨.bin 56 .rem (.tmp 55) (.const (.int .i64 19)), none, (some 56), false⟩,
                         ⟨.bin 57 .add (.tmp 56) (.const (.int .i64 6)), none, (some 57), false⟩,
                         ⟨.copy 12 (.tmp 57), none, (some 12), false⟩])
                       (.seq (.ops [⟨.bin 59 .eql (.tmp 40) (.const (.int .i64 3)), none, (some 59), false⟩,
                          ⟨.copy 58 (.tmp 59), none, (some 58), false⟩])
                        (.cond (.tmp 58)
                         (.ops [⟨.copy 60 (.tmp 11), none, (some 60), false⟩,
                           ⟨.bin 61 .rem (.tmp 60) (.const (.int .i64 24)), none, (some 61), false⟩,
                           ⟨.bin 62 .add (.tmp 61) (.const (.int .i64 1)), none, (some 62), false⟩,
                           ⟨.copy 12 (.tmp 62), none, (some 12), false⟩])
                         (.skip)))))))))
                 (.ops [⟨.fadd 63 (.tmp 9) 1, none, (some 63), false⟩,
                   ⟨.loadB 64 (.tmp 63) none false, none, (some 64), false⟩,
                   ⟨.copy 65 (.tmp 10), none, (some 65), false⟩,
                   ⟨.copy 66 (.tmp 12), none, (some 66), false⟩,
                   ⟨.copy 67 (.tmp 13), none, (some 67), false⟩,
                   ⟨.copy 68 (.tmp 10), none, (some 68), false⟩,
                   ⟨.copy 69 (.tmp 12), none, (some 69), false⟩,
                   ⟨.copy 70 (.tmp 13), none, (some 70), false⟩,
                   ⟨.copy 71 (.tmp 0), none, (some 71), false⟩,
                   ⟨.call (some 72) 60 sg60 [(.tmp 68), (.tmp 69), (.tmp 70), (.tmp 71)] [.none, .none, .none, .none], none, (some 72), false⟩,
                   ⟨.build 73 [(.int .i64 0), (.int .i64 0), (.int .i64 0), (.int .i64 0)] [(0, 1, (.tmp 65)), (1, 1, (.tmp 66)), (2, 1, (.tmp 67)), (3, 1, (.tmp 72))] [], none, (some 73), false⟩,
                   ⟨.lit 74 27 4 [(.tmp 73)] [.none], none, (some 74), false⟩,
                   ⟨.app 75 27 32 true (.tmp 64) (.tmp 74) [(.box 63 0), .none], none, (some 75), false⟩,
                   ⟨.fadd 76 (.tmp 9) 1, none, (some 76), false⟩,
                   ⟨.storeB (.tmp 76) (.tmp 75) none (.slot 75), none, none, false⟩])))))
             (.ops [⟨.bin 77 .add (.tmp 33) (.const (.int .i64 1)), none, (some 77), false⟩,
               ⟨.copy 33 (.tmp 77), none, (some 33), false⟩])))))))
       (.seq (.ops [⟨.loadB 78 (.tmp 9) (some 2) false, none, (some 78), false⟩,
          ⟨.storeB (.tmp 6) (.tmp 78) (some 2) (.box 9 2), none, none, false⟩,
          ⟨.copy 7 (.const (.bool true)), none, (some 7), false⟩])
        (.ret [(.cell 6 (some 2) false), (.tmp 7)] [(.box 6 2), .none]))))))
theorem k20 (r52 r58 r60 r59 : Rel) : compileFn (E20 r52 r58 r60 r59) Try.f20 sg20 hs20 = some c20 := by kernel_rfl
/- loop.example/g01334/laws.heldClueS -/
noncomputable def l63 : Deps := []
noncomputable def E63 : Env := mkE Try.prog [0, 1, 2, 3, 5] [] (l63) []
noncomputable def hs63 : HS := [[2, 3, 4, 6, 7, 8, 9, 10, 11, 12, 13, 14, 15, 16, 17, 18, 19, 20, 21, 22, 23, 24, 25, 26, 27, 28, 29, 30, 31, 32, 33, 34, 35, 36, 37, 38, 39, 40, 41, 42, 43, 44, 45, 46, 47, 48]]
noncomputable def c63 : Cmd :=
  .seq (.ops [⟨.copy 4 (.const (.int .i64 0)), none, (some 4), false⟩])
   (.seq (.seq (.ops [⟨.copy 5 (.const (.int .i64 0)), none, (some 5), false⟩])
     (.block 0 (.loop [true, true, false, false, false, true, false, false, false, false, false, false, false, false, false, false, false, false, false, false, false, false, false, false, false, false, false, false, false, false, false, false, false, false, false, false, false, false, false, false, false, false, false, false, false, false, false, false, false]
       (.seq (.seq (.ops [⟨.copy 6 (.tmp 5), none, (some 6), false⟩,
           ⟨.copy 7 (.tmp 0), none, (some 7), false⟩,
           ⟨.len 8 false (.tmp 7), none, (some 8), false⟩,
           ⟨.bin 9 .lss (.tmp 6) (.tmp 8), none, (some 9), false⟩])
         (.cond (.tmp 9)
          (.skip)
          (.exit 0)))
        (.seq (.block 1 (.seq (.seq (.ops [⟨.copy 12 (.tmp 0), none, (some 12), false⟩,
              ⟨.copy 13 (.tmp 5), none, (some 13), false⟩,
              ⟨.iadd 14 12 27 (.tmp 13), none, (some 14), false⟩,
              ⟨.fadd 15 (.tmp 14) 0, none, (some 15), false⟩,
              ⟨.loadE 16 12 15 none true, none, (some 16), false⟩,
              ⟨.copy 17 (.tmp 1), none, (some 17), false⟩,
              ⟨.bin 18 .neq (.tmp 16) (.tmp 17), none, (some 18), false⟩])
            (.cond (.tmp 18)
             (.seq (.ops [⟨.copy 4 (.const (.int .i64 (-1))), none, (some 4), false⟩])
              (.ret [(.tmp 4)] [.none]))
             (.skip)))
           (.seq (.ops [⟨.copy 19 (.tmp 1), none, (some 19), false⟩,
              ⟨.bin 20 .add (.tmp 19) (.const (.int .i64 1)), none, (some 20), false⟩,
              ⟨.copy 1 (.tmp 20), none, (some 1), false⟩])
            (.seq (.seq (.ops [⟨.copy 21 (.tmp 0), none, (some 21), false⟩,
                ⟨.copy 22 (.tmp 5), none, (some 22), false⟩,
                ⟨.iadd 23 21 27 (.tmp 22), none, (some 23), false⟩,
                ⟨.fadd 24 (.tmp 23) 1, none, (some 24), false⟩,
                ⟨.loadE 25 21 24 none true, none, (some 25), false⟩,
                ⟨.copy 26 (.tmp 1), none, (some 26), false⟩,
                ⟨.bin 27 .neq (.tmp 25) (.tmp 26), none, (some 27), false⟩])
              (.cond (.tmp 27)
               (.seq (.ops [⟨.copy 4 (.const (.int .i64 (-1))), none, (some 4), false⟩])
                (.ret [(.tmp 4)] [.none]))
               (.skip)))
             (.seq (.ops [⟨.copy 28 (.tmp 1), none, (some 28), false⟩,
                ⟨.bin 29 .add (.tmp 28) (.const (.int .i64 1)), none, (some 29), false⟩,
                ⟨.copy 1 (.tmp 29), none, (some 1), false⟩])
              (.seq (.seq (.ops [⟨.copy 30 (.tmp 0), none, (some 30), false⟩,
                  ⟨.copy 31 (.tmp 5), none, (some 31), false⟩,
                  ⟨.iadd 32 30 27 (.tmp 31), none, (some 32), false⟩,
                  ⟨.fadd 33 (.tmp 32) 2, none, (some 33), false⟩,
                  ⟨.loadE 34 30 33 none true, none, (some 34), false⟩,
                  ⟨.copy 35 (.tmp 1), none, (some 35), false⟩,
                  ⟨.bin 36 .neq (.tmp 34) (.tmp 35), none, (some 36), false⟩])
                (.cond (.tmp 36)
                 (.seq (.ops [⟨.copy 4 (.const (.int .i64 (-1))), none, (some 4), false⟩])
                  (.ret [(.tmp 4)] [.none]))
                 (.skip)))
               (.seq (.ops [⟨.copy 37 (.tmp 1), none, (some 37), false⟩,
                  ⟨.bin 38 .add (.tmp 37) (.const (.int .i64 1)), none, (some 38), false⟩,
                  ⟨.copy 1 (.tmp 38), none, (some 1), false⟩])
                (.seq (.seq (.ops [⟨.copy 39 (.tmp 0), none, (some 39), false⟩,
                    ⟨.copy 40 (.tmp 5), none, (some 40), false⟩,
                    ⟨.iadd 41 39 27 (.tmp 40), none, (some 41), false⟩,
                    ⟨.fadd 42 (.tmp 41) 3, none, (some 42), false⟩,
                    ⟨.loadE 43 39 42 none true, none, (some 43), false⟩,
                    ⟨.copy 44 (.tmp 1), none, (some 44), false⟩,
                    ⟨.bin 45 .neq (.tmp 43) (.tmp 44), none, (some 45), false⟩])
                  (.cond (.tmp 45)
                   (.seq (.ops [⟨.copy 4 (.const (.int .i64 (-1))), none, (some 4), false⟩])
                    (.ret [(.tmp 4)] [.none]))
                   (.skip)))
                 (.ops [⟨.copy 46 (.tmp 1), none, (some 46), false⟩,
                   ⟨.bin 47 .add (.tmp 46) (.const (.int .i64 1)), none, (some 47), false⟩,
                   ⟨.copy 1 (.tmp 47), none, (some 1), false⟩])))))))))
         (.ops [⟨.copy 10 (.tmp 5), none, (some 10), false⟩,
           ⟨.bin 11 .add (.tmp 10) (.const (.int .i64 1)), none, (some 11), false⟩,
           ⟨.copy 5 (.tmp 11), none, (some 5), false⟩]))))))
    (.seq (.ops [⟨.copy 48 (.tmp 1), none, (some 48), false⟩,
       ⟨.copy 4 (.tmp 48), none, (some 4), false⟩])
     (.ret [(.tmp 4)] [.none])))
theorem k63 : compileFn (E63) Try.f63 sg63 hs63 = some c63 := by kernel_rfl
/- loop.example/g01334/laws.heldPuzzle -/
noncomputable def l24 (r63 : Rel) : Deps := [(63, sg63, r63)]
noncomputable def E24 (r63 : Rel) : Env := mkE Try.prog [0, 1, 2, 3] [] (l24 r63) []
noncomputable def hs24 : HS := []
noncomputable def c24 : Cmd :=
  .seq (.ops [⟨.box 2 .sh (.tmp 0) .none, none, (some 2), false⟩,
     ⟨.copy 4 (.const (.int .i64 0)), none, (some 4), false⟩])
   (.seq (.ops [⟨.fadd 5 (.tmp 2) 1, none, (some 5), false⟩,
      ⟨.loadB 6 (.tmp 5) none false, none, (some 6), false⟩,
      ⟨.copy 7 (.tmp 1), none, (some 7), false⟩,
      ⟨.call (some 8) 63 sg63 [(.tmp 6), (.tmp 7)] [.none, .none], none, (some 8), false⟩,
      ⟨.copy 1 (.tmp 8), none, (some 1), false⟩])
    (.seq (.seq (.ops [⟨.copy 9 (.tmp 1), none, (some 9), false⟩,
        ⟨.bin 10 .lss (.tmp 9) (.const (.int .i64 0)), none, (some 10), false⟩])
      (.cond (.tmp 10)
       (.seq (.ops [⟨.copy 4 (.const (.int .i64 (-1))), none, (some 4), false⟩])
        (.ret [(.tmp 4)] [.none]))
       (.skip)))
     (.seq (.ops [⟨.copy 11 (.tmp 1), none, (some 11), false⟩,
        ⟨.copy 4 (.tmp 11), none, (some 4), false⟩])
      (.ret [(.tmp 4)] [.none]))))
theorem k24 (r63 : Rel) : compileFn (E24 r63) Try.f24 sg24 hs24 = some c24 := by kernel_rfl
/- loop.example/g01334/laws.FnExactMakePuzzle -/
noncomputable def l4 (r16 r19 r20 r21 r18 r22 r23 r24 : Rel) : Deps := [(16, sg16, r16), (19, sg19, r19), (20, sg20, r20), (21, sg21, r21), (18, sg18, r18), (22, sg22, r22), (23, sg23, r23), (24, sg24, r24)]
noncomputable def E4 (r16 r19 r20 r21 r18 r22 r23 r24 : Rel) : Env := mkE Try.prog [0, 1, 2, 3, 4, 5, 7, 8, 9, 10, 11, 12, 13, 14, 15, 16] [] (l4 r16 r19 r20 r21 r18 r22 r23 r24) []
noncomputable def hs4 : HS := []
noncomputable def c4 : Cmd :=
  .seq (.ops [⟨.copy 6 (.const (.bool false)), none, (some 6), false⟩])
   (.seq (.seq (.ops [⟨.copy 17 (.tmp 0), none, (some 17), false⟩,
       ⟨.len 18 false (.tmp 17), none, (some 18), false⟩,
       ⟨.bin 19 .gtr (.tmp 18) (.const (.int .i64 1048576)), none, (some 19), false⟩])
     (.cond (.tmp 19)
      (.seq (.ops [⟨.copy 6 (.const (.bool true)), none, (some 6), false⟩])
       (.ret [(.tmp 6)] [.none]))
      (.skip)))
    (.seq (.ops [⟨.copy 21 (.tmp 0), none, (some 21), false⟩,
       ⟨.call (some 22) 16 sg16 [(.tmp 21)] [.none], none, (some 22), false⟩,
       ⟨.copy 23 (.tmp 1), none, (some 23), false⟩,
       ⟨.copy 24 (.tmp 2), none, (some 24), false⟩,
       ⟨.call (some 25) 19 sg19 [(.tmp 22), (.tmp 23), (.tmp 24)] [.none, .none, .none], none, (some 25), false⟩,
       ⟨.copy 20 (.tmp 25), none, (some 20), false⟩,
       ⟨.ext 26 20 0, none, (some 26), false⟩,
       ⟨.ext 27 20 1, none, (some 27), false⟩,
       ⟨.alloc 7 .own [(.int .i64 0), .nil], none, (some 7), false⟩,
       ⟨.storeB (.tmp 7) (.tmp 26) (some 2) (.slot 26), none, none, false⟩,
       ⟨.copy 8 (.tmp 27), none, (some 8), false⟩])
     (.seq (.ops [⟨.copy 28 (.tmp 0), none, (some 28), false⟩,
        ⟨.call (some 29) 16 sg16 [(.tmp 28)] [.none], none, (some 29), false⟩,
        ⟨.take 9 (.tmp 29) (.slot 29), none, (some 9), false⟩])
      (.seq (.ops [⟨.copy 31 (.tmp 9), none, (some 31), false⟩,
         ⟨.copy 32 (.tmp 1), none, (some 32), false⟩,
         ⟨.copy 33 (.tmp 2), none, (some 33), false⟩,
         ⟨.call (some 34) 20 sg20 [(.tmp 31), (.tmp 32), (.tmp 33)] [.none, .none, .none], none, (some 34), false⟩,
         ⟨.copy 30 (.tmp 34), none, (some 30), false⟩,
         ⟨.ext 35 30 0, none, (some 35), false⟩,
         ⟨.ext 36 30 1, none, (some 36), false⟩,
         ⟨.alloc 10 .own [(.int .i64 0), .nil], none, (some 10), false⟩,
         ⟨.storeB (.tmp 10) (.tmp 35) (some 2) (.slot 35), none, none, false⟩,
         ⟨.copy 11 (.tmp 36), none, (some 11), false⟩])
       (.seq (.seq (.ops [⟨.loadB 37 (.tmp 10) (some 2) false, none, (some 37), false⟩,
           ⟨.loadB 38 (.tmp 7) (some 2) false, none, (some 38), false⟩,
           ⟨.call (some 39) 21 sg21 [(.tmp 37), (.tmp 38)] [.none, .none], none, (some 39), false⟩,
           ⟨.un 40 .not (.tmp 39), none, (some 40), false⟩,
           ⟨.copy 41 (.tmp 40), none, (some 41), false⟩,
           ⟨.copy 42 (.tmp 11), (some (41, false)), (some 42), true⟩,
           ⟨.copy 43 (.tmp 8), (some (41, false)), (some 43), true⟩,
           ⟨.beq 44 true (.tmp 42) (.tmp 43), (some (41, false)), (some 44), true⟩,
           ⟨.pick 45 (.tmp 41) (.const (.bool true)) (.tmp 44), none, (some 45), false⟩])
         (.cond (.tmp 45)
          (.seq (.ops [⟨.copy 6 (.const (.bool false)), none, (some 6), false⟩])
           (.ret [(.tmp 6)] [.none]))
          (.skip)))
        (.seq (.seq (.ops [⟨.copy 46 (.tmp 9), none, (some 46), false⟩,
            ⟨.copy 47 (.tmp 0), none, (some 47), false⟩,
            ⟨.call (some 48) 16 sg16 [(.tmp 47)] [.none], none, (some 48), false⟩,
            ⟨.call (some 49) 18 sg18 [(.tmp 46), (.tmp 48)] [.none, .none], none, (some 49), false⟩,
            ⟨.un 50 .not (.tmp 49), none, (some 50), false⟩])
          (.cond (.tmp 50)
           (.seq (.ops [⟨.copy 6 (.const (.bool false)), none, (some 6), false⟩])
            (.ret [(.tmp 6)] [.none]))
           (.skip)))
         (.seq (.ops [⟨.copy 12 (.const (.int .i64 1)), none, (some 12), false⟩])
          (.seq (.ops [⟨.copy 51 (.tmp 9), none, (some 51), false⟩,
             ⟨.copy 52 (.tmp 12), none, (some 52), false⟩,
             ⟨.callm 53 22 sg22 (.tmp 51) [(.tmp 52)] (.slot 9), none, (some 53), false⟩,
             ⟨.copy 12 (.tmp 53), none, (some 12), false⟩])
           (.seq (.seq (.ops [⟨.copy 54 (.tmp 12), none, (some 54), false⟩,
               ⟨.bin 55 .lss (.tmp 54) (.const (.int .i64 0)), none, (some 55), false⟩,
               ⟨.copy 56 (.tmp 55), none, (some 56), false⟩,
               ⟨.loadB 57 (.tmp 10) (some 2) false, (some (56, false)), (some 57), false⟩,
               ⟨.loadB 58 (.tmp 7) (some 2) false, (some (56, false)), (some 58), false⟩,
               ⟨.call (some 59) 21 sg21 [(.tmp 57), (.tmp 58)] [.none, .none], (some (56, false)), (some 59), true⟩,
               ⟨.un 60 .not (.tmp 59), (some (56, false)), (some 60), true⟩,
               ⟨.pick 61 (.tmp 56) (.const (.bool true)) (.tmp 60), none, (some 61), false⟩,
               ⟨.copy 62 (.tmp 61), none, (some 62), false⟩,
               ⟨.copy 63 (.tmp 11), (some (62, false)), (some 63), true⟩,
               ⟨.copy 64 (.tmp 8), (some (62, false)), (some 64), true⟩,
               ⟨.beq 65 true (.tmp 63) (.tmp 64), (some (62, false)), (some 65), true⟩,
               ⟨.pick 66 (.tmp 62) (.const (.bool true)) (.tmp 65), none, (some 66), false⟩])
             (.cond (.tmp 66)
              (.seq (.ops [⟨.copy 6 (.const (.bool false)), none, (some 6), false⟩])
               (.ret [(.tmp 6)] [.none]))
              (.skip)))
            (.seq (.ops [⟨.copy 13 (.const (.int .i64 1)), none, (some 13), false⟩])
             (.seq (.ops [⟨.loadB 67 (.tmp 10) (some 2) false, none, (some 67), false⟩,
                ⟨.copy 68 (.tmp 13), none, (some 68), false⟩,
                ⟨.callm 69 23 sg23 (.tmp 67) [(.tmp 68)] (.box 10 2), none, (some 69), false⟩,
                ⟨.copy 13 (.tmp 69), none, (some 13), false⟩])
              (.seq (.ops [⟨.copy 14 (.const (.int .i64 1)), none, (some 14), false⟩])
               (.seq (.ops [⟨.loadB 70 (.tmp 10) (some 2) false, none, (some 70), false⟩,
                  ⟨.copy 71 (.tmp 14), none, (some 71), false⟩,
                  ⟨.call (some 72) 24 sg24 [(.tmp 70), (.tmp 71)] [.none, .none], none, (some 72), false⟩,
                  ⟨.copy 14 (.tmp 72), none, (some 14), false⟩])
                (.seq (.seq (.ops [⟨.copy 73 (.tmp 14), none, (some 73), false⟩,
                    ⟨.bin 74 .lss (.tmp 73) (.const (.int .i64 0)), none, (some 74), false⟩])
                  (.cond (.tmp 74)
                   (.seq (.ops [⟨.copy 6 (.const (.bool false)), none, (some 6), false⟩])
                    (.ret [(.tmp 6)] [.none]))
                   (.skip)))
                 (.seq (.seq (.ops [⟨.copy 75 (.tmp 14), none, (some 75), false⟩,
                     ⟨.copy 76 (.tmp 13), none, (some 76), false⟩,
                     ⟨.bin 77 .neq (.tmp 75) (.tmp 76), none, (some 77), false⟩])
                   (.cond (.tmp 77)
                    (.seq (.ops [⟨.copy 6 (.const (.bool false)), none, (some 6), false⟩])
                     (.ret [(.tmp 6)] [.none]))
                    (.skip)))
                  (.seq (.ops [⟨.copy 79 (.tmp 0), none, (some 79), false⟩,
                     ⟨.call (some 80) 16 sg16 [(.tmp 79)] [.none], none, (some 80), false⟩,
                     ⟨.copy 81 (.tmp 1), none, (some 81), false⟩,
                     ⟨.copy 82 (.tmp 2), none, (some 82), false⟩,
                     ⟨.call (some 83) 20 sg20 [(.tmp 80), (.tmp 81), (.tmp 82)] [.none, .none, .none], none, (some 83), false⟩,
                     ⟨.copy 78 (.tmp 83), none, (some 78), false⟩,
                     ⟨.ext 84 78 0, none, (some 84), false⟩,
                     ⟨.ext 85 78 1, none, (some 85), false⟩,
                     ⟨.alloc 15 .own [(.int .i64 0), .nil], none, (some 15), false⟩,
                     ⟨.storeB (.tmp 15) (.tmp 84) (some 2) (.slot 84), none, none, false⟩,
                     ⟨.copy 16 (.tmp 85), none, (some 16), false⟩])
                   (.seq (.seq (.ops [⟨.loadB 86 (.tmp 15) (some 2) false, none, (some 86), false⟩,
                       ⟨.loadB 87 (.tmp 7) (some 2) false, none, (some 87), false⟩,
                       ⟨.call (some 88) 21 sg21 [(.tmp 86), (.tmp 87)] [.none, .none], none, (some 88), false⟩,
                       ⟨.un 89 .not (.tmp 88), none, (some 89), false⟩,
                       ⟨.copy 90 (.tmp 89), none, (some 90), false⟩,
                       ⟨.copy 91 (.tmp 16), (some (90, false)), (some 91), true⟩,
                       ⟨.copy 92 (.tmp 8), (some (90, false)), (some 92), true⟩,
                       ⟨.beq 93 true (.tmp 91) (.tmp 92), (some (90, false)), (some 93), true⟩,
                       ⟨.pick 94 (.tmp 90) (.const (.bool true)) (.tmp 93), none, (some 94), false⟩])
                     (.cond (.tmp 94)
                      (.seq (.ops [⟨.copy 6 (.const (.bool false)), none, (some 6), false⟩])
                       (.ret [(.tmp 6)] [.none]))
                      (.skip)))
                    (.seq (.ops [⟨.copy 14 (.const (.int .i64 1)), none, (some 14), false⟩])
                     (.seq (.ops [⟨.loadB 95 (.tmp 10) (some 2) false, none, (some 95), false⟩,
                        ⟨.copy 96 (.tmp 14), none, (some 96), false⟩,
                        ⟨.call (some 97) 24 sg24 [(.tmp 95), (.tmp 96)] [.none, .none], none, (some 97), false⟩,
                        ⟨.copy 14 (.tmp 97), none, (some 14), false⟩])
                      (.seq (.seq (.ops [⟨.copy 98 (.tmp 14), none, (some 98), false⟩,
                          ⟨.bin 99 .lss (.tmp 98) (.const (.int .i64 0)), none, (some 99), false⟩])
                        (.cond (.tmp 99)
                         (.seq (.ops [⟨.copy 6 (.const (.bool false)), none, (some 6), false⟩])
                          (.ret [(.tmp 6)] [.none]))
                         (.skip)))
                       (.seq (.seq (.ops [⟨.copy 100 (.tmp 14), none, (some 100), false⟩,
                           ⟨.copy 101 (.tmp 13), none, (some 101), false⟩,
                           ⟨.bin 102 .neq (.tmp 100) (.tmp 101), none, (some 102), false⟩])
                         (.cond (.tmp 102)
                          (.seq (.ops [⟨.copy 6 (.const (.bool false)), none, (some 6), false⟩])
                           (.ret [(.tmp 6)] [.none]))
                          (.skip)))
                        (.seq (.ops [⟨.copy 6 (.const (.bool true)), none, (some 6), false⟩])
                         (.ret [(.tmp 6)] [.none])))))))))))))))))))))))
theorem k4 (r16 r19 r20 r21 r18 r22 r23 r24 : Rel) : compileFn (E4 r16 r19 r20 r21 r18 r22 r23 r24) Try.f4 sg4 hs4 = some c4 := by kernel_rfl
end Go.Proofs.Ytfljbfgceilppaa
