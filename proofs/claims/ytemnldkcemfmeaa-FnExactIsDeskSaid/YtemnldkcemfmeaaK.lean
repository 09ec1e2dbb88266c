/- The functions that IsDesk reaches, as commands, each checked by the kernel; and what each of them does. Conditions: none. -/
import Derived.Test.YtemnldkcemfmeaaDenC
import Derived.KernelRfl
import Derived.Test.YtemnldkcemfmeaaProg
set_option linter.unusedVariables false
set_option linter.unusedSimpArgs false
set_option linter.unnecessarySimpa false
set_option autoImplicit false
namespace Go.Proofs.Ytemnldkcemfmeaa
open Go.Den

def gB (b : B3) : Bool := [b.a, b.b, b.c].all (inR 1 50)
def gS (t : B3) : Bool := inR 1 1000 t.a && (inR 0 1000 t.b && inR 1 1000 t.c)
def gTh (ns : List Int) : Bool := inR 1 9 ns.length && ns.all (inR 1 100)
def gBx (bs : List B3) : Bool := inR 1 7 bs.length && bs.all gB
def gSt (ts : List B3) : Bool := inR 1 7 ts.length && ts.all gS
def gDk (th : List Int) (bx st : List B3) : Bool := gTh th && (gBx bx && gSt st)
def Dk (eB eS : Nat) (v : PV) (th : List Int) (bx st : List B3) : Prop := ∃ v1 v2 v3, v = .agg [v1, v2, v3] ∧ Sl 3 I v1 th ∧ Sl eB pB v2 bx ∧ Sl eS pB v3 st
def sz (left : Int) (n : Nat) : Int := if left < n then -1 else left - n
def szD (left : Int) (th : List Int) (bx st : List B3) : Int :=
  if sz left th.length < 0 then -1 else if sz (sz left th.length) bx.length < 0 then -1 else if sz (sz (sz left th.length) bx.length) st.length < 0 then -1 else sz (sz (sz left th.length) bx.length) st.length
/-- A variable in memory that holds a number. -/
def Num (H : Boxes) (r : Nat) (n : Int) : Prop := ∃ ck, H[r]? = some (ck, [I n]) ∧ ck ≠ .fn
def R3 : Rel := fun _ vs _ rs _ => ∃ v th bx st, vs = [v] ∧ Dk 51 55 v th bx st ∧ rs = [.bool true]
def R4 : Rel := fun _ vs _ rs _ => ∃ v th bx st left, vs = [v, I left] ∧ Dk 51 55 v th bx st ∧ 0 ≤ left ∧ left ≤ 1048576 ∧ rs = [I (szD left th bx st)]
def R5 : Rel := fun _ vs _ rs _ => ∃ v th bx st, vs = [v] ∧ Dk 49 53 v th bx st ∧ rs = [.bool (gDk th bx st)]
def R6 : Rel := fun _ vs _ rs _ => ∃ v th bx st, vs = [v] ∧ Dk 51 55 v th bx st ∧ th.length ≤ 1048576 ∧ bx.length ≤ 1048576 ∧ st.length ≤ 1048576 ∧ rs = [.agg [.sl 3 (th.map I), .sl 49 (bx.map pB), .sl 53 (st.map pB)]]
def R7 : Rel := fun _ vs _ rs _ => ∃ v th bx st, vs = [v] ∧ Dk 49 53 v th bx st ∧ rs = [.bool (gDk th bx st)]
def R8 : Rel := fun _ vs _ rs _ => ∃ v w th bx st th' bx' st', vs = [v, w] ∧ Dk 49 53 v th bx st ∧ Dk 49 53 w th' bx' st' ∧ rs = [.bool (decide (th = th' ∧ bx = bx' ∧ st = st'))]
def R9 : Rel := fun _ vs _ rs _ => ∃ v xs left, vs = [v, I left] ∧ Sl 3 I v xs ∧ -1 ≤ left ∧ left ≤ 1048576 ∧ rs = [I (sz left xs.length)]
def R10 : Rel := fun _ vs _ rs _ => ∃ v xs left, vs = [v, I left] ∧ Sl 51 pB v xs ∧ -1 ≤ left ∧ left ≤ 1048576 ∧ rs = [I (sz left xs.length)]
def R11 : Rel := fun _ vs _ rs _ => ∃ v xs left, vs = [v, I left] ∧ Sl 55 pB v xs ∧ -1 ≤ left ∧ left ≤ 1048576 ∧ rs = [I (sz left xs.length)]
def R12 : Rel := fun _ vs _ rs _ => ∃ v th bx st, vs = [v] ∧ Dk 49 53 v th bx st ∧ rs = [.bool (gDk th bx st)]
def R13 : Rel := fun _ vs _ rs _ => ∃ v xs, vs = [v] ∧ Sl 3 I v xs ∧ xs.length ≤ 1048576 ∧ rs = [.sl 3 (xs.map I)]
def R14 : Rel := fun _ vs _ rs _ => ∃ v xs, vs = [v] ∧ Sl 51 pB v xs ∧ xs.length ≤ 1048576 ∧ rs = [.sl 49 (xs.map pB)]
def R15 : Rel := fun _ vs _ rs _ => ∃ v xs, vs = [v] ∧ Sl 55 pB v xs ∧ xs.length ≤ 1048576 ∧ rs = [.sl 53 (xs.map pB)]
def R16 : Rel := fun _ vs _ rs _ => ∃ v xs, vs = [v] ∧ Sl 3 I v xs ∧ rs = [.bool (gTh xs)]
def R17 : Rel := fun _ vs _ rs _ => ∃ v xs, vs = [v] ∧ Sl 49 pB v xs ∧ rs = [.bool (gBx xs)]
def R18 : Rel := fun _ vs _ rs _ => ∃ v xs, vs = [v] ∧ Sl 53 pB v xs ∧ rs = [.bool (gSt xs)]
def R19 : Rel := fun _ vs _ rs _ => ∃ v w xs ys, vs = [v, w] ∧ Sl 3 I v xs ∧ Sl 3 I w ys ∧ rs = [.bool (decide (xs = ys))]
def R20 : Rel := fun _ vs _ rs _ => ∃ v w xs ys, vs = [v, w] ∧ Sl 49 pB v xs ∧ Sl 49 pB w ys ∧ rs = [.bool (decide (xs = ys))]
def R21 : Rel := fun _ vs _ rs _ => ∃ v w xs ys, vs = [v, w] ∧ Sl 53 pB v xs ∧ Sl 53 pB w ys ∧ rs = [.bool (decide (xs = ys))]
def R22 : Rel := fun _ vs _ rs _ => ∃ v xs, vs = [v] ∧ Sl 3 I v xs ∧ rs = [.bool (gTh xs)]
def R23 : Rel := fun _ vs _ rs _ => ∃ v xs, vs = [v] ∧ Sl 49 pB v xs ∧ rs = [.bool (gBx xs)]
def R24 : Rel := fun _ vs _ rs _ => ∃ v xs, vs = [v] ∧ Sl 53 pB v xs ∧ rs = [.bool (gSt xs)]
def R25 : Rel := fun _ vs _ rs _ => ∃ b, vs = [pB b] ∧ rs = [pB b]
def R26 : Rel := fun _ vs _ rs _ => ∃ b, vs = [pB b] ∧ rs = [pB b]
def R27 : Rel := fun _ vs _ rs _ => ∃ n lo hi, vs = [I n, I lo, I hi] ∧ rs = [.bool (inR lo hi n)]
def R28 : Rel := fun _ vs _ rs _ => ∃ v ns lo hi, vs = [v, I lo, I hi] ∧ Sl 3 I v ns ∧ rs = [.bool (ns.all (inR lo hi))]
def R29 : Rel := fun _ vs _ rs _ => ∃ v xs, vs = [v, .fn 30 []] ∧ Sl 49 pB v xs ∧ rs = [.bool (xs.any fun b => !gB b)]
def R30 : Rel := fun _ vs _ rs _ => ∃ b, vs = [pB b] ∧ rs = [.bool (!gB b)]
def R31 : Rel := fun _ vs _ rs _ => ∃ b, vs = [pB b] ∧ rs = [.bool (gB b)]
def R32 : Rel := fun _ vs _ rs _ => ∃ v xs, vs = [v, .fn 33 []] ∧ Sl 53 pB v xs ∧ rs = [.bool (xs.any fun b => !gS b)]
def R33 : Rel := fun _ vs _ rs _ => ∃ b, vs = [pB b] ∧ rs = [.bool (!gS b)]
def R34 : Rel := fun _ vs _ rs _ => ∃ a b, vs = [pB a, pB b] ∧ rs = [.bool (decide (a = b))]
def R35 : Rel := fun _ vs _ rs _ => ∃ a b, vs = [pB a, pB b] ∧ rs = [.bool (decide (a = b))]
def R36 : Rel := fun _ vs _ rs _ => ∃ n lo hi, vs = [I n, I lo, I hi] ∧ rs = [.bool (inR lo hi n)]
def R37 : Rel := fun _ vs _ rs _ => ∃ v ns lo hi, vs = [v, I lo, I hi] ∧ Sl 3 I v ns ∧ rs = [.bool (ns.all (inR lo hi))]
def R38 : Rel := fun _ vs _ rs _ => ∃ b, vs = [pB b] ∧ rs = [.bool (gB b)]
def R39 : Rel := fun _ vs H rs _ => ∃ v ns r1 r2 lo hi, vs = [v, .fn 40 [.ref r1 0, .ref r2 0]] ∧ Sl 3 I v ns ∧ Num H r1 lo ∧ Num H r2 hi ∧ rs = [.bool (ns.any fun n => !inR lo hi n)]
def R40 : Rel := fun _ vs H rs _ => ∃ n r1 r2 lo hi, vs = [I n, .ref r1 0, .ref r2 0] ∧ Num H r1 lo ∧ Num H r2 hi ∧ rs = [.bool (!inR lo hi n)]
def R41 : Rel := fun _ vs _ rs _ => ∃ v xs, vs = [v, .fn 30 []] ∧ Sl 49 pB v xs ∧ rs = [I (idx (fun b => !gB b) xs)]
def R42 : Rel := fun _ vs _ rs _ => ∃ b : B3, vs = [pB b] ∧ rs = [.sl 3 ([b.a, b.b, b.c].map I)]
def R43 : Rel := fun _ vs _ rs _ => ∃ v xs, vs = [v, .fn 33 []] ∧ Sl 53 pB v xs ∧ rs = [I (idx (fun b => !gS b) xs)]
def R44 : Rel := fun _ vs H rs _ => ∃ v ns r1 r2 lo hi, vs = [v, .fn 40 [.ref r1 0, .ref r2 0]] ∧ Sl 3 I v ns ∧ Num H r1 lo ∧ Num H r2 hi ∧ rs = [I (idx (fun n => !inR lo hi n) ns)]
abbrev sg3 : Sig := { ps := [.rd], rs := [.fl], pure := true }
abbrev sg4 : Sig := { ps := [.rd, .fl], rs := [.fl], pure := true }
abbrev sg5 : Sig := { ps := [.rd], rs := [.fl], pure := true }
abbrev sg6 : Sig := { ps := [.rd], rs := [.own], pure := true }
abbrev sg7 : Sig := { ps := [.rd], rs := [.fl], pure := true }
abbrev sg8 : Sig := { ps := [.rd, .rd], rs := [.fl], pure := true }
abbrev sg9 : Sig := { ps := [.rd, .fl], rs := [.fl], pure := true }
abbrev sg10 : Sig := { ps := [.rd, .fl], rs := [.fl], pure := true }
abbrev sg11 : Sig := { ps := [.rd, .fl], rs := [.fl], pure := true }
abbrev sg12 : Sig := { ps := [.rd], rs := [.fl], pure := true }
abbrev sg13 : Sig := { ps := [.rd], rs := [.own], pure := true }
abbrev sg14 : Sig := { ps := [.rd], rs := [.own], pure := true }
abbrev sg15 : Sig := { ps := [.rd], rs := [.own], pure := true }
abbrev sg16 : Sig := { ps := [.rd], rs := [.fl], pure := true }
abbrev sg17 : Sig := { ps := [.rd], rs := [.fl], pure := true }
abbrev sg18 : Sig := { ps := [.rd], rs := [.fl], pure := true }
abbrev sg19 : Sig := { ps := [.rd, .rd], rs := [.fl], pure := true }
abbrev sg20 : Sig := { ps := [.rd, .rd], rs := [.fl], pure := true }
abbrev sg21 : Sig := { ps := [.rd, .rd], rs := [.fl], pure := true }
abbrev sg22 : Sig := { ps := [.rd], rs := [.fl], pure := true }
abbrev sg23 : Sig := { ps := [.rd], rs := [.fl], pure := true }
abbrev sg24 : Sig := { ps := [.rd], rs := [.fl], pure := true }
abbrev sg25 : Sig := { ps := [.fl], rs := [.fl], pure := true }
abbrev sg26 : Sig := { ps := [.fl], rs := [.fl], pure := true }
abbrev sg27 : Sig := { ps := [.fl, .fl, .fl], rs := [.fl], pure := true }
abbrev sg28 : Sig := { ps := [.rd, .fl, .fl], rs := [.fl], pure := true }
abbrev sg29 : Sig := { ps := [.rd, .fn], rs := [.fl], pure := true }
abbrev sg30 : Sig := { ps := [.fl], rs := [.fl], pure := true }
abbrev sg31 : Sig := { ps := [.fl], rs := [.fl], pure := true }
abbrev sg32 : Sig := { ps := [.rd, .fn], rs := [.fl], pure := true }
abbrev sg33 : Sig := { ps := [.fl], rs := [.fl], pure := true }
abbrev sg34 : Sig := { ps := [.fl, .fl], rs := [.fl], pure := true }
abbrev sg35 : Sig := { ps := [.fl, .fl], rs := [.fl], pure := true }
abbrev sg36 : Sig := { ps := [.fl, .fl, .fl], rs := [.fl], pure := true }
abbrev sg37 : Sig := { ps := [.rd, .fl, .fl], rs := [.fl], pure := true }
abbrev sg38 : Sig := { ps := [.fl], rs := [.fl], pure := true }
abbrev sg39 : Sig := { ps := [.rd, .fn], rs := [.fl], pure := true }
abbrev sg40 : Sig := { ps := [.fl, (.ptr .sh), (.ptr .sh)], rs := [.fl], pure := true }
abbrev sg41 : Sig := { ps := [.rd, .fn], rs := [.fl], pure := true }
abbrev sg42 : Sig := { ps := [.fl], rs := [.own], pure := true }
abbrev sg43 : Sig := { ps := [.rd, .fn], rs := [.fl], pure := true }
abbrev sg44 : Sig := { ps := [.rd, .fn], rs := [.fl], pure := true }
/- loop.example/g01334/laws.FnExactIsDesk -/
noncomputable def l3 : Deps := [(4, sg4, R4), (6, sg6, R6), (5, sg5, R5), (7, sg7, R7), (8, sg8, R8)]
noncomputable def E3 : Env := mkE Try.prog [0, 1, 3, 4, 5, 6] [] l3 []
noncomputable def hs3 : HS := []
noncomputable def c3 : Cmd :=
  .seq (.ops [⟨.box 1 .sh (.tmp 0) .none, none, (some 1), false⟩,
     ⟨.copy 2 (.const (.bool false)), none, (some 2), false⟩])
   (.seq (.ops [⟨.copy 3 (.const (.int .i64 1048576)), none, (some 3), false⟩])
    (.seq (.ops [⟨.loadB 7 (.tmp 1) (some 3) false, none, (some 7), false⟩,
       ⟨.copy 8 (.tmp 3), none, (some 8), false⟩,
       ⟨.call (some 9) 4 sg4 [(.tmp 7), (.tmp 8)] [.none, .none], none, (some 9), false⟩,
       ⟨.copy 3 (.tmp 9), none, (some 3), false⟩])
     (.seq (.seq (.ops [⟨.copy 10 (.tmp 3), none, (some 10), false⟩,
         ⟨.bin 11 .lss (.tmp 10) (.const (.int .i64 0)), none, (some 11), false⟩])
       (.cond (.tmp 11)
        (.seq (.ops [⟨.copy 2 (.const (.bool true)), none, (some 2), false⟩])
         (.ret [(.tmp 2)] [.none]))
        (.skip)))
      (.seq (.ops [⟨.loadB 12 (.tmp 1) (some 3) false, none, (some 12), false⟩,
         ⟨.call (some 13) 6 sg6 [(.tmp 12)] [.none], none, (some 13), false⟩,
         ⟨.call (some 14) 5 sg5 [(.tmp 13)] [.none], none, (some 14), false⟩,
         ⟨.copy 4 (.tmp 14), none, (some 4), false⟩])
       (.seq (.ops [⟨.loadB 15 (.tmp 1) (some 3) false, none, (some 15), false⟩,
          ⟨.call (some 16) 6 sg6 [(.tmp 15)] [.none], none, (some 16), false⟩,
          ⟨.alloc 5 .own [.nil, .nil, .nil], none, (some 5), false⟩,
          ⟨.storeB (.tmp 5) (.tmp 16) (some 3) (.slot 16), none, none, false⟩])
        (.seq (.ops [⟨.loadB 17 (.tmp 5) (some 3) false, none, (some 17), false⟩,
           ⟨.call (some 18) 7 sg7 [(.tmp 17)] [.none], none, (some 18), false⟩,
           ⟨.copy 6 (.tmp 18), none, (some 6), false⟩])
         (.seq (.seq (.ops [⟨.copy 19 (.tmp 6), none, (some 19), false⟩,
             ⟨.copy 20 (.tmp 4), none, (some 20), false⟩,
             ⟨.beq 21 true (.tmp 19) (.tmp 20), none, (some 21), false⟩])
           (.cond (.tmp 21)
            (.seq (.ops [⟨.copy 2 (.const (.bool false)), none, (some 2), false⟩])
             (.ret [(.tmp 2)] [.none]))
            (.skip)))
          (.seq (.seq (.ops [⟨.loadB 22 (.tmp 5) (some 3) false, none, (some 22), false⟩,
              ⟨.loadB 23 (.tmp 1) (some 3) false, none, (some 23), false⟩,
              ⟨.call (some 24) 6 sg6 [(.tmp 23)] [.none], none, (some 24), false⟩,
              ⟨.call (some 25) 8 sg8 [(.tmp 22), (.tmp 24)] [.none, .none], none, (some 25), false⟩,
              ⟨.un 26 .not (.tmp 25), none, (some 26), false⟩])
            (.cond (.tmp 26)
             (.seq (.ops [⟨.copy 2 (.const (.bool false)), none, (some 2), false⟩])
              (.ret [(.tmp 2)] [.none]))
             (.skip)))
           (.seq (.ops [⟨.copy 2 (.const (.bool true)), none, (some 2), false⟩])
            (.ret [(.tmp 2)] [.none]))))))))))
theorem k3 : compileFn E3 Try.f3 sg3 hs3 = some c3 := by kernel_rfl

/- loop.example/g01334/laws.szDesk -/
noncomputable def l4 : Deps := [(9, sg9, R9), (10, sg10, R10), (11, sg11, R11)]
noncomputable def E4 : Env := mkE Try.prog [0, 1, 2, 3] [] l4 []
noncomputable def hs4 : HS := []
noncomputable def c4 : Cmd :=
  .seq (.ops [⟨.box 2 .sh (.tmp 0) .none, none, (some 2), false⟩,
     ⟨.copy 4 (.const (.int .i64 0)), none, (some 4), false⟩])
   (.seq (.ops [⟨.fadd 5 (.tmp 2) 0, none, (some 5), false⟩,
      ⟨.loadB 6 (.tmp 5) none false, none, (some 6), false⟩,
      ⟨.copy 7 (.tmp 1), none, (some 7), false⟩,
      ⟨.call (some 8) 9 sg9 [(.tmp 6), (.tmp 7)] [.none, .none], none, (some 8), false⟩,
      ⟨.copy 1 (.tmp 8), none, (some 1), false⟩])
    (.seq (.seq (.ops [⟨.copy 9 (.tmp 1), none, (some 9), false⟩,
        ⟨.bin 10 .lss (.tmp 9) (.const (.int .i64 0)), none, (some 10), false⟩])
      (.cond (.tmp 10)
       (.seq (.ops [⟨.copy 4 (.const (.int .i64 (-1))), none, (some 4), false⟩])
        (.ret [(.tmp 4)] [.none]))
       (.skip)))
     (.seq (.ops [⟨.fadd 11 (.tmp 2) 1, none, (some 11), false⟩,
        ⟨.loadB 12 (.tmp 11) none false, none, (some 12), false⟩,
        ⟨.copy 13 (.tmp 1), none, (some 13), false⟩,
        ⟨.call (some 14) 10 sg10 [(.tmp 12), (.tmp 13)] [.none, .none], none, (some 14), false⟩,
        ⟨.copy 1 (.tmp 14), none, (some 1), false⟩])
      (.seq (.seq (.ops [⟨.copy 15 (.tmp 1), none, (some 15), false⟩,
          ⟨.bin 16 .lss (.tmp 15) (.const (.int .i64 0)), none, (some 16), false⟩])
        (.cond (.tmp 16)
         (.seq (.ops [⟨.copy 4 (.const (.int .i64 (-1))), none, (some 4), false⟩])
          (.ret [(.tmp 4)] [.none]))
         (.skip)))
       (.seq (.ops [⟨.fadd 17 (.tmp 2) 2, none, (some 17), false⟩,
          ⟨.loadB 18 (.tmp 17) none false, none, (some 18), false⟩,
          ⟨.copy 19 (.tmp 1), none, (some 19), false⟩,
          ⟨.call (some 20) 11 sg11 [(.tmp 18), (.tmp 19)] [.none, .none], none, (some 20), false⟩,
          ⟨.copy 1 (.tmp 20), none, (some 1), false⟩])
        (.seq (.seq (.ops [⟨.copy 21 (.tmp 1), none, (some 21), false⟩,
            ⟨.bin 22 .lss (.tmp 21) (.const (.int .i64 0)), none, (some 22), false⟩])
          (.cond (.tmp 22)
           (.seq (.ops [⟨.copy 4 (.const (.int .i64 (-1))), none, (some 4), false⟩])
            (.ret [(.tmp 4)] [.none]))
           (.skip)))
         (.seq (.ops [⟨.copy 23 (.tmp 1), none, (some 23), false⟩,
            ⟨.copy 4 (.tmp 23), none, (some 4), false⟩])
          (.ret [(.tmp 4)] [.none]))))))))
theorem k4 : compileFn E4 Try.f4 sg4 hs4 = some c4 := by kernel_rfl

/- loop.example/g01334/spec.IsDesk -/
noncomputable def l5 : Deps := [(12, sg12, R12)]
noncomputable def E5 : Env := mkE Try.prog [0, 1] [] l5 []
noncomputable def hs5 : HS := []
noncomputable def c5 : Cmd :=
  .seq (.ops [⟨.box 1 .sh (.tmp 0) .none, none, (some 1), false⟩,
     ⟨.copy 2 (.const (.bool false)), none, (some 2), false⟩])
   (.seq (.ops [⟨.loadB 3 (.tmp 1) (some 3) false, none, (some 3), false⟩,
      ⟨.call (some 4) 12 sg12 [(.tmp 3)] [.none], none, (some 4), false⟩,
      ⟨.copy 2 (.tmp 4), none, (some 2), false⟩])
    (.ret [(.tmp 2)] [.none]))
theorem k5 : compileFn E5 Try.f5 sg5 hs5 = some c5 := by kernel_rfl

/- loop.example/g01334/laws.toDesk -/
noncomputable def l6 : Deps := [(13, sg13, R13), (14, sg14, R14), (15, sg15, R15)]
noncomputable def E6 : Env := mkE Try.prog [0, 1, 3] [] l6 []
noncomputable def hs6 : HS := []
noncomputable def c6 : Cmd :=
  .seq (.ops [⟨.box 1 .sh (.tmp 0) .none, none, (some 1), false⟩,
     ⟨.alloc 2 .own [.nil, .nil, .nil], none, (some 2), false⟩])
   (.seq (.ops [⟨.alloc 3 .own [.nil, .nil, .nil], none, (some 3), false⟩])
    (.seq (.ops [⟨.fadd 4 (.tmp 1) 0, none, (some 4), false⟩,
       ⟨.loadB 5 (.tmp 4) none false, none, (some 5), false⟩,
       ⟨.call (some 6) 13 sg13 [(.tmp 5)] [.none], none, (some 6), false⟩,
       ⟨.fadd 7 (.tmp 3) 0, none, (some 7), false⟩,
       ⟨.storeB (.tmp 7) (.tmp 6) none (.slot 6), none, none, false⟩])
     (.seq (.ops [⟨.fadd 8 (.tmp 1) 1, none, (some 8), false⟩,
        ⟨.loadB 9 (.tmp 8) none false, none, (some 9), false⟩,
        ⟨.call (some 10) 14 sg14 [(.tmp 9)] [.none], none, (some 10), false⟩,
        ⟨.fadd 11 (.tmp 3) 1, none, (some 11), false⟩,
        ⟨.storeB (.tmp 11) (.tmp 10) none (.slot 10), none, none, false⟩])
      (.seq (.ops [⟨.fadd 12 (.tmp 1) 2, none, (some 12), false⟩,
         ⟨.loadB 13 (.tmp 12) none false, none, (some 13), false⟩,
         ⟨.call (some 14) 15 sg15 [(.tmp 13)] [.none], none, (some 14), false⟩,
         ⟨.fadd 15 (.tmp 3) 2, none, (some 15), false⟩,
         ⟨.storeB (.tmp 15) (.tmp 14) none (.slot 14), none, none, false⟩])
       (.seq (.ops [⟨.loadB 16 (.tmp 3) (some 3) false, none, (some 16), false⟩,
          ⟨.storeB (.tmp 2) (.tmp 16) (some 3) (.box 3 3), none, none, false⟩])
        (.ret [(.cell 2 (some 3) false)] [(.box 2 3)]))))))
theorem k6 : compileFn E6 Try.f6 sg6 hs6 = some c6 := by kernel_rfl

/- loop.example/g01334/impl.IsDesk -/
noncomputable def l7 : Deps := [(16, sg16, R16), (17, sg17, R17), (18, sg18, R18)]
noncomputable def E7 : Env := mkE Try.prog [0, 1] [] l7 []
noncomputable def hs7 : HS := []
noncomputable def c7 : Cmd :=
  .seq (.ops [⟨.box 1 .sh (.tmp 0) .none, none, (some 1), false⟩,
     ⟨.copy 2 (.const (.bool false)), none, (some 2), false⟩])
   (.seq (.ops [⟨.fadd 3 (.tmp 1) 0, none, (some 3), false⟩,
      ⟨.loadB 4 (.tmp 3) none false, none, (some 4), false⟩,
      ⟨.call (some 5) 16 sg16 [(.tmp 4)] [.none], none, (some 5), false⟩,
      ⟨.copy 6 (.tmp 5), none, (some 6), false⟩,
      ⟨.fadd 7 (.tmp 1) 1, (some (6, true)), (some 7), false⟩,
      ⟨.loadB 8 (.tmp 7) none false, (some (6, true)), (some 8), false⟩,
      ⟨.call (some 9) 17 sg17 [(.tmp 8)] [.none], (some (6, true)), (some 9), true⟩,
      ⟨.pick 10 (.tmp 6) (.tmp 9) (.const (.bool false)), none, (some 10), false⟩,
      ⟨.copy 11 (.tmp 10), none, (some 11), false⟩,
      ⟨.fadd 12 (.tmp 1) 2, (some (11, true)), (some 12), false⟩,
      ⟨.loadB 13 (.tmp 12) none false, (some (11, true)), (some 13), false⟩,
      ⟨.call (some 14) 18 sg18 [(.tmp 13)] [.none], (some (11, true)), (some 14), true⟩,
      ⟨.pick 15 (.tmp 11) (.tmp 14) (.const (.bool false)), none, (some 15), false⟩,
      ⟨.copy 2 (.tmp 15), none, (some 2), false⟩])
    (.ret [(.tmp 2)] [.none]))
theorem k7 : compileFn E7 Try.f7 sg7 hs7 = some c7 := by kernel_rfl

/- loop.example/g01334/laws.eqDesk -/
noncomputable def l8 : Deps := [(19, sg19, R19), (20, sg20, R20), (21, sg21, R21)]
noncomputable def E8 : Env := mkE Try.prog [0, 1, 2, 3] [] l8 []
noncomputable def hs8 : HS := []
noncomputable def c8 : Cmd :=
  .seq (.ops [⟨.box 2 .sh (.tmp 0) .none, none, (some 2), false⟩,
     ⟨.box 3 .sh (.tmp 1) .none, none, (some 3), false⟩,
     ⟨.copy 4 (.const (.bool false)), none, (some 4), false⟩])
   (.seq (.seq (.ops [⟨.fadd 5 (.tmp 2) 0, none, (some 5), false⟩,
       ⟨.loadB 6 (.tmp 5) none false, none, (some 6), false⟩,
       ⟨.fadd 7 (.tmp 3) 0, none, (some 7), false⟩,
       ⟨.loadB 8 (.tmp 7) none false, none, (some 8), false⟩,
       ⟨.call (some 9) 19 sg19 [(.tmp 6), (.tmp 8)] [.none, .none], none, (some 9), false⟩,
       ⟨.un 10 .not (.tmp 9), none, (some 10), false⟩])
     (.cond (.tmp 10)
      (.seq (.ops [⟨.copy 4 (.const (.bool false)), none, (some 4), false⟩])
       (.ret [(.tmp 4)] [.none]))
      (.skip)))
    (.seq (.seq (.ops [⟨.fadd 11 (.tmp 2) 1, none, (some 11), false⟩,
        ⟨.loadB 12 (.tmp 11) none false, none, (some 12), false⟩,
        ⟨.fadd 13 (.tmp 3) 1, none, (some 13), false⟩,
        ⟨.loadB 14 (.tmp 13) none false, none, (some 14), false⟩,
        ⟨.call (some 15) 20 sg20 [(.tmp 12), (.tmp 14)] [.none, .none], none, (some 15), false⟩,
        ⟨.un 16 .not (.tmp 15), none, (some 16), false⟩])
      (.cond (.tmp 16)
       (.seq (.ops [⟨.copy 4 (.const (.bool false)), none, (some 4), false⟩])
        (.ret [(.tmp 4)] [.none]))
       (.skip)))
     (.seq (.seq (.ops [⟨.fadd 17 (.tmp 2) 2, none, (some 17), false⟩,
         ⟨.loadB 18 (.tmp 17) none false, none, (some 18), false⟩,
         ⟨.fadd 19 (.tmp 3) 2, none, (some 19), false⟩,
         ⟨.loadB 20 (.tmp 19) none false, none, (some 20), false⟩,
         ⟨.call (some 21) 21 sg21 [(.tmp 18), (.tmp 20)] [.none, .none], none, (some 21), false⟩,
         ⟨.un 22 .not (.tmp 21), none, (some 22), false⟩])
       (.cond (.tmp 22)
        (.seq (.ops [⟨.copy 4 (.const (.bool false)), none, (some 4), false⟩])
         (.ret [(.tmp 4)] [.none]))
        (.skip)))
      (.seq (.ops [⟨.copy 4 (.const (.bool true)), none, (some 4), false⟩])
       (.ret [(.tmp 4)] [.none])))))
theorem k8 : compileFn E8 Try.f8 sg8 hs8 = some c8 := by kernel_rfl

/- loop.example/g01334/laws.szIntS -/
noncomputable def l9 : Deps := []
noncomputable def E9 : Env := mkE Try.prog [0, 1, 2, 3] [] l9 []
noncomputable def hs9 : HS := []
noncomputable def c9 : Cmd :=
  .seq (.ops [⟨.copy 4 (.const (.int .i64 0)), none, (some 4), false⟩])
   (.seq (.ops [⟨.copy 5 (.tmp 1), none, (some 5), false⟩,
      ⟨.copy 6 (.tmp 0), none, (some 6), false⟩,
      ⟨.len 7 false (.tmp 6), none, (some 7), false⟩,
      ⟨.bin 8 .sub (.tmp 5) (.tmp 7), none, (some 8), false⟩,
      ⟨.copy 1 (.tmp 8), none, (some 1), false⟩])
    (.seq (.seq (.ops [⟨.copy 9 (.tmp 1), none, (some 9), false⟩,
        ⟨.bin 10 .lss (.tmp 9) (.const (.int .i64 0)), none, (some 10), false⟩])
      (.cond (.tmp 10)
       (.seq (.ops [⟨.copy 4 (.const (.int .i64 (-1))), none, (some 4), false⟩])
        (.ret [(.tmp 4)] [.none]))
       (.skip)))
     (.seq (.ops [⟨.copy 11 (.tmp 1), none, (some 11), false⟩,
        ⟨.copy 4 (.tmp 11), none, (some 4), false⟩])
      (.ret [(.tmp 4)] [.none]))))
theorem k9 : compileFn E9 Try.f9 sg9 hs9 = some c9 := by kernel_rfl

/- loop.example/g01334/laws.szBoxS -/
noncomputable def l10 : Deps := []
noncomputable def E10 : Env := mkE Try.prog [0, 1, 2, 3] [] l10 []
noncomputable def hs10 : HS := []
noncomputable def c10 : Cmd :=
  .seq (.ops [⟨.copy 4 (.const (.int .i64 0)), none, (some 4), false⟩])
   (.seq (.ops [⟨.copy 5 (.tmp 1), none, (some 5), false⟩,
      ⟨.copy 6 (.tmp 0), none, (some 6), false⟩,
      ⟨.len 7 false (.tmp 6), none, (some 7), false⟩,
      ⟨.bin 8 .sub (.tmp 5) (.tmp 7), none, (some 8), false⟩,
      ⟨.copy 1 (.tmp 8), none, (some 1), false⟩])
    (.seq (.seq (.ops [⟨.copy 9 (.tmp 1), none, (some 9), false⟩,
        ⟨.bin 10 .lss (.tmp 9) (.const (.int .i64 0)), none, (some 10), false⟩])
      (.cond (.tmp 10)
       (.seq (.ops [⟨.copy 4 (.const (.int .i64 (-1))), none, (some 4), false⟩])
        (.ret [(.tmp 4)] [.none]))
       (.skip)))
     (.seq (.ops [⟨.copy 11 (.tmp 1), none, (some 11), false⟩,
        ⟨.copy 4 (.tmp 11), none, (some 4), false⟩])
      (.ret [(.tmp 4)] [.none]))))
theorem k10 : compileFn E10 Try.f10 sg10 hs10 = some c10 := by kernel_rfl

/- loop.example/g01334/laws.szThingS -/
noncomputable def l11 : Deps := []
noncomputable def E11 : Env := mkE Try.prog [0, 1, 2, 3] [] l11 []
noncomputable def hs11 : HS := []
noncomputable def c11 : Cmd :=
  .seq (.ops [⟨.copy 4 (.const (.int .i64 0)), none, (some 4), false⟩])
   (.seq (.ops [⟨.copy 5 (.tmp 1), none, (some 5), false⟩,
      ⟨.copy 6 (.tmp 0), none, (some 6), false⟩,
      ⟨.len 7 false (.tmp 6), none, (some 7), false⟩,
      ⟨.bin 8 .sub (.tmp 5) (.tmp 7), none, (some 8), false⟩,
      ⟨.copy 1 (.tmp 8), none, (some 1), false⟩])
    (.seq (.seq (.ops [⟨.copy 9 (.tmp 1), none, (some 9), false⟩,
        ⟨.bin 10 .lss (.tmp 9) (.const (.int .i64 0)), none, (some 10), false⟩])
      (.cond (.tmp 10)
       (.seq (.ops [⟨.copy 4 (.const (.int .i64 (-1))), none, (some 4), false⟩])
        (.ret [(.tmp 4)] [.none]))
       (.skip)))
     (.seq (.ops [⟨.copy 11 (.tmp 1), none, (some 11), false⟩,
        ⟨.copy 4 (.tmp 11), none, (some 4), false⟩])
      (.ret [(.tmp 4)] [.none]))))
theorem k11 : compileFn E11 Try.f11 sg11 hs11 = some c11 := by kernel_rfl

/- loop.example/g01334/spec.coGood -/
noncomputable def l12 : Deps := [(22, sg22, R22), (23, sg23, R23), (24, sg24, R24)]
noncomputable def E12 : Env := mkE Try.prog [0, 1] [] l12 []
noncomputable def hs12 : HS := []
noncomputable def c12 : Cmd :=
  .seq (.ops [⟨.box 1 .sh (.tmp 0) .none, none, (some 1), false⟩,
     ⟨.copy 2 (.const (.bool false)), none, (some 2), false⟩])
   (.seq (.ops [⟨.fadd 3 (.tmp 1) 0, none, (some 3), false⟩,
      ⟨.loadB 4 (.tmp 3) none false, none, (some 4), false⟩,
      ⟨.call (some 5) 22 sg22 [(.tmp 4)] [.none], none, (some 5), false⟩,
      ⟨.copy 6 (.tmp 5), none, (some 6), false⟩,
      ⟨.fadd 7 (.tmp 1) 1, (some (6, true)), (some 7), false⟩,
      ⟨.loadB 8 (.tmp 7) none false, (some (6, true)), (some 8), false⟩,
      ⟨.call (some 9) 23 sg23 [(.tmp 8)] [.none], (some (6, true)), (some 9), true⟩,
      ⟨.pick 10 (.tmp 6) (.tmp 9) (.const (.bool false)), none, (some 10), false⟩,
      ⟨.copy 11 (.tmp 10), none, (some 11), false⟩,
      ⟨.fadd 12 (.tmp 1) 2, (some (11, true)), (some 12), false⟩,
      ⟨.loadB 13 (.tmp 12) none false, (some (11, true)), (some 13), false⟩,
      ⟨.call (some 14) 24 sg24 [(.tmp 13)] [.none], (some (11, true)), (some 14), true⟩,
      ⟨.pick 15 (.tmp 11) (.tmp 14) (.const (.bool false)), none, (some 15), false⟩,
      ⟨.copy 2 (.tmp 15), none, (some 2), false⟩])
    (.ret [(.tmp 2)] [.none]))
theorem k12 : compileFn E12 Try.f12 sg12 hs12 = some c12 := by kernel_rfl

/- loop.example/g01334/laws.toIntS -/
noncomputable def l13 : Deps := []
noncomputable def E13 : Env := mkE Try.prog [0, 1, 3, 4] [] l13 []
noncomputable def hs13 : HS := [[1, 2, 5, 6, 7, 8, 9, 10, 11, 12, 13, 14, 15, 16, 17, 18, 19, 20, 21]]
noncomputable def c13 : Cmd :=
  .seq (.ops [⟨.copy 2 (.const (.slice none 0 0)), none, (some 2), false⟩])
   (.seq (.ops [⟨.copy 5 (.tmp 0), none, (some 5), false⟩,
      ⟨.len 6 false (.tmp 5), none, (some 6), false⟩,
      ⟨.mks 7 3 8 (.int .i64 0) (.tmp 6) (.tmp 6), none, (some 7), false⟩,
      ⟨.take 3 (.tmp 7) (.slot 7), none, (some 3), false⟩])
    (.seq (.seq (.ops [⟨.copy 4 (.const (.int .i64 0)), none, (some 4), false⟩])
      (.block 0 (.loop [true, false, false, true, true, false, false, false, false, false, false, false, false, false, false, false, false, false, false, false, false, false]
        (.seq (.seq (.ops [⟨.copy 8 (.tmp 4), none, (some 8), false⟩,
            ⟨.copy 9 (.tmp 0), none, (some 9), false⟩,
            ⟨.len 10 false (.tmp 9), none, (some 10), false⟩,
            ⟨.bin 11 .lss (.tmp 8) (.tmp 10), none, (some 11), false⟩])
          (.cond (.tmp 11)
           (.skip)
           (.exit 0)))
         (.seq (.block 1 (.ops [⟨.copy 14 (.tmp 3), none, (some 14), false⟩,
             ⟨.copy 15 (.tmp 4), none, (some 15), false⟩,
             ⟨.copy 16 (.tmp 0), none, (some 16), false⟩,
             ⟨.copy 17 (.tmp 4), none, (some 17), false⟩,
             ⟨.iadd 18 16 3 (.tmp 17), none, (some 18), false⟩,
             ⟨.loadE 19 16 18 none true, none, (some 19), false⟩,
             ⟨.iadd 20 14 3 (.tmp 15), none, (some 20), false⟩,
             ⟨.storeE 3 20 none (.tmp 19), none, none, false⟩]))
          (.ops [⟨.copy 12 (.tmp 4), none, (some 12), false⟩,
            ⟨.bin 13 .add (.tmp 12) (.const (.int .i64 1)), none, (some 13), false⟩,
            ⟨.copy 4 (.tmp 13), none, (some 4), false⟩]))))))
     (.seq (.ops [⟨.copy 21 (.tmp 3), none, (some 21), false⟩,
        ⟨.copy 2 (.tmp 21), none, (some 2), false⟩])
      (.ret [(.tmp 2)] [(.slot 3)]))))
theorem k13 : compileFn E13 Try.f13 sg13 hs13 = some c13 := by kernel_rfl

/- loop.example/g01334/laws.toBoxS -/
noncomputable def l14 : Deps := [(25, sg25, R25)]
noncomputable def E14 : Env := mkE Try.prog [0, 1, 3, 4] [] l14 []
noncomputable def hs14 : HS := [[1, 2, 5, 6, 7, 8, 9, 10, 11, 12, 13, 14, 15, 16, 17, 18, 19, 20, 21, 22]]
noncomputable def c14 : Cmd :=
  .seq (.ops [⟨.copy 2 (.const (.slice none 0 0)), none, (some 2), false⟩])
   (.seq (.ops [⟨.copy 5 (.tmp 0), none, (some 5), false⟩,
      ⟨.len 6 false (.tmp 5), none, (some 6), false⟩,
      ⟨.mks 7 49 24 (.agg [(.int .i64 0), (.int .i64 0), (.int .i64 0)]) (.tmp 6) (.tmp 6), none, (some 7), false⟩,
      ⟨.take 3 (.tmp 7) (.slot 7), none, (some 3), false⟩])
    (.seq (.seq (.ops [⟨.copy 4 (.const (.int .i64 0)), none, (some 4), false⟩])
      (.block 0 (.loop [true, false, false, true, true, false, false, false, false, false, false, false, false, false, false, false, false, false, false, false, false, false, false]
        (.seq (.seq (.ops [⟨.copy 8 (.tmp 4), none, (some 8), false⟩,
            ⟨.copy 9 (.tmp 0), none, (some 9), false⟩,
            ⟨.len 10 false (.tmp 9), none, (some 10), false⟩,
            ⟨.bin 11 .lss (.tmp 8) (.tmp 10), none, (some 11), false⟩])
          (.cond (.tmp 11)
           (.skip)
           (.exit 0)))
         (.seq (.block 1 (.ops [⟨.copy 14 (.tmp 3), none, (some 14), false⟩,
             ⟨.copy 15 (.tmp 4), none, (some 15), false⟩,
             ⟨.copy 16 (.tmp 0), none, (some 16), false⟩,
             ⟨.copy 17 (.tmp 4), none, (some 17), false⟩,
             ⟨.iadd 18 16 51 (.tmp 17), none, (some 18), false⟩,
             ⟨.loadE 19 16 18 (some 3) true, none, (some 19), false⟩,
             ⟨.call (some 20) 25 sg25 [(.tmp 19)] [.none], none, (some 20), false⟩,
             ⟨.iadd 21 14 49 (.tmp 15), none, (some 21), false⟩,
             ⟨.storeE 3 21 (some 3) (.tmp 20), none, none, false⟩]))
          (.ops [⟨.copy 12 (.tmp 4), none, (some 12), false⟩,
            ⟨.bin 13 .add (.tmp 12) (.const (.int .i64 1)), none, (some 13), false⟩,
            ⟨.copy 4 (.tmp 13), none, (some 4), false⟩]))))))
     (.seq (.ops [⟨.copy 22 (.tmp 3), none, (some 22), false⟩,
        ⟨.copy 2 (.tmp 22), none, (some 2), false⟩])
      (.ret [(.tmp 2)] [(.slot 3)]))))
theorem k14 : compileFn E14 Try.f14 sg14 hs14 = some c14 := by kernel_rfl

/- loop.example/g01334/laws.toThingS -/
noncomputable def l15 : Deps := [(26, sg26, R26)]
noncomputable def E15 : Env := mkE Try.prog [0, 1, 3, 4] [] l15 []
noncomputable def hs15 : HS := [[1, 2, 5, 6, 7, 8, 9, 10, 11, 12, 13, 14, 15, 16, 17, 18, 19, 20, 21, 22]]
noncomputable def c15 : Cmd :=
  .seq (.ops [⟨.copy 2 (.const (.slice none 0 0)), none, (some 2), false⟩])
   (.seq (.ops [⟨.copy 5 (.tmp 0), none, (some 5), false⟩,
      ⟨.len 6 false (.tmp 5), none, (some 6), false⟩,
      ⟨.mks 7 53 24 (.agg [(.int .i64 0), (.int .i64 0), (.int .i64 0)]) (.tmp 6) (.tmp 6), none, (some 7), false⟩,
      ⟨.take 3 (.tmp 7) (.slot 7), none, (some 3), false⟩])
    (.seq (.seq (.ops [⟨.copy 4 (.const (.int .i64 0)), none, (some 4), false⟩])
      (.block 0 (.loop [true, false, false, true, true, false, false, false, false, false, false, false, false, false, false, false, false, false, false, false, false, false, false]
        (.seq (.seq (.ops [⟨.copy 8 (.tmp 4), none, (some 8), false⟩,
            ⟨.copy 9 (.tmp 0), none, (some 9), false⟩,
            ⟨.len 10 false (.tmp 9), none, (some 10), false⟩,
            ⟨.bin 11 .lss (.tmp 8) (.tmp 10), none, (some 11), false⟩])
          (.cond (.tmp 11)
           (.skip)
           (.exit 0)))
         (.seq (.block 1 (.ops [⟨.copy 14 (.tmp 3), none, (some 14), false⟩,
             ⟨.copy 15 (.tmp 4), none, (some 15), false⟩,
             ⟨.copy 16 (.tmp 0), none, (some 16), false⟩,
             ⟨.copy 17 (.tmp 4), none, (some 17), false⟩,
             ⟨.iadd 18 16 55 (.tmp 17), none, (some 18), false⟩,
             ⟨.loadE 19 16 18 (some 3) true, none, (some 19), false⟩,
             ⟨.call (some 20) 26 sg26 [(.tmp 19)] [.none], none, (some 20), false⟩,
             ⟨.iadd 21 14 53 (.tmp 15), none, (some 21), false⟩,
             ⟨.storeE 3 21 (some 3) (.tmp 20), none, none, false⟩]))
          (.ops [⟨.copy 12 (.tmp 4), none, (some 12), false⟩,
            ⟨.bin 13 .add (.tmp 12) (.const (.int .i64 1)), none, (some 13), false⟩,
            ⟨.copy 4 (.tmp 13), none, (some 4), false⟩]))))))
     (.seq (.ops [⟨.copy 22 (.tmp 3), none, (some 22), false⟩,
        ⟨.copy 2 (.tmp 22), none, (some 2), false⟩])
      (.ret [(.tmp 2)] [(.slot 3)]))))
theorem k15 : compileFn E15 Try.f15 sg15 hs15 = some c15 := by kernel_rfl

/- loop.example/g01334/impl.AreThings -/
noncomputable def l16 : Deps := [(27, sg27, R27), (28, sg28, R28)]
noncomputable def E16 : Env := mkE Try.prog [0, 1] [] l16 []
noncomputable def hs16 : HS := []
noncomputable def c16 : Cmd :=
  .seq (.ops [⟨.copy 2 (.const (.bool false)), none, (some 2), false⟩])
   (.seq (.ops [⟨.copy 3 (.tmp 0), none, (some 3), false⟩,
      ⟨.len 4 false (.tmp 3), none, (some 4), false⟩,
      ⟨.call (some 5) 27 sg27 [(.tmp 4), (.const (.int .i64 1)), (.const (.int .i64 9))] [.none, .none, .none], none, (some 5), false⟩,
      ⟨.copy 6 (.tmp 5), none, (some 6), false⟩,
      ⟨.copy 7 (.tmp 0), (some (6, true)), (some 7), false⟩,
      ⟨.call (some 8) 28 sg28 [(.tmp 7), (.const (.int .i64 1)), (.const (.int .i64 100))] [.none, .none, .none], (some (6, true)), (some 8), true⟩,
      ⟨.pick 9 (.tmp 6) (.tmp 8) (.const (.bool false)), none, (some 9), false⟩,
      ⟨.copy 2 (.tmp 9), none, (some 2), false⟩])
    (.ret [(.tmp 2)] [.none]))
theorem k16 : compileFn E16 Try.f16 sg16 hs16 = some c16 := by kernel_rfl

/- loop.example/g01334/impl.AreBoxes -/
noncomputable def l17 : Deps := [(27, sg27, R27), (29, sg29, R29)]
noncomputable def E17 : Env := mkE Try.prog [0, 1] [] l17 []
noncomputable def hs17 : HS := []
noncomputable def c17 : Cmd :=
  .seq (.ops [⟨.copy 2 (.const (.bool false)), none, (some 2), false⟩])
   (.seq (.ops [⟨.copy 3 (.tmp 0), none, (some 3), false⟩,
      ⟨.len 4 false (.tmp 3), none, (some 4), false⟩,
      ⟨.call (some 5) 27 sg27 [(.tmp 4), (.const (.int .i64 1)), (.const (.int .i64 7))] [.none, .none, .none], none, (some 5), false⟩,
      ⟨.copy 6 (.tmp 5), none, (some 6), false⟩,
      ⟨.copy 7 (.tmp 0), (some (6, true)), (some 7), false⟩,
      ⟨.call (some 8) 29 sg29 [(.tmp 7), (.func 30)] [.none, .none], (some (6, true)), (some 8), true⟩,
      ⟨.un 9 .not (.tmp 8), (some (6, true)), (some 9), true⟩,
      ⟨.pick 10 (.tmp 6) (.tmp 9) (.const (.bool false)), none, (some 10), false⟩,
      ⟨.copy 2 (.tmp 10), none, (some 2), false⟩])
    (.ret [(.tmp 2)] [.none]))
theorem k17 : compileFn E17 Try.f17 sg17 hs17 = some c17 := by kernel_rfl

/- loop.example/g01334/impl.AreStackable -/
noncomputable def l18 : Deps := [(27, sg27, R27), (32, sg32, R32)]
noncomputable def E18 : Env := mkE Try.prog [0, 1] [] l18 []
noncomputable def hs18 : HS := []
noncomputable def c18 : Cmd :=
  .seq (.ops [⟨.copy 2 (.const (.bool false)), none, (some 2), false⟩])
   (.seq (.ops [⟨.copy 3 (.tmp 0), none, (some 3), false⟩,
      ⟨.len 4 false (.tmp 3), none, (some 4), false⟩,
      ⟨.call (some 5) 27 sg27 [(.tmp 4), (.const (.int .i64 1)), (.const (.int .i64 7))] [.none, .none, .none], none, (some 5), false⟩,
      ⟨.copy 6 (.tmp 5), none, (some 6), false⟩,
      ⟨.copy 7 (.tmp 0), (some (6, true)), (some 7), false⟩,
      ⟨.call (some 8) 32 sg32 [(.tmp 7), (.func 33)] [.none, .none], (some (6, true)), (some 8), true⟩,
      ⟨.un 9 .not (.tmp 8), (some (6, true)), (some 9), true⟩,
      ⟨.pick 10 (.tmp 6) (.tmp 9) (.const (.bool false)), none, (some 10), false⟩,
      ⟨.copy 2 (.tmp 10), none, (some 2), false⟩])
    (.ret [(.tmp 2)] [.none]))
theorem k18 : compileFn E18 Try.f18 sg18 hs18 = some c18 := by kernel_rfl

/- loop.example/g01334/laws.eqIntS -/
noncomputable def l19 : Deps := []
noncomputable def E19 : Env := mkE Try.prog [0, 1, 2, 3, 5] [] l19 []
noncomputable def hs19 : HS := [[2, 3, 4, 6, 7, 8, 9, 10, 11, 12, 13, 14, 15, 16, 17, 18, 19, 20, 21, 22, 23, 24, 25]]
noncomputable def c19 : Cmd :=
  .seq (.ops [⟨.copy 4 (.const (.bool false)), none, (some 4), false⟩])
   (.seq (.seq (.ops [⟨.copy 6 (.tmp 0), none, (some 6), false⟩,
       ⟨.len 7 false (.tmp 6), none, (some 7), false⟩,
       ⟨.copy 8 (.tmp 1), none, (some 8), false⟩,
       ⟨.len 9 false (.tmp 8), none, (some 9), false⟩,
       ⟨.bin 10 .neq (.tmp 7) (.tmp 9), none, (some 10), false⟩])
     (.cond (.tmp 10)
      (.seq (.ops [⟨.copy 4 (.const (.bool false)), none, (some 4), false⟩])
       (.ret [(.tmp 4)] [.none]))
      (.skip)))
    (.seq (.seq (.ops [⟨.copy 5 (.const (.int .i64 0)), none, (some 5), false⟩])
      (.block 0 (.loop [true, true, false, false, false, true, false, false, false, false, false, false, false, false, false, false, false, false, false, false, false, false, false, false, false, false]
        (.seq (.seq (.ops [⟨.copy 11 (.tmp 5), none, (some 11), false⟩,
            ⟨.copy 12 (.tmp 0), none, (some 12), false⟩,
            ⟨.len 13 false (.tmp 12), none, (some 13), false⟩,
            ⟨.bin 14 .lss (.tmp 11) (.tmp 13), none, (some 14), false⟩])
          (.cond (.tmp 14)
           (.skip)
           (.exit 0)))
         (.seq (.block 1 (.seq (.ops [⟨.copy 17 (.tmp 0), none, (some 17), false⟩,
              ⟨.copy 18 (.tmp 5), none, (some 18), false⟩,
              ⟨.iadd 19 17 3 (.tmp 18), none, (some 19), false⟩,
              ⟨.loadE 20 17 19 none true, none, (some 20), false⟩,
              ⟨.copy 21 (.tmp 1), none, (some 21), false⟩,
              ⟨.copy 22 (.tmp 5), none, (some 22), false⟩,
              ⟨.iadd 23 21 3 (.tmp 22), none, (some 23), false⟩,
              ⟨.loadE 24 21 23 none true, none, (some 24), false⟩,
              ⟨.bin 25 .neq (.tmp 20) (.tmp 24), none, (some 25), false⟩])
            (.cond (.tmp 25)
             (.seq (.ops [⟨.copy 4 (.const (.bool false)), none, (some 4), false⟩])
              (.ret [(.tmp 4)] [.none]))
             (.skip))))
          (.ops [⟨.copy 15 (.tmp 5), none, (some 15), false⟩,
            ⟨.bin 16 .add (.tmp 15) (.const (.int .i64 1)), none, (some 16), false⟩,
            ⟨.copy 5 (.tmp 16), none, (some 5), false⟩]))))))
     (.seq (.ops [⟨.copy 4 (.const (.bool true)), none, (some 4), false⟩])
      (.ret [(.tmp 4)] [.none]))))
theorem k19 : compileFn E19 Try.f19 sg19 hs19 = some c19 := by kernel_rfl

/- loop.example/g01334/laws.eqBoxS -/
noncomputable def l20 : Deps := [(34, sg34, R34)]
noncomputable def E20 : Env := mkE Try.prog [0, 1, 2, 3, 5] [] l20 []
noncomputable def hs20 : HS := [[2, 3, 4, 6, 7, 8, 9, 10, 11, 12, 13, 14, 15, 16, 17, 18, 19, 20, 21, 22, 23, 24, 25, 26]]
noncomputable def c20 : Cmd :=
  .seq (.ops [⟨.copy 4 (.const (.bool false)), none, (some 4), false⟩])
   (.seq (.seq (.ops [⟨.copy 6 (.tmp 0), none, (some 6), false⟩,
       ⟨.len 7 false (.tmp 6), none, (some 7), false⟩,
       ⟨.copy 8 (.tmp 1), none, (some 8), false⟩,
       ⟨.len 9 false (.tmp 8), none, (some 9), false⟩,
       ⟨.bin 10 .neq (.tmp 7) (.tmp 9), none, (some 10), false⟩])
     (.cond (.tmp 10)
      (.seq (.ops [⟨.copy 4 (.const (.bool false)), none, (some 4), false⟩])
       (.ret [(.tmp 4)] [.none]))
      (.skip)))
    (.seq (.seq (.ops [⟨.copy 5 (.const (.int .i64 0)), none, (some 5), false⟩])
      (.block 0 (.loop [true, true, false, false, false, true, false, false, false, false, false, false, false, false, false, false, false, false, false, false, false, false, false, false, false, false, false]
        (.seq (.seq (.ops [⟨.copy 11 (.tmp 5), none, (some 11), false⟩,
            ⟨.copy 12 (.tmp 0), none, (some 12), false⟩,
            ⟨.len 13 false (.tmp 12), none, (some 13), false⟩,
            ⟨.bin 14 .lss (.tmp 11) (.tmp 13), none, (some 14), false⟩])
          (.cond (.tmp 14)
           (.skip)
           (.exit 0)))
         (.seq (.block 1 (.seq (.ops [⟨.copy 17 (.tmp 0), none, (some 17), false⟩,
              ⟨.copy 18 (.tmp 5), none, (some 18), false⟩,
              ⟨.iadd 19 17 49 (.tmp 18), none, (some 19), false⟩,
              ⟨.loadE 20 17 19 (some 3) true, none, (some 20), false⟩,
              ⟨.copy 21 (.tmp 1), none, (some 21), false⟩,
              ⟨.copy 22 (.tmp 5), none, (some 22), false⟩,
              ⟨.iadd 23 21 49 (.tmp 22), none, (some 23), false⟩,
              ⟨.loadE 24 21 23 (some 3) true, none, (some 24), false⟩,
              ⟨.call (some 25) 34 sg34 [(.tmp 20), (.tmp 24)] [.none, .none], none, (some 25), false⟩,
              ⟨.un 26 .not (.tmp 25), none, (some 26), false⟩])
            (.cond (.tmp 26)
             (.seq (.ops [⟨.copy 4 (.const (.bool false)), none, (some 4), false⟩])
              (.ret [(.tmp 4)] [.none]))
             (.skip))))
          (.ops [⟨.copy 15 (.tmp 5), none, (some 15), false⟩,
            ⟨.bin 16 .add (.tmp 15) (.const (.int .i64 1)), none, (some 16), false⟩,
            ⟨.copy 5 (.tmp 16), none, (some 5), false⟩]))))))
     (.seq (.ops [⟨.copy 4 (.const (.bool true)), none, (some 4), false⟩])
      (.ret [(.tmp 4)] [.none]))))
theorem k20 : compileFn E20 Try.f20 sg20 hs20 = some c20 := by kernel_rfl

/- loop.example/g01334/laws.eqThingS -/
noncomputable def l21 : Deps := [(35, sg35, R35)]
noncomputable def E21 : Env := mkE Try.prog [0, 1, 2, 3, 5] [] l21 []
noncomputable def hs21 : HS := [[2, 3, 4, 6, 7, 8, 9, 10, 11, 12, 13, 14, 15, 16, 17, 18, 19, 20, 21, 22, 23, 24, 25, 26]]
noncomputable def c21 : Cmd :=
  .seq (.ops [⟨.copy 4 (.const (.bool false)), none, (some 4), false⟩])
   (.seq (.seq (.ops [⟨.copy 6 (.tmp 0), none, (some 6), false⟩,
       ⟨.len 7 false (.tmp 6), none, (some 7), false⟩,
       ⟨.copy 8 (.tmp 1), none, (some 8), false⟩,
       ⟨.len 9 false (.tmp 8), none, (some 9), false⟩,
       ⟨.bin 10 .neq (.tmp 7) (.tmp 9), none, (some 10), false⟩])
     (.cond (.tmp 10)
      (.seq (.ops [⟨.copy 4 (.const (.bool false)), none, (some 4), false⟩])
       (.ret [(.tmp 4)] [.none]))
      (.skip)))
    (.seq (.seq (.ops [⟨.copy 5 (.const (.int .i64 0)), none, (some 5), false⟩])
      (.block 0 (.loop [true, true, false, false, false, true, false, false, false, false, false, false, false, false, false, false, false, false, false, false, false, false, false, false, false, false, false]
        (.seq (.seq (.ops [⟨.copy 11 (.tmp 5), none, (some 11), false⟩,
            ⟨.copy 12 (.tmp 0), none, (some 12), false⟩,
            ⟨.len 13 false (.tmp 12), none, (some 13), false⟩,
            ⟨.bin 14 .lss (.tmp 11) (.tmp 13), none, (some 14), false⟩])
          (.cond (.tmp 14)
           (.skip)
           (.exit 0)))
         (.seq (.block 1 (.seq (.ops [⟨.copy 17 (.tmp 0), none, (some 17), false⟩,
              ⟨.copy 18 (.tmp 5), none, (some 18), false⟩,
              ⟨.iadd 19 17 53 (.tmp 18), none, (some 19), false⟩,
              ⟨.loadE 20 17 19 (some 3) true, none, (some 20), false⟩,
              ⟨.copy 21 (.tmp 1), none, (some 21), false⟩,
              ⟨.copy 22 (.tmp 5), none, (some 22), false⟩,
              ⟨.iadd 23 21 53 (.tmp 22), none, (some 23), false⟩,
              ⟨.loadE 24 21 23 (some 3) true, none, (some 24), false⟩,
              ⟨.call (some 25) 35 sg35 [(.tmp 20), (.tmp 24)] [.none, .none], none, (some 25), false⟩,
              ⟨.un 26 .not (.tmp 25), none, (some 26), false⟩])
            (.cond (.tmp 26)
             (.seq (.ops [⟨.copy 4 (.const (.bool false)), none, (some 4), false⟩])
              (.ret [(.tmp 4)] [.none]))
             (.skip))))
          (.ops [⟨.copy 15 (.tmp 5), none, (some 15), false⟩,
            ⟨.bin 16 .add (.tmp 15) (.const (.int .i64 1)), none, (some 16), false⟩,
            ⟨.copy 5 (.tmp 16), none, (some 5), false⟩]))))))
     (.seq (.ops [⟨.copy 4 (.const (.bool true)), none, (some 4), false⟩])
      (.ret [(.tmp 4)] [.none]))))
theorem k21 : compileFn E21 Try.f21 sg21 hs21 = some c21 := by kernel_rfl

/- loop.example/g01334/spec.bxGood -/
noncomputable def l22 : Deps := [(36, sg36, R36), (37, sg37, R37)]
noncomputable def E22 : Env := mkE Try.prog [0, 1] [] l22 []
noncomputable def hs22 : HS := []
noncomputable def c22 : Cmd :=
  .seq (.ops [⟨.copy 2 (.const (.bool false)), none, (some 2), false⟩])
   (.seq (.ops [⟨.copy 3 (.tmp 0), none, (some 3), false⟩,
      ⟨.len 4 false (.tmp 3), none, (some 4), false⟩,
      ⟨.call (some 5) 36 sg36 [(.tmp 4), (.const (.int .i64 1)), (.const (.int .i64 9))] [.none, .none, .none], none, (some 5), false⟩,
      ⟨.copy 6 (.tmp 5), none, (some 6), false⟩,
      ⟨.copy 7 (.tmp 0), (some (6, true)), (some 7), false⟩,
      ⟨.call (some 8) 37 sg37 [(.tmp 7), (.const (.int .i64 1)), (.const (.int .i64 100))] [.none, .none, .none], (some (6, true)), (some 8), true⟩,
      ⟨.pick 9 (.tmp 6) (.tmp 8) (.const (.bool false)), none, (some 9), false⟩,
      ⟨.copy 2 (.tmp 9), none, (some 2), false⟩])
    (.ret [(.tmp 2)] [.none]))
theorem k22 : compileFn E22 Try.f22 sg22 hs22 = some c22 := by kernel_rfl

/- loop.example/g01334/spec.neAll -/
noncomputable def l23 : Deps := [(36, sg36, R36), (38, sg38, R38)]
noncomputable def E23 : Env := mkE Try.prog [0, 1, 3, 4] [] l23 []
noncomputable def hs23 : HS := [[0, 1, 2, 3, 4, 5, 6, 7, 8, 12, 13, 14, 15, 16, 17, 18]]
noncomputable def c23 : Cmd :=
  .seq (.ops [⟨.copy 2 (.const (.bool false)), none, (some 2), false⟩])
   (.seq (.seq (.ops [⟨.copy 5 (.tmp 0), none, (some 5), false⟩,
       ⟨.len 6 false (.tmp 5), none, (some 6), false⟩,
       ⟨.call (some 7) 36 sg36 [(.tmp 6), (.const (.int .i64 1)), (.const (.int .i64 7))] [.none, .none, .none], none, (some 7), false⟩,
       ⟨.un 8 .not (.tmp 7), none, (some 8), false⟩])
     (.cond (.tmp 8)
      (.seq (.ops [⟨.copy 2 (.const (.bool false)), none, (some 2), false⟩])
       (.ret [(.tmp 2)] [.none]))
      (.skip)))
    (.seq (.seq (.ops [⟨.copy 9 (.tmp 0), none, (some 9), false⟩,
        ⟨.len 10 false (.tmp 9), none, (some 10), false⟩,
        ⟨.copy 11 (.const (.int .i64 0)), none, (some 11), false⟩])
      (.block 0 (.loop [false, false, false, false, false, false, false, false, false, true, true, true, false, false, false, false, false, false, false]
        (.seq (.ops [⟨.bin 12 .lss (.tmp 11) (.tmp 10), none, (some 12), false⟩])
         (.seq (.cond (.tmp 12)
           (.skip)
           (.exit 0))
          (.seq (.block 1 (.seq (.ops [⟨.iadd 13 9 49 (.tmp 11), none, (some 13), false⟩,
               ⟨.loadE 14 9 13 (some 3) true, none, (some 14), false⟩,
               ⟨.alloc 4 .own [(.int .i64 0), (.int .i64 0), (.int .i64 0)], none, (some 4), false⟩,
               ⟨.storeB (.tmp 4) (.tmp 14) (some 3) .none, none, none, false⟩])
             (.seq (.ops [⟨.loadB 15 (.tmp 4) (some 3) true, none, (some 15), false⟩,
                ⟨.call (some 16) 38 sg38 [(.tmp 15)] [.none], none, (some 16), false⟩,
                ⟨.un 17 .not (.tmp 16), none, (some 17), false⟩])
              (.cond (.tmp 17)
               (.seq (.ops [⟨.copy 2 (.const (.bool false)), none, (some 2), false⟩])
                (.ret [(.tmp 2)] [.none]))
               (.skip)))))
           (.ops [⟨.bin 18 .add (.tmp 11) (.const (.int .i64 1)), none, (some 18), false⟩,
             ⟨.copy 11 (.tmp 18), none, (some 11), false⟩])))))))
     (.seq (.ops [⟨.copy 2 (.const (.bool true)), none, (some 2), false⟩])
      (.ret [(.tmp 2)] [.none]))))
theorem k23 : compileFn E23 Try.f23 sg23 hs23 = some c23 := by kernel_rfl

/- loop.example/g01334/spec.scGood -/
noncomputable def l24 : Deps := [(36, sg36, R36)]
noncomputable def E24 : Env := mkE Try.prog [0, 1, 3, 4] [] l24 []
noncomputable def hs24 : HS := [[0, 1, 2, 3, 4, 5, 6, 7, 8, 12, 13, 14, 15, 16, 17, 18, 19, 24, 25, 30, 31]]
noncomputable def c24 : Cmd :=
  .seq (.ops [⟨.copy 2 (.const (.bool false)), none, (some 2), false⟩])
   (.seq (.seq (.ops [⟨.copy 5 (.tmp 0), none, (some 5), false⟩,
       ⟨.len 6 false (.tmp 5), none, (some 6), false⟩,
       ⟨.call (some 7) 36 sg36 [(.tmp 6), (.const (.int .i64 1)), (.const (.int .i64 7))] [.none, .none, .none], none, (some 7), false⟩,
       ⟨.un 8 .not (.tmp 7), none, (some 8), false⟩])
     (.cond (.tmp 8)
      (.seq (.ops [⟨.copy 2 (.const (.bool false)), none, (some 2), false⟩])
       (.ret [(.tmp 2)] [.none]))
      (.skip)))
    (.seq (.seq (.ops [⟨.copy 9 (.tmp 0), none, (some 9), false⟩,
        ⟨.len 10 false (.tmp 9), none, (some 10), false⟩,
        ⟨.copy 11 (.const (.int .i64 0)), none, (some 11), false⟩])
      (.block 0 (.loop [false, false, false, false, false, false, false, false, false, true, true, true, false, false, false, false, false, false, false, false, false, false, false, false, false, false, false, false, false, false, false, false]
        (.seq (.ops [⟨.bin 12 .lss (.tmp 11) (.tmp 10), none, (some 12), false⟩])
         (.seq (.cond (.tmp 12)
           (.skip)
           (.exit 0))
          (.seq (.block 1 (.seq (.ops [⟨.iadd 13 9 53 (.tmp 11), none, (some 13), false⟩,
               ⟨.loadE 14 9 13 (some 3) true, none, (some 14), false⟩,
               ⟨.alloc 4 .own [(.int .i64 0), (.int .i64 0), (.int .i64 0)], none, (some 4), false⟩,
               ⟨.storeB (.tmp 4) (.tmp 14) (some 3) .none, none, none, false⟩])
             (.seq (.ops [⟨.fadd 15 (.tmp 4) 0, none, (some 15), false⟩,
                ⟨.loadB 16 (.tmp 15) none true, none, (some 16), false⟩,
                ⟨.call (some 17) 36 sg36 [(.tmp 16), (.const (.int .i64 1)), (.const (.int .i64 1000))] [.none, .none, .none], none, (some 17), false⟩,
                ⟨.un 18 .not (.tmp 17), none, (some 18), false⟩,
                ⟨.copy 19 (.tmp 18), none, (some 19), false⟩,
                ⟨.fadd 20 (.tmp 4) 1, (some (19, false)), (some 20), false⟩,
                ⟨.loadB 21 (.tmp 20) none true, (some (19, false)), (some 21), true⟩,
                ⟨.call (some 22) 36 sg36 [(.tmp 21), (.const (.int .i64 0)), (.const (.int .i64 1000))] [.none, .none, .none], (some (19, false)), (some 22), true⟩,
                ⟨.un 23 .not (.tmp 22), (some (19, false)), (some 23), true⟩,
                ⟨.pick 24 (.tmp 19) (.const (.bool true)) (.tmp 23), none, (some 24), false⟩,
                ⟨.copy 25 (.tmp 24), none, (some 25), false⟩,
                ⟨.fadd 26 (.tmp 4) 2, (some (25, false)), (some 26), false⟩,
                ⟨.loadB 27 (.tmp 26) none true, (some (25, false)), (some 27), true⟩,
                ⟨.call (some 28) 36 sg36 [(.tmp 27), (.const (.int .i64 1)), (.const (.int .i64 1000))] [.none, .none, .none], (some (25, false)), (some 28), true⟩,
                ⟨.un 29 .not (.tmp 28), (some (25, false)), (some 29), true⟩,
                ⟨.pick 30 (.tmp 25) (.const (.bool true)) (.tmp 29), none, (some 30), false⟩])
              (.cond (.tmp 30)
               (.seq (.ops [⟨.copy 2 (.const (.bool false)), none, (some 2), false⟩])
                (.ret [(.tmp 2)] [.none]))
               (.skip)))))
           (.ops [⟨.bin 31 .add (.tmp 11) (.const (.int .i64 1)), none, (some 31), false⟩,
             ⟨.copy 11 (.tmp 31), none, (some 11), false⟩])))))))
     (.seq (.ops [⟨.copy 2 (.const (.bool true)), none, (some 2), false⟩])
      (.ret [(.tmp 2)] [.none]))))
theorem k24 : compileFn E24 Try.f24 sg24 hs24 = some c24 := by kernel_rfl

/- loop.example/g01334/laws.toBox -/
noncomputable def l25 : Deps := []
noncomputable def E25 : Env := mkE Try.prog [0, 1, 3] [] l25 []
noncomputable def hs25 : HS := []
noncomputable def c25 : Cmd :=
  .seq (.ops [⟨.box 1 .own (.tmp 0) .none, none, (some 1), false⟩,
     ⟨.alloc 2 .own [(.int .i64 0), (.int .i64 0), (.int .i64 0)], none, (some 2), false⟩])
   (.seq (.ops [⟨.alloc 3 .own [(.int .i64 0), (.int .i64 0), (.int .i64 0)], none, (some 3), false⟩])
    (.seq (.ops [⟨.fadd 4 (.tmp 1) 0, none, (some 4), false⟩,
       ⟨.loadB 5 (.tmp 4) none true, none, (some 5), false⟩,
       ⟨.fadd 6 (.tmp 3) 0, none, (some 6), false⟩,
       ⟨.storeB (.tmp 6) (.tmp 5) none .none, none, none, false⟩])
     (.seq (.ops [⟨.fadd 7 (.tmp 1) 1, none, (some 7), false⟩,
        ⟨.loadB 8 (.tmp 7) none true, none, (some 8), false⟩,
        ⟨.fadd 9 (.tmp 3) 1, none, (some 9), false⟩,
        ⟨.storeB (.tmp 9) (.tmp 8) none .none, none, none, false⟩])
      (.seq (.ops [⟨.fadd 10 (.tmp 1) 2, none, (some 10), false⟩,
         ⟨.loadB 11 (.tmp 10) none true, none, (some 11), false⟩,
         ⟨.fadd 12 (.tmp 3) 2, none, (some 12), false⟩,
         ⟨.storeB (.tmp 12) (.tmp 11) none .none, none, none, false⟩])
       (.seq (.ops [⟨.loadB 13 (.tmp 3) (some 3) true, none, (some 13), false⟩,
          ⟨.storeB (.tmp 2) (.tmp 13) (some 3) .none, none, none, false⟩])
        (.ret [(.cell 2 (some 3) true)] [.none]))))))
theorem k25 : compileFn E25 Try.f25 sg25 hs25 = some c25 := by kernel_rfl

/- loop.example/g01334/laws.toThing -/
noncomputable def l26 : Deps := []
noncomputable def E26 : Env := mkE Try.prog [0, 1, 3] [] l26 []
noncomputable def hs26 : HS := []
noncomputable def c26 : Cmd :=
  .seq (.ops [⟨.box 1 .own (.tmp 0) .none, none, (some 1), false⟩,
     ⟨.alloc 2 .own [(.int .i64 0), (.int .i64 0), (.int .i64 0)], none, (some 2), false⟩])
   (.seq (.ops [⟨.alloc 3 .own [(.int .i64 0), (.int .i64 0), (.int .i64 0)], none, (some 3), false⟩])
    (.seq (.ops [⟨.fadd 4 (.tmp 1) 0, none, (some 4), false⟩,
       ⟨.loadB 5 (.tmp 4) none true, none, (some 5), false⟩,
       ⟨.fadd 6 (.tmp 3) 0, none, (some 6), false⟩,
       ⟨.storeB (.tmp 6) (.tmp 5) none .none, none, none, false⟩])
     (.seq (.ops [⟨.fadd 7 (.tmp 1) 1, none, (some 7), false⟩,
        ⟨.loadB 8 (.tmp 7) none true, none, (some 8), false⟩,
        ⟨.fadd 9 (.tmp 3) 1, none, (some 9), false⟩,
        ⟨.storeB (.tmp 9) (.tmp 8) none .none, none, none, false⟩])
      (.seq (.ops [⟨.fadd 10 (.tmp 1) 2, none, (some 10), false⟩,
         ⟨.loadB 11 (.tmp 10) none true, none, (some 11), false⟩,
         ⟨.fadd 12 (.tmp 3) 2, none, (some 12), false⟩,
         ⟨.storeB (.tmp 12) (.tmp 11) none .none, none, none, false⟩])
       (.seq (.ops [⟨.loadB 13 (.tmp 3) (some 3) true, none, (some 13), false⟩,
          ⟨.storeB (.tmp 2) (.tmp 13) (some 3) .none, none, none, false⟩])
        (.ret [(.cell 2 (some 3) true)] [.none]))))))
theorem k26 : compileFn E26 Try.f26 sg26 hs26 = some c26 := by kernel_rfl

/- loop.example/g01334/impl.within -/
noncomputable def l27 : Deps := []
noncomputable def E27 : Env := mkE Try.prog [0, 1, 2, 3, 4, 5] [] l27 []
noncomputable def hs27 : HS := []
noncomputable def c27 : Cmd :=
  .seq (.ops [⟨.copy 6 (.const (.bool false)), none, (some 6), false⟩])
   (.seq (.ops [⟨.copy 7 (.tmp 1), none, (some 7), false⟩,
      ⟨.copy 8 (.tmp 0), none, (some 8), false⟩,
      ⟨.bin 9 .leq (.tmp 7) (.tmp 8), none, (some 9), false⟩,
      ⟨.copy 10 (.tmp 9), none, (some 10), false⟩,
      ⟨.copy 11 (.tmp 0), (some (10, true)), (some 11), true⟩,
      ⟨.copy 12 (.tmp 2), (some (10, true)), (some 12), true⟩,
      ⟨.bin 13 .leq (.tmp 11) (.tmp 12), (some (10, true)), (some 13), true⟩,
      ⟨.pick 14 (.tmp 10) (.tmp 13) (.const (.bool false)), none, (some 14), false⟩,
      ⟨.copy 6 (.tmp 14), none, (some 6), false⟩])
    (.ret [(.tmp 6)] [.none]))
theorem k27 : compileFn E27 Try.f27 sg27 hs27 = some c27 := by kernel_rfl

/- loop.example/g01334/impl.areWithin -/
noncomputable def l28 : Deps := [(39, sg39, R39)]
noncomputable def E28 : Env := mkE Try.prog [0, 1, 2, 3, 4, 5] [] l28 []
noncomputable def hs28 : HS := []
noncomputable def c28 : Cmd :=
  .seq (.ops [⟨.box 4 .own (.tmp 1) .none, none, (some 4), false⟩,
     ⟨.box 5 .own (.tmp 2) .none, none, (some 5), false⟩,
     ⟨.copy 6 (.const (.bool false)), none, (some 6), false⟩])
   (.seq (.ops [⟨.copy 7 (.tmp 0), none, (some 7), false⟩,
      ⟨.mkfn 8 40 [(.tmp 4), (.tmp 5)], none, (some 8), false⟩,
      ⟨.call (some 9) 39 sg39 [(.tmp 7), (.tmp 8)] [.none, .none], none, (some 9), false⟩,
      ⟨.un 10 .not (.tmp 9), none, (some 10), false⟩,
      ⟨.copy 6 (.tmp 10), none, (some 6), false⟩])
    (.ret [(.tmp 6)] [.none]))
theorem k28 : compileFn E28 Try.f28 sg28 hs28 = some c28 := by kernel_rfl

/- slices.ContainsFunc[[]loop.example/g01334/impl.Box,loop.example/g01334/impl.Box] -/
noncomputable def l29 : Deps := [(41, sg41, R41)]
noncomputable def E29 : Env := mkE Try.prog [0, 1, 2, 3] [] l29 []
noncomputable def hs29 : HS := []
noncomputable def c29 : Cmd :=
  .seq (.ops [⟨.copy 4 (.const (.bool false)), none, (some 4), false⟩])
   (.seq (.ops [⟨.copy 5 (.tmp 0), none, (some 5), false⟩,
      ⟨.copy 6 (.tmp 1), none, (some 6), false⟩,
      ⟨.call (some 7) 41 sg41 [(.tmp 5), (.tmp 6)] [.none, .none], none, (some 7), false⟩,
      ⟨.bin 8 .geq (.tmp 7) (.const (.int .i64 0)), none, (some 8), false⟩,
      ⟨.copy 4 (.tmp 8), none, (some 4), false⟩])
    (.ret [(.tmp 4)] [.none]))
theorem k29 : compileFn E29 Try.f29 sg29 hs29 = some c29 := by kernel_rfl

/- loop.example/g01334/impl.AreBoxes$1 -/
noncomputable def l30 : Deps := [(31, sg31, R31)]
noncomputable def E30 : Env := mkE Try.prog [0, 1] [] l30 []
noncomputable def hs30 : HS := []
noncomputable def c30 : Cmd :=
  .seq (.ops [⟨.box 1 .own (.tmp 0) .none, none, (some 1), false⟩,
     ⟨.copy 2 (.const (.bool false)), none, (some 2), false⟩])
   (.seq (.ops [⟨.loadB 3 (.tmp 1) (some 3) true, none, (some 3), false⟩,
      ⟨.call (some 4) 31 sg31 [(.tmp 3)] [.none], none, (some 4), false⟩,
      ⟨.un 5 .not (.tmp 4), none, (some 5), false⟩,
      ⟨.copy 2 (.tmp 5), none, (some 2), false⟩])
    (.ret [(.tmp 2)] [.none]))
theorem k30 : compileFn E30 Try.f30 sg30 hs30 = some c30 := by kernel_rfl

/- loop.example/g01334/impl.isBox -/
noncomputable def l31 : Deps := [(42, sg42, R42), (28, sg28, R28)]
noncomputable def E31 : Env := mkE Try.prog [0, 1] [] l31 []
noncomputable def hs31 : HS := []
noncomputable def c31 : Cmd :=
  .seq (.ops [⟨.box 1 .own (.tmp 0) .none, none, (some 1), false⟩,
     ⟨.copy 2 (.const (.bool false)), none, (some 2), false⟩])
   (.seq (.ops [⟨.loadB 3 (.tmp 1) (some 3) true, none, (some 3), false⟩,
      ⟨.call (some 4) 42 sg42 [(.tmp 3)] [.none], none, (some 4), false⟩,
      ⟨.call (some 5) 28 sg28 [(.tmp 4), (.const (.int .i64 1)), (.const (.int .i64 50))] [.none, .none, .none], none, (some 5), false⟩,
      ⟨.copy 2 (.tmp 5), none, (some 2), false⟩])
    (.ret [(.tmp 2)] [.none]))
theorem k31 : compileFn E31 Try.f31 sg31 hs31 = some c31 := by kernel_rfl

/- slices.ContainsFunc[[]loop.example/g01334/impl.Thing,loop.example/g01334/impl.Thing] -/
noncomputable def l32 : Deps := [(43, sg43, R43)]
noncomputable def E32 : Env := mkE Try.prog [0, 1, 2, 3] [] l32 []
noncomputable def hs32 : HS := []
noncomputable def c32 : Cmd :=
  .seq (.ops [⟨.copy 4 (.const (.bool false)), none, (some 4), false⟩])
   (.seq (.ops [⟨.copy 5 (.tmp 0), none, (some 5), false⟩,
      ⟨.copy 6 (.tmp 1), none, (some 6), false⟩,
      ⟨.call (some 7) 43 sg43 [(.tmp 5), (.tmp 6)] [.none, .none], none, (some 7), false⟩,
      ⟨.bin 8 .geq (.tmp 7) (.const (.int .i64 0)), none, (some 8), false⟩,
      ⟨.copy 4 (.tmp 8), none, (some 4), false⟩])
    (.ret [(.tmp 4)] [.none]))
theorem k32 : compileFn E32 Try.f32 sg32 hs32 = some c32 := by kernel_rfl

/- loop.example/g01334/impl.AreStackable$1 -/
noncomputable def l33 : Deps := [(27, sg27, R27)]
noncomputable def E33 : Env := mkE Try.prog [0, 1] [] l33 []
noncomputable def hs33 : HS := []
noncomputable def c33 : Cmd :=
  .seq (.ops [⟨.box 1 .own (.tmp 0) .none, none, (some 1), false⟩,
     ⟨.copy 2 (.const (.bool false)), none, (some 2), false⟩])
   (.seq (.ops [⟨.fadd 3 (.tmp 1) 0, none, (some 3), false⟩,
      ⟨.loadB 4 (.tmp 3) none true, none, (some 4), false⟩,
      ⟨.call (some 5) 27 sg27 [(.tmp 4), (.const (.int .i64 1)), (.const (.int .i64 1000))] [.none, .none, .none], none, (some 5), false⟩,
      ⟨.un 6 .not (.tmp 5), none, (some 6), false⟩,
      ⟨.copy 7 (.tmp 6), none, (some 7), false⟩,
      ⟨.fadd 8 (.tmp 1) 1, (some (7, false)), (some 8), false⟩,
      ⟨.loadB 9 (.tmp 8) none true, (some (7, false)), (some 9), true⟩,
      ⟨.call (some 10) 27 sg27 [(.tmp 9), (.const (.int .i64 0)), (.const (.int .i64 1000))] [.none, .none, .none], (some (7, false)), (some 10), true⟩,
      ⟨.un 11 .not (.tmp 10), (some (7, false)), (some 11), true⟩,
      ⟨.pick 12 (.tmp 7) (.const (.bool true)) (.tmp 11), none, (some 12), false⟩,
      ⟨.copy 13 (.tmp 12), none, (some 13), false⟩,
      ⟨.fadd 14 (.tmp 1) 2, (some (13, false)), (some 14), false⟩,
      ⟨.loadB 15 (.tmp 14) none true, (some (13, false)), (some 15), true⟩,
      ⟨.call (some 16) 27 sg27 [(.tmp 15), (.const (.int .i64 1)), (.const (.int .i64 1000))] [.none, .none, .none], (some (13, false)), (some 16), true⟩,
      ⟨.un 17 .not (.tmp 16), (some (13, false)), (some 17), true⟩,
      ⟨.pick 18 (.tmp 13) (.const (.bool true)) (.tmp 17), none, (some 18), false⟩,
      ⟨.copy 2 (.tmp 18), none, (some 2), false⟩])
    (.ret [(.tmp 2)] [.none]))
theorem k33 : compileFn E33 Try.f33 sg33 hs33 = some c33 := by kernel_rfl

/- loop.example/g01334/laws.eqBox -/
noncomputable def l34 : Deps := []
noncomputable def E34 : Env := mkE Try.prog [0, 1, 2, 3] [] l34 []
noncomputable def hs34 : HS := []
noncomputable def c34 : Cmd :=
  .seq (.ops [⟨.box 2 .own (.tmp 0) .none, none, (some 2), false⟩,
     ⟨.box 3 .own (.tmp 1) .none, none, (some 3), false⟩,
     ⟨.copy 4 (.const (.bool false)), none, (some 4), false⟩])
   (.seq (.seq (.ops [⟨.fadd 5 (.tmp 2) 0, none, (some 5), false⟩,
       ⟨.loadB 6 (.tmp 5) none true, none, (some 6), false⟩,
       ⟨.fadd 7 (.tmp 3) 0, none, (some 7), false⟩,
       ⟨.loadB 8 (.tmp 7) none true, none, (some 8), false⟩,
       ⟨.bin 9 .neq (.tmp 6) (.tmp 8), none, (some 9), false⟩])
     (.cond (.tmp 9)
      (.seq (.ops [⟨.copy 4 (.const (.bool false)), none, (some 4), false⟩])
       (.ret [(.tmp 4)] [.none]))
      (.skip)))
    (.seq (.seq (.ops [⟨.fadd 10 (.tmp 2) 1, none, (some 10), false⟩,
        ⟨.loadB 11 (.tmp 10) none true, none, (some 11), false⟩,
        ⟨.fadd 12 (.tmp 3) 1, none, (some 12), false⟩,
        ⟨.loadB 13 (.tmp 12) none true, none, (some 13), false⟩,
        ⟨.bin 14 .neq (.tmp 11) (.tmp 13), none, (some 14), false⟩])
      (.cond (.tmp 14)
       (.seq (.ops [⟨.copy 4 (.const (.bool false)), none, (some 4), false⟩])
        (.ret [(.tmp 4)] [.none]))
       (.skip)))
     (.seq (.seq (.ops [⟨.fadd 15 (.tmp 2) 2, none, (some 15), false⟩,
         ⟨.loadB 16 (.tmp 15) none true, none, (some 16), false⟩,
         ⟨.fadd 17 (.tmp 3) 2, none, (some 17), false⟩,
         ⟨.loadB 18 (.tmp 17) none true, none, (some 18), false⟩,
         ⟨.bin 19 .neq (.tmp 16) (.tmp 18), none, (some 19), false⟩])
       (.cond (.tmp 19)
        (.seq (.ops [⟨.copy 4 (.const (.bool false)), none, (some 4), false⟩])
         (.ret [(.tmp 4)] [.none]))
        (.skip)))
      (.seq (.ops [⟨.copy 4 (.const (.bool true)), none, (some 4), false⟩])
       (.ret [(.tmp 4)] [.none])))))
theorem k34 : compileFn E34 Try.f34 sg34 hs34 = some c34 := by kernel_rfl

/- loop.example/g01334/laws.eqThing -/
noncomputable def l35 : Deps := []
noncomputable def E35 : Env := mkE Try.prog [0, 1, 2, 3] [] l35 []
noncomputable def hs35 : HS := []
noncomputable def c35 : Cmd :=
  .seq (.ops [⟨.box 2 .own (.tmp 0) .none, none, (some 2), false⟩,
     ⟨.box 3 .own (.tmp 1) .none, none, (some 3), false⟩,
     ⟨.copy 4 (.const (.bool false)), none, (some 4), false⟩])
   (.seq (.seq (.ops [⟨.fadd 5 (.tmp 2) 0, none, (some 5), false⟩,
       ⟨.loadB 6 (.tmp 5) none true, none, (some 6), false⟩,
       ⟨.fadd 7 (.tmp 3) 0, none, (some 7), false⟩,
       ⟨.loadB 8 (.tmp 7) none true, none, (some 8), false⟩,
       ⟨.bin 9 .neq (.tmp 6) (.tmp 8), none, (some 9), false⟩])
     (.cond (.tmp 9)
      (.seq (.ops [⟨.copy 4 (.const (.bool false)), none, (some 4), false⟩])
       (.ret [(.tmp 4)] [.none]))
      (.skip)))
    (.seq (.seq (.ops [⟨.fadd 10 (.tmp 2) 1, none, (some 10), false⟩,
        ⟨.loadB 11 (.tmp 10) none true, none, (some 11), false⟩,
        ⟨.fadd 12 (.tmp 3) 1, none, (some 12), false⟩,
        ⟨.loadB 13 (.tmp 12) none true, none, (some 13), false⟩,
        ⟨.bin 14 .neq (.tmp 11) (.tmp 13), none, (some 14), false⟩])
      (.cond (.tmp 14)
       (.seq (.ops [⟨.copy 4 (.const (.bool false)), none, (some 4), false⟩])
        (.ret [(.tmp 4)] [.none]))
       (.skip)))
     (.seq (.seq (.ops [⟨.fadd 15 (.tmp 2) 2, none, (some 15), false⟩,
         ⟨.loadB 16 (.tmp 15) none true, none, (some 16), false⟩,
         ⟨.fadd 17 (.tmp 3) 2, none, (some 17), false⟩,
         ⟨.loadB 18 (.tmp 17) none true, none, (some 18), false⟩,
         ⟨.bin 19 .neq (.tmp 16) (.tmp 18), none, (some 19), false⟩])
       (.cond (.tmp 19)
        (.seq (.ops [⟨.copy 4 (.const (.bool false)), none, (some 4), false⟩])
         (.ret [(.tmp 4)] [.none]))
        (.skip)))
      (.seq (.ops [⟨.copy 4 (.const (.bool true)), none, (some 4), false⟩])
       (.ret [(.tmp 4)] [.none])))))
theorem k35 : compileFn E35 Try.f35 sg35 hs35 = some c35 := by kernel_rfl

/- loop.example/g01334/spec.l1In -/
noncomputable def l36 : Deps := []
noncomputable def E36 : Env := mkE Try.prog [0, 1, 2, 3, 4, 5] [] l36 []
noncomputable def hs36 : HS := []
noncomputable def c36 : Cmd :=
  .seq (.ops [⟨.copy 6 (.const (.bool false)), none, (some 6), false⟩])
   (.seq (.ops [⟨.copy 7 (.tmp 0), none, (some 7), false⟩,
      ⟨.copy 8 (.tmp 1), none, (some 8), false⟩,
      ⟨.bin 9 .geq (.tmp 7) (.tmp 8), none, (some 9), false⟩,
      ⟨.copy 10 (.tmp 9), none, (some 10), false⟩,
      ⟨.copy 11 (.tmp 0), (some (10, true)), (some 11), true⟩,
      ⟨.copy 12 (.tmp 2), (some (10, true)), (some 12), true⟩,
      ⟨.bin 13 .leq (.tmp 11) (.tmp 12), (some (10, true)), (some 13), true⟩,
      ⟨.pick 14 (.tmp 10) (.tmp 13) (.const (.bool false)), none, (some 14), false⟩,
      ⟨.copy 6 (.tmp 14), none, (some 6), false⟩])
    (.ret [(.tmp 6)] [.none]))
theorem k36 : compileFn E36 Try.f36 sg36 hs36 = some c36 := by kernel_rfl

/- loop.example/g01334/spec.l1All -/
noncomputable def l37 : Deps := [(36, sg36, R36)]
noncomputable def E37 : Env := mkE Try.prog [0, 1, 2, 3, 4, 5, 7, 8] [] l37 []
noncomputable def hs37 : HS := [[0, 3, 4, 5, 6, 7, 8, 12, 13, 14, 15, 16, 17, 18, 19, 20]]
noncomputable def c37 : Cmd :=
  .seq (.ops [⟨.copy 6 (.const (.bool false)), none, (some 6), false⟩])
   (.seq (.seq (.ops [⟨.copy 9 (.tmp 0), none, (some 9), false⟩,
       ⟨.len 10 false (.tmp 9), none, (some 10), false⟩,
       ⟨.copy 11 (.const (.int .i64 0)), none, (some 11), false⟩])
     (.block 0 (.loop [false, true, true, false, false, false, false, false, false, true, true, true, false, false, false, false, false, false, false, false, false]
       (.seq (.ops [⟨.bin 12 .lss (.tmp 11) (.tmp 10), none, (some 12), false⟩])
        (.seq (.cond (.tmp 12)
          (.skip)
          (.exit 0))
         (.seq (.block 1 (.seq (.ops [⟨.iadd 13 9 3 (.tmp 11), none, (some 13), false⟩,
              ⟨.loadE 14 9 13 none true, none, (some 14), false⟩,
              ⟨.copy 8 (.tmp 14), none, (some 8), false⟩])
            (.seq (.ops [⟨.copy 15 (.tmp 8), none, (some 15), false⟩,
               ⟨.copy 16 (.tmp 1), none, (some 16), false⟩,
               ⟨.copy 17 (.tmp 2), none, (some 17), false⟩,
               ⟨.call (some 18) 36 sg36 [(.tmp 15), (.tmp 16), (.tmp 17)] [.none, .none, .none], none, (some 18), false⟩,
               ⟨.un 19 .not (.tmp 18), none, (some 19), false⟩])
             (.cond (.tmp 19)
              (.seq (.ops [⟨.copy 6 (.const (.bool false)), none, (some 6), false⟩])
               (.ret [(.tmp 6)] [.none]))
              (.skip)))))
          (.ops [⟨.bin 20 .add (.tmp 11) (.const (.int .i64 1)), none, (some 20), false⟩,
            ⟨.copy 11 (.tmp 20), none, (some 11), false⟩])))))))
    (.seq (.ops [⟨.copy 6 (.const (.bool true)), none, (some 6), false⟩])
     (.ret [(.tmp 6)] [.none])))
theorem k37 : compileFn E37 Try.f37 sg37 hs37 = some c37 := by kernel_rfl

/- loop.example/g01334/spec.neGood -/
noncomputable def l38 : Deps := [(37, sg37, R37)]
noncomputable def E38 : Env := mkE Try.prog [0, 1] [] l38 []
noncomputable def hs38 : HS := []
noncomputable def c38 : Cmd :=
  .seq (.ops [⟨.box 1 .own (.tmp 0) .none, none, (some 1), false⟩,
     ⟨.copy 2 (.const (.bool false)), none, (some 2), false⟩])
   (.seq (.ops [⟨.fadd 3 (.tmp 1) 0, none, (some 3), false⟩,
      ⟨.loadB 4 (.tmp 3) none true, none, (some 4), false⟩,
      ⟨.fadd 5 (.tmp 1) 1, none, (some 5), false⟩,
      ⟨.loadB 6 (.tmp 5) none true, none, (some 6), false⟩,
      ⟨.fadd 7 (.tmp 1) 2, none, (some 7), false⟩,
      ⟨.loadB 8 (.tmp 7) none true, none, (some 8), false⟩,
      ⟨.lit 9 3 1 [(.tmp 4), (.tmp 6), (.tmp 8)] [.none, .none, .none], none, (some 9), false⟩,
      ⟨.call (some 10) 37 sg37 [(.tmp 9), (.const (.int .i64 1)), (.const (.int .i64 50))] [.none, .none, .none], none, (some 10), false⟩,
      ⟨.copy 2 (.tmp 10), none, (some 2), false⟩])
    (.ret [(.tmp 2)] [.none]))
theorem k38 : compileFn E38 Try.f38 sg38 hs38 = some c38 := by kernel_rfl

/- slices.ContainsFunc[[]int,int] -/
noncomputable def l39 : Deps := [(44, sg44, R44)]
noncomputable def E39 : Env := mkE Try.prog [0, 1, 2, 3] [] l39 []
noncomputable def hs39 : HS := []
noncomputable def c39 : Cmd :=
  .seq (.ops [⟨.copy 4 (.const (.bool false)), none, (some 4), false⟩])
   (.seq (.ops [⟨.copy 5 (.tmp 0), none, (some 5), false⟩,
      ⟨.copy 6 (.tmp 1), none, (some 6), false⟩,
      ⟨.call (some 7) 44 sg44 [(.tmp 5), (.tmp 6)] [.none, .none], none, (some 7), false⟩,
      ⟨.bin 8 .geq (.tmp 7) (.const (.int .i64 0)), none, (some 8), false⟩,
      ⟨.copy 4 (.tmp 8), none, (some 4), false⟩])
    (.ret [(.tmp 4)] [.none]))
theorem k39 : compileFn E39 Try.f39 sg39 hs39 = some c39 := by kernel_rfl

/- loop.example/g01334/impl.areWithin$1 -/
noncomputable def l40 : Deps := [(27, sg27, R27)]
noncomputable def E40 : Env := mkE Try.prog [0, 3] [] l40 []
noncomputable def hs40 : HS := []
noncomputable def c40 : Cmd :=
  .seq (.ops [⟨.copy 4 (.const (.bool false)), none, (some 4), false⟩])
   (.seq (.ops [⟨.copy 5 (.tmp 0), none, (some 5), false⟩,
      ⟨.loadB 6 (.tmp 1) none true, none, (some 6), false⟩,
      ⟨.loadB 7 (.tmp 2) none true, none, (some 7), false⟩,
      ⟨.call (some 8) 27 sg27 [(.tmp 5), (.tmp 6), (.tmp 7)] [.none, .none, .none], none, (some 8), false⟩,
      ⟨.un 9 .not (.tmp 8), none, (some 9), false⟩,
      ⟨.copy 4 (.tmp 9), none, (some 4), false⟩])
    (.ret [(.tmp 4)] [.none]))
theorem k40 : compileFn E40 Try.f40 sg40 hs40 = some c40 := by kernel_rfl

/- slices.IndexFunc[[]loop.example/g01334/impl.Box,loop.example/g01334/impl.Box] -/
noncomputable def l41 : Deps := [(30, sg30, R30)]
noncomputable def E41 : Env := mkE Try.prog [0, 1, 2, 3, 5] [] l41 [(11, 30, 0)]
noncomputable def hs41 : HS := [[2, 3, 4, 5, 6, 9, 10, 11, 12, 13, 14, 15, 16, 17, 18]]
noncomputable def c41 : Cmd :=
  .seq (.ops [⟨.copy 4 (.const (.int .i64 0)), none, (some 4), false⟩])
   (.seq (.seq (.ops [⟨.copy 6 (.tmp 0), none, (some 6), false⟩,
       ⟨.len 7 false (.tmp 6), none, (some 7), false⟩,
       ⟨.copy 8 (.const (.int .i64 0)), none, (some 8), false⟩])
     (.block 0 (.loop [true, true, false, false, false, false, false, true, true, false, false, false, false, false, false, false, false, false, false]
       (.seq (.ops [⟨.bin 9 .lss (.tmp 8) (.tmp 7), none, (some 9), false⟩])
        (.seq (.cond (.tmp 9)
          (.skip)
          (.exit 0))
         (.seq (.block 1 (.seq (.ops [⟨.copy 10 (.tmp 8), none, (some 10), false⟩,
              ⟨.copy 5 (.tmp 10), none, (some 5), false⟩])
            (.seq (.ops [⟨.copy 11 (.tmp 1), none, (some 11), false⟩,
               ⟨.copy 12 (.tmp 0), none, (some 12), false⟩,
               ⟨.copy 13 (.tmp 5), none, (some 13), false⟩,
               ⟨.iadd 14 12 49 (.tmp 13), none, (some 14), false⟩,
               ⟨.loadE 15 12 14 (some 3) true, none, (some 15), false⟩,
               ⟨.callv (some 16) (.tmp 11) 30 0 sg30 [(.tmp 15)] [.none], none, (some 16), false⟩])
             (.cond (.tmp 16)
              (.seq (.ops [⟨.copy 17 (.tmp 5), none, (some 17), false⟩,
                 ⟨.copy 4 (.tmp 17), none, (some 4), false⟩])
               (.ret [(.tmp 4)] [.none]))
              (.skip)))))
          (.ops [⟨.bin 18 .add (.tmp 8) (.const (.int .i64 1)), none, (some 18), false⟩,
            ⟨.copy 8 (.tmp 18), none, (some 8), false⟩])))))))
    (.seq (.ops [⟨.copy 4 (.const (.int .i64 (-1))), none, (some 4), false⟩])
     (.ret [(.tmp 4)] [.none])))
theorem k41 : compileFn E41 Try.f41 sg41 hs41 = some c41 := by kernel_rfl

/- (loop.example/g01334/impl.Box).sides -/
noncomputable def l42 : Deps := []
noncomputable def E42 : Env := mkE Try.prog [0, 1] [] l42 []
noncomputable def hs42 : HS := []
noncomputable def c42 : Cmd :=
  .seq (.ops [⟨.box 1 .own (.tmp 0) .none, none, (some 1), false⟩,
     ⟨.copy 2 (.const (.slice none 0 0)), none, (some 2), false⟩])
   (.seq (.ops [⟨.fadd 3 (.tmp 1) 0, none, (some 3), false⟩,
      ⟨.loadB 4 (.tmp 3) none true, none, (some 4), false⟩,
      ⟨.fadd 5 (.tmp 1) 1, none, (some 5), false⟩,
      ⟨.loadB 6 (.tmp 5) none true, none, (some 6), false⟩,
      ⟨.fadd 7 (.tmp 1) 2, none, (some 7), false⟩,
      ⟨.loadB 8 (.tmp 7) none true, none, (some 8), false⟩,
      ⟨.lit 9 3 1 [(.tmp 4), (.tmp 6), (.tmp 8)] [.none, .none, .none], none, (some 9), false⟩,
      ⟨.take 2 (.tmp 9) (.slot 9), none, (some 2), false⟩])
    (.ret [(.tmp 2)] [(.slot 2)]))
theorem k42 : compileFn E42 Try.f42 sg42 hs42 = some c42 := by kernel_rfl

/- slices.IndexFunc[[]loop.example/g01334/impl.Thing,loop.example/g01334/impl.Thing] -/
noncomputable def l43 : Deps := [(33, sg33, R33)]
noncomputable def E43 : Env := mkE Try.prog [0, 1, 2, 3, 5] [] l43 [(11, 33, 0)]
noncomputable def hs43 : HS := [[2, 3, 4, 5, 6, 9, 10, 11, 12, 13, 14, 15, 16, 17, 18]]
noncomputable def c43 : Cmd :=
  .seq (.ops [⟨.copy 4 (.const (.int .i64 0)), none, (some 4), false⟩])
   (.seq (.seq (.ops [⟨.copy 6 (.tmp 0), none, (some 6), false⟩,
       ⟨.len 7 false (.tmp 6), none, (some 7), false⟩,
       ⟨.copy 8 (.const (.int .i64 0)), none, (some 8), false⟩])
     (.block 0 (.loop [true, true, false, false, false, false, false, true, true, false, false, false, false, false, false, false, false, false, false]
       (.seq (.ops [⟨.bin 9 .lss (.tmp 8) (.tmp 7), none, (some 9), false⟩])
        (.seq (.cond (.tmp 9)
          (.skip)
          (.exit 0))
         (.seq (.block 1 (.seq (.ops [⟨.copy 10 (.tmp 8), none, (some 10), false⟩,
              ⟨.copy 5 (.tmp 10), none, (some 5), false⟩])
            (.seq (.ops [⟨.copy 11 (.tmp 1), none, (some 11), false⟩,
               ⟨.copy 12 (.tmp 0), none, (some 12), false⟩,
               ⟨.copy 13 (.tmp 5), none, (some 13), false⟩,
               ⟨.iadd 14 12 53 (.tmp 13), none, (some 14), false⟩,
               ⟨.loadE 15 12 14 (some 3) true, none, (some 15), false⟩,
               ⟨.callv (some 16) (.tmp 11) 33 0 sg33 [(.tmp 15)] [.none], none, (some 16), false⟩])
             (.cond (.tmp 16)
              (.seq (.ops [⟨.copy 17 (.tmp 5), none, (some 17), false⟩,
                 ⟨.copy 4 (.tmp 17), none, (some 4), false⟩])
               (.ret [(.tmp 4)] [.none]))
              (.skip)))))
          (.ops [⟨.bin 18 .add (.tmp 8) (.const (.int .i64 1)), none, (some 18), false⟩,
            ⟨.copy 8 (.tmp 18), none, (some 8), false⟩])))))))
    (.seq (.ops [⟨.copy 4 (.const (.int .i64 (-1))), none, (some 4), false⟩])
     (.ret [(.tmp 4)] [.none])))
theorem k43 : compileFn E43 Try.f43 sg43 hs43 = some c43 := by kernel_rfl

/- slices.IndexFunc[[]int,int] -/
noncomputable def l44 : Deps := [(40, sg40, R40)]
noncomputable def E44 : Env := mkE Try.prog [0, 1, 2, 3, 5] [] l44 [(11, 40, 2)]
noncomputable def hs44 : HS := [[2, 3, 4, 5, 6, 9, 10, 11, 12, 13, 14, 15, 16, 17, 18]]
noncomputable def c44 : Cmd :=
  .seq (.ops [⟨.copy 4 (.const (.int .i64 0)), none, (some 4), false⟩])
   (.seq (.seq (.ops [⟨.copy 6 (.tmp 0), none, (some 6), false⟩,
       ⟨.len 7 false (.tmp 6), none, (some 7), false⟩,
       ⟨.copy 8 (.const (.int .i64 0)), none, (some 8), false⟩])
     (.block 0 (.loop [true, true, false, false, false, false, false, true, true, false, false, false, false, false, false, false, false, false, false]
       (.seq (.ops [⟨.bin 9 .lss (.tmp 8) (.tmp 7), none, (some 9), false⟩])
        (.seq (.cond (.tmp 9)
          (.skip)
          (.exit 0))
         (.seq (.block 1 (.seq (.ops [⟨.copy 10 (.tmp 8), none, (some 10), false⟩,
              ⟨.copy 5 (.tmp 10), none, (some 5), false⟩])
            (.seq (.ops [⟨.copy 11 (.tmp 1), none, (some 11), false⟩,
               ⟨.copy 12 (.tmp 0), none, (some 12), false⟩,
               ⟨.copy 13 (.tmp 5), none, (some 13), false⟩,
               ⟨.iadd 14 12 3 (.tmp 13), none, (some 14), false⟩,
               ⟨.loadE 15 12 14 none true, none, (some 15), false⟩,
               ⟨.callv (some 16) (.tmp 11) 40 2 sg40 [(.tmp 15)] [.none], none, (some 16), false⟩])
             (.cond (.tmp 16)
              (.seq (.ops [⟨.copy 17 (.tmp 5), none, (some 17), false⟩,
                 ⟨.copy 4 (.tmp 17), none, (some 4), false⟩])
               (.ret [(.tmp 4)] [.none]))
              (.skip)))))
          (.ops [⟨.bin 18 .add (.tmp 8) (.const (.int .i64 1)), none, (some 18), false⟩,
            ⟨.copy 8 (.tmp 18), none, (some 8), false⟩])))))))
    (.seq (.ops [⟨.copy 4 (.const (.int .i64 (-1))), none, (some 4), false⟩])
     (.ret [(.tmp 4)] [.none])))
theorem k44 : compileFn E44 Try.f44 sg44 hs44 = some c44 := by kernel_rfl


end Go.Proofs.Ytemnldkcemfmeaa
