/- Contracts of the kit as contracts of the reckoner; nests in plain words. Conditions: none. -/
import Derived.Test.YtnkjbncagnfnoaaDenC
import Derived.Below
set_option linter.unusedVariables false
set_option linter.unusedSimpArgs false
set_option linter.unnecessarySimpa false
set_option autoImplicit false
set_option linter.unusedVariables false
namespace Go.Den
open Go.RowKit

/-- A function of the library, by a contract of the kit's: it hands back one fresh value of its own, and turns nothing that lay. -/
theorem specFresh {P : Program} {g : Nat} {sg : Sig} {Rl : Rel} {fn : Func} (hf : P.funcs[g]? = some fn) (hname : (fn.name == "runtime.NumGoroutine") = false) (hb : fn.body.isNone = false)
    (hpure : sg.pure = true) (hmu : sg.mu = false) (hrs : sg.rs = [.own])
    (h : ∀ (X : Cx) (s : S), X.P = P → Sim X (entG sg) s → X.lim = s.H.length → ∀ rs H', Rl X.lim s.σ s.H rs H' → ∃ v, rs = [v] ∧
      Calls P g s.a.tmps s.w fun e w' => ∃ c, e = .returned c ∧ R P w' .own (fun k => s.w.heap.size ≤ k ∧ k < w'.heap.size) v c ∧ Below s.w.heap.size s.w w') : SpecR P g sg Rl := by
  refine ⟨⟨fn, hf, hname, hb⟩, ?_⟩
  intro X s K hX hs h0 hp hm ⟨rs, H', hR, hK⟩
  obtain ⟨v, rfl, hc⟩ := h X s hX hs ((hp hpure).trans h0) rs H' hR
  refine hc.mono ?_
  rintro e w' ⟨c, rfl, hr, bel⟩
  let s' : S := { σ := [v], H := s.H, L := fun k => if k < s.w.heap.size then s.L k else if k < w'.heap.size then .s 0 else .no, bm := s.bm, a := ⟨#[c], []⟩, w := w' }
  have hL : ∀ k, k < s.w.heap.size → s'.L k = s.L k ∧ s'.w.heap[k]? = s.w.heap[k]? := fun k hk => ⟨if_pos hk, bel.block k hk⟩
  have lt_of : ∀ k l, s.L k = l → l ≠ .no → k < s.w.heap.size := fun k l hl hn => by
    rcases Nat.lt_or_ge k s.w.heap.size with h | h
    · exact h
    · exact absurd ((hs.top k h).symm.trans hl).symm hn
  have hsim : Sim X [.own] s' := by
    refine ⟨rfl, rfl, rfl, fun i gg hg => ?_, fun r b hb => ?_, fun k hk => ?_, ?_⟩
    · match i with
      | 0 =>
        simp at hg; subst hg
        right
        show R X.P w' .own (s'.fp (· = .s 0)) v c
        rw [hX]
        refine hr.mono fun k hk => ?_
        show (if k < s.w.heap.size then s.L k else if k < w'.heap.size then Lab.s 0 else .no) = .s 0
        rw [if_neg (by omega), if_pos hk.2]
      | i + 1 => simp at hg
    · have hbx := hs.box r b hb
      obtain ⟨vals, e, h1, h2, _⟩ := id hbx
      have hlt : s.bm r < s.w.heap.size := (Array.getElem?_eq_some_iff.1 h1).1
      refine hbx.step (hL _ hlt) (fun k hk => hL k ?_) (H_lt hb) (Nat.le_refl _) fun _ _ => rfl
      rcases hk with ⟨j, h⟩ | h | h
      · exact lt_of k _ h (by simp)
      · exact lt_of k _ h (by simp)
      · exact lt_of k _ h (by simp)
    · show (if k < s.w.heap.size then s.L k else if k < w'.heap.size then Lab.s 0 else .no) = .no
      have hk' : w'.heap.size ≤ k := hk
      have := bel.size
      rw [if_neg (by omega), if_neg (by omega)]
    · exact hs.n0
  refine ⟨s', ?_, rfl, ?_, (fun h => absurd h (by rw [hmu]; simp)), ⟨bel.os, bel.tape, bel.output, bel.size, fun k hk _ => ⟨bel.block k hk, if_pos hk⟩⟩, H', .inl hpure, hK⟩
  · rw [hmu]; rfl
  · have : sg.rs' = [.own] := by simp [Sig.rs', hmu, hrs]
    rw [this]; exact hsim

/-- A function that hands back a Bool, by a contract of the kit's. -/
theorem specBool {P : Program} {g : Nat} {sg : Sig} {Rl : Rel} {fn : Func} (hf : P.funcs[g]? = some fn) (hname : (fn.name == "runtime.NumGoroutine") = false) (hb : fn.body.isNone = false)
    (hpure : sg.pure = true) (hmu : sg.mu = false) (hrs : sg.rs = [.fl])
    (h : ∀ (X : Cx) (s : S), X.P = P → Sim X (entG sg) s → X.lim = s.H.length → ∀ rs H', Rl X.lim s.σ s.H rs H' → ∃ b, rs = [.bool b] ∧
      Calls P g s.a.tmps s.w fun e w' => e = .returned (.bool b) ∧ Below s.w.heap.size s.w w') : SpecR P g sg Rl := by
  refine ⟨⟨fn, hf, hname, hb⟩, ?_⟩
  intro X s K hX hs h0 hp hm ⟨rs, H', hR, hK⟩
  obtain ⟨b, rfl, hc⟩ := h X s hX hs ((hp hpure).trans h0) rs H' hR
  refine hc.mono ?_
  rintro e w' ⟨rfl, bel⟩
  let s' : S := { σ := [.bool b], H := s.H, L := s.L, bm := s.bm, a := ⟨#[.bool b], []⟩, w := w' }
  have hL : ∀ k, k < s.w.heap.size → s'.L k = s.L k ∧ s'.w.heap[k]? = s.w.heap[k]? := fun k hk => ⟨rfl, bel.block k hk⟩
  have lt_of : ∀ k l, s.L k = l → l ≠ .no → k < s.w.heap.size := fun k l hl hn => by
    rcases Nat.lt_or_ge k s.w.heap.size with h | h
    · exact h
    · exact absurd ((hs.top k h).symm.trans hl).symm hn
  have hsim : Sim X [.fl] s' := by
    refine ⟨rfl, rfl, rfl, fun i gg hg => ?_, fun r b hb => ?_, fun k hk => ?_, ?_⟩
    · match i with
      | 0 =>
        simp at hg; subst hg
        right
        exact .flat rfl
      | i + 1 => simp at hg
    · have hbx := hs.box r b hb
      obtain ⟨vals, e, h1, h2, _⟩ := id hbx
      have hlt : s.bm r < s.w.heap.size := (Array.getElem?_eq_some_iff.1 h1).1
      refine hbx.step (hL _ hlt) (fun k hk => hL k ?_) (H_lt hb) (Nat.le_refl _) fun _ _ => rfl
      rcases hk with ⟨j, h⟩ | h | h
      · exact lt_of k _ h (by simp)
      · exact lt_of k _ h (by simp)
      · exact lt_of k _ h (by simp)
    · have hk' : w'.heap.size ≤ k := hk
      have := bel.size
      exact hs.top k (by omega)
    · exact hs.n0
  refine ⟨s', ?_, rfl, ?_, (fun h => absurd h (by rw [hmu]; simp)), ⟨bel.os, bel.tape, bel.output, bel.size, fun k hk _ => ⟨bel.block k hk, rfl⟩⟩, H', .inl hpure, hK⟩
  · rw [hmu]; rfl
  · have : sg.rs' = [.fl] := by simp [Sig.rs', hmu, hrs]
    rw [this]; exact hsim

/-- A function that only reads and hands back a Bool, called from outside. -/
theorem lift_bool {P : Program} {g : Nat} {sg : Sig} {Rl : Rel} (hs : SpecR P g sg Rl) (hrs : sg.rs = [.fl]) {W : World} {args : List Value} {pvs : List PV} {b : Bool} (hl1 : args.length = pvs.length) (hl2 : sg.ps.length = pvs.length)
    (hR : ∀ i (p : PK), sg.ps[i]? = some p → (p = .rd ∧ R P W .rep (fun k => k < W.heap.size) (pvs.getD i .undef) (args.getD i undef)) ∨ (p = .fl ∧ R P W .rep (fun _ => False) (pvs.getD i .undef) (args.getD i undef)))
    (hrel : Rl 0 pvs [] [.bool b] []) (hmu : sg.mu = false := by rfl) : Calls P g args.toArray W fun e W' => e = .returned (.bool b) ∧ Go.RowKit.Below W.heap.size W W' := by
  let X : Cx := ⟨P, [], 0, fun _ => undef⟩
  let s : S := { σ := pvs, H := [], L := fun k => if k < W.heap.size then .sh else .no, bm := fun _ => 0, a := ⟨args.toArray, []⟩, w := W }
  have hent : entG sg = sg.ps.map PK.toG := by simp [entG, hmu]
  have hrs' : sg.rs' = sg.rs := by simp [Sig.rs', hmu]
  have hsim : Sim X (entG sg) s := by
    rw [hent]
    refine ⟨by simp [s, hl2], by simp [s, hl1], rfl, fun i gg hg => ?_, fun r b hb => by simp [s] at hb, fun k hk => if_neg (by show ¬ k < W.heap.size; exact Nat.not_lt.2 hk), ⟨Nat.le_refl _, fun r p hp => by simp [X] at hp⟩⟩
    simp only [List.getElem?_map, Option.map_eq_some_iff] at hg
    obtain ⟨p, hp, rfl⟩ := hg
    right
    have e2 : s.c i = args.getD i undef := by simp [s, S.c, List.getD_eq_getElem?_getD]
    have e1 : s.v i = pvs.getD i .undef := rfl
    rw [e1, e2]
    rcases hR i p hp with ⟨rfl, h⟩ | ⟨rfl, h⟩
    · exact R.mono h fun k hk => if_pos hk
    · exact h
  refine (hs.2 X s (fun rs' _ => rs' = [PV.bool b]) rfl hsim rfl (fun _ => rfl) (fun hx => by rw [hmu] at hx; cases hx) ⟨[.bool b], [], hrel, rfl⟩).mono ?_
  rintro e W' ⟨s', rfl, rfl, hs', _, hf, H', _, hk⟩
  rw [hrs'] at hs'
  rw [show (if sg.mu = true then s'.a.tmps.pop else s'.a.tmps) = s'.a.tmps by simp [hmu]]
  have hk' : s'.σ = [.bool b] := hk
  refine ⟨?_, hf.os, hf.tape, hf.output, hf.size, fun k hk => (hf.keep k hk (by show keeps X (if k < W.heap.size then .sh else .no); rw [if_pos hk]; trivial)).1⟩
  have hsl := hs'.slot 0 .fl (by rw [hrs]; rfl)
  have hv : s'.v 0 = .bool b := by simp [S.v, hk']
  rcases hsl with h | h
  · rw [hv] at h; cases h
  · rw [hv] at h
    have hc := R.bool_inv h
    have hsz : s'.a.tmps.size = 1 := by rw [hs'.lenA, hk']; rfl
    unfold packV
    rw [dif_pos hsz]
    simp only [S.c, Array.getD_eq_getD_getElem?] at hc
    rw [Array.getElem?_eq_getElem (by omega)] at hc
    simp only [Option.getD_some] at hc
    rw [hc]
/-- A row of numbers that reads so. -/
theorem rowReads {P : Program} {W : World} {e base n : Nat} {v : Value} {ns : List Int} (hc : P.cellsOf e = 1) (h : W.ownsRow base e 1 v n (ns.map fun z => Value.int .i64 z)) (hn : ns.length = n) (h0 : 0 < n) :
    R P W .rep (fun k => k < W.heap.size) (.sl e (ns.map fun z => PV.int .i64 z)) v := by
  subst hn
  have hnn : v.ownBlock ≠ none := by
    rcases h.2 with ⟨rfl, h1⟩ | ⟨g, cap, cur, rfl, _⟩
    · omega
    · simp [Value.ownBlock]
  have hrow : RowOk P W .own e v (ns.map fun z => PV.int .i64 z).length (ns.map fun z => Value.int .i64 z) := by
    refine ⟨?_, hnn⟩
    rw [hc]
    refine ⟨by simp, ?_⟩
    rcases h.2 with ⟨rfl, h1⟩ | ⟨g, cap, cur, rfl, hb, hg, h1, h2, h3, h4⟩
    · omega
    · exact .inr ⟨g, cap, cur, by simp, Nat.zero_le _, hg, by simpa using h1, h2, h3, by simpa using h4⟩
  have hfl0 : ∀ l : List Int, flatten (l.map fun z => PV.int .i64 z) = l.map fun z => PV.int .i64 z := by
    intro l
    simp only [flatten]
    induction l with
    | nil => rfl
    | cons a l ih => simp [PV.cells, List.flatMap_cons, ih]
  have hfl := hfl0 ns
  refine .row (fun _ => 0) (ns.map fun z => Value.int .i64 z) (fun x hx => ?_) (by omega) hrow.rep (fun k hk => (h.lt k hk).2) fun i hi => ?_
  · obtain ⟨z, _, rfl⟩ := List.mem_map.1 hx
    simp [PV.cells, hc]
  · rw [hfl] at hi ⊢
    have hi' : i < ns.length := by simpa using hi
    simp [List.getD, hi']
    exact .flat rfl
end Go.Den
set_option autoImplicit false
namespace Go.Den

/-- The slots of a frame of which something is known. -/
def slots (n : Nat) (l : List (Nat × PV)) : List PV := l.foldl (fun s p => s.set p.1 p.2) (List.replicate n .undef)

/-- A contract that asks for what is never there. -/
theorem specNone {P : Program} {g : Nat} {fn : Func} {sg : Sig} {R : Rel} (hf : P.funcs[g]? = some fn) (hname : (fn.name == "runtime.NumGoroutine") = false) (hb : fn.body.isNone = false) (hR : ∀ lim vs H rs H', ¬ R lim vs H rs H') : SpecR P g sg R :=
  ⟨⟨fn, hf, hname, hb⟩, fun _ _ _ _ _ _ _ _ ⟨_, _, h, _⟩ => absurd h (hR _ _ _ _ _)⟩
/-- Contracts by a number. -/
theorem specEx {P : Program} {g : Nat} {sg : Sig} {R : Nat → Rel} (h : ∀ n, SpecR P g sg (R n)) : SpecR P g sg (fun lim vs H rs H' => ∃ n, R n lim vs H rs H') :=
  ⟨(h 0).1, fun X s K hX hs h0 hp hm ⟨rs, H', ⟨n, hR⟩, hK⟩ => (h n).2 X s K hX hs h0 hp hm ⟨rs, H', hR, hK⟩⟩
/-- A variable in memory that holds a number. -/
def Num (H : Boxes) (r : Nat) (n : Int) : Prop := ∃ ck, H[r]? = some (ck, [I n]) ∧ ck ≠ .fn
/-- Numbers so few and small that no sum of them overflows. -/
def Small (ns : List Int) : Prop := ns.length ≤ 1048576 ∧ ∀ n ∈ ns, -1048576 ≤ n ∧ n ≤ 1048576
theorem Small.sum {ns : List Int} (h : Small ns) (i : Nat) : -1099511627776 ≤ (ns.take i).sum ∧ (ns.take i).sum ≤ 1099511627776 := by
  have key : ∀ l : List Int, (∀ n ∈ l, -1048576 ≤ n ∧ n ≤ 1048576) → -1048576 * (l.length : Int) ≤ l.sum ∧ l.sum ≤ 1048576 * (l.length : Int) := by
    intro l
    induction l with
    | nil => intro _; simp
    | cons a l ih =>
      intro hl
      have := hl a (by simp)
      have := ih fun n hn => hl n (by simp [hn])
      simp only [List.sum_cons, List.length_cons]
      omega
  have := key (ns.take i) fun n hn => h.2 n (List.mem_of_mem_take hn)
  have hl : (ns.take i).length ≤ 1048576 := by rw [List.length_take]; have := h.1; omega
  omega
theorem rowOf_sl {e : Nat} {xs : List PV} : rowOf e (.sl e xs) = some xs := by simp [rowOf]
theorem rowOf_nil {e : Nat} : rowOf e .nil = some [] := rfl
theorem Sl.row {α : Type} {e : Nat} {f : α → PV} {v : PV} {xs : List α} (h : Sl e f v xs) : rowOf e v = some (xs.map f) := by
  rcases h.1 with rfl | ⟨rfl, rfl⟩
  · exact rowOf_sl
  · rfl
/-- A row of numbers behind a row. -/
theorem Sl.app0 {e : Nat} {v : PV} {ns : List Int} {xs : List Int} (h : Sl e I v ns) (hb : xs.length + ns.length ≤ 17592186044416) : appV e 8 true (.sl e (xs.map I)) v = some (.sl e ((xs ++ ns).map I)) := by
  unfold appV
  rw [rowOf_sl, h.row]
  simp only
  rw [if_pos]
  · simp [appRes]
  · refine ⟨by simp; omega, by simp; omega, by simp, by simp⟩

theorem Sl.app1 {e : Nat} {v w : PV} {ns xs : List Int} (hv : Sl e I v xs) (h : Sl e I w ns) (hn : ns ≠ []) (hb : xs.length + ns.length ≤ 17592186044416) : appV e 8 true v w = some (.sl e ((xs ++ ns).map I)) := by
  rcases hv.1 with rfl | ⟨rfl, rfl⟩
  · exact h.app0 hb
  · unfold appV
    rw [rowOf_nil, h.row]
    simp only
    rw [if_pos]
    · cases ns with
      | nil => exact absurd rfl hn
      | cons a ns => simp [appRes]
    · simp at hb; refine ⟨by simp; omega, by simp; omega, by simp, by simp⟩
/-! ### Puzzles, in plain words -/
structure Cl where
  k : Int
  a : Int
  b : Int
  c : Int
  deriving DecidableEq
def pC (x : Cl) : PV := .agg [I x.k, I x.a, I x.b, I x.c]
@[simp] theorem pC_cells (x : Cl) : (pC x).cells = [I x.k, I x.a, I x.b, I x.c] := rfl
@[simp] theorem pC_undef (x : Cl) : (pC x).isUndef = false := rfl
@[simp] theorem pC_flat (x : Cl) : (pC x).isFlat = true := by simp [pC]
@[simp] theorem pC_nOk (x : Cl) : nOk (some 4) (pC x) = true := rfl
theorem pC_eq (x : Cl) : .agg [I x.k, I x.a, I x.b, I x.c] = pC x := rfl

def clueOk (n : Int) (x : Cl) : Bool :=
  if x.k = 0 then (x.a == 0 && x.b == 0) && inR 0 24 x.c
  else if x.k = 1 then (inR 0 (n - 1) x.a && inR 0 (n - 1) x.b && x.a != x.b) && inR 0 1 x.c
  else if x.k = 2 then inR 6 24 x.a && x.b == 0 && inR 1 4 x.c
  else if x.k = 3 then inR 1 24 x.a && x.b == 0 && inR 0 1 x.c
  else if x.k = 4 then (inR 0 (n - 1) x.a && inR 0 (n - 1) x.b && x.a != x.b) && inR 1 36 x.c
  else if x.k = 5 then (x.a == 0 && x.b == 0) && inR 1 6 x.c
  else false
def hid (xs : List Int) : Bool := inR 2 4 xs.length && xs.all (inR 1 6)
def getI (xs : List Int) (a : Int) : Int := xs.getD a.toNat 0
def maxL (xs : List Int) : Int := xs.foldl max 0
def subS : List Int → Int → Bool
  | [], s => s == 0
  | x :: xs, s => subS xs (s - x) || subS xs s
/-- The loads when one more thing may come. -/
def nextL (loads : List Int) (b : Nat) : List Int := if b = loads.length then loads ++ [0] else loads
/-- All plans that go on from one, in order. -/
def plansL (room : Int) (most : Nat) : List Int → List Int → List Int → List (List Int)
  | [], plan, _ => [plan]
  | x :: rest, plan, loads => (List.range (min (loads.length + 1) most)).flatMap fun b =>
      if (nextL loads b).getD b 0 + x ≤ room then plansL room most rest (plan ++ [(b : Int)]) ((nextL loads b).set b ((nextL loads b).getD b 0 + x)) else []
theorem plansL_cons (room : Int) (most : Nat) (x : Int) (rest plan loads : List Int) : plansL room most (x :: rest) plan loads = (List.range (min (loads.length + 1) most)).flatMap fun b =>
      if (nextL loads b).getD b 0 + x ≤ room then plansL room most rest (plan ++ [(b : Int)]) ((nextL loads b).set b ((nextL loads b).getD b 0 + x)) else [] := rfl
theorem nextL_len {loads : List Int} {b : Nat} (h : b ≤ loads.length) : b < (nextL loads b).length ∧ (nextL loads b).length ≤ loads.length + 1 := by
  unfold nextL; split <;> simp <;> omega
theorem plansL_len {room : Int} {most : Nat} : ∀ (rest plan loads : List Int), loads.length + rest.length ≤ 16 → (plansL room most rest plan loads).length ≤ 16 ^ rest.length
  | [], _, _, _ => by simp [plansL]
  | x :: rest, plan, loads, h => by
    rw [plansL_cons, List.length_flatMap]
    simp only [List.length_cons] at h ⊢
    have key : ∀ l : List Nat, (∀ b ∈ l, b ≤ loads.length) → (l.map fun b => (if (nextL loads b).getD b 0 + x ≤ room then plansL room most rest (plan ++ [(b : Int)]) ((nextL loads b).set b ((nextL loads b).getD b 0 + x)) else []).length).sum ≤ l.length * 16 ^ rest.length := by
      intro l hl
      induction l with
      | nil => simp
      | cons b l ih =>
        have h1 := ih fun c hc => hl c (by simp [hc])
        have h2 : (if (nextL loads b).getD b 0 + x ≤ room then plansL room most rest (plan ++ [(b : Int)]) ((nextL loads b).set b ((nextL loads b).getD b 0 + x)) else []).length ≤ 16 ^ rest.length := by
          split
          · have := (nextL_len (hl b (by simp))).2
            exact plansL_len rest _ _ (by rw [List.length_set]; omega)
          · exact Nat.zero_le _
        simp only [List.map_cons, List.sum_cons, List.length_cons]
        rw [Nat.add_mul]; omega
    have := key (List.range (min (loads.length + 1) most)) fun b hb => by have := List.mem_range.1 hb; omega
    refine Nat.le_trans this ?_
    rw [List.length_range, Nat.pow_succ, Nat.mul_comm]
    exact Nat.mul_le_mul_left _ (by omega)
/-- The first one, as a slice. -/
def firstV (e : Nat) (l : List (List Int)) : PV := match l with
  | [] => .nil
  | p :: _ => .sl e (p.map I)
@[simp] theorem firstV_undef {e : Nat} {l : List (List Int)} : (firstV e l).isUndef = false := by cases l <;> rfl
@[simp] theorem firstV_cells {e : Nat} {l : List (List Int)} : (firstV e l).cells = [firstV e l] := by cases l <;> rfl
@[simp] theorem firstV_def1 {e : Nat} {l : List (List Int)} : (firstV e l).def1 = true := by cases l <;> rfl
theorem firstV_app {e : Nat} {l m : List (List Int)} : firstV e (l ++ m) = if l = [] then firstV e m else firstV e l := by cases l <;> simp [firstV]
def few (room : Int) (xs : List Int) : Nat := ((List.range (xs.length + 1)).find? fun m => !(plansL room m xs [] []).isEmpty).getD 0
theorem shr_I {m i : Nat} (h : i < 64) : binV .shr (.int .i64 m) (.int .i64 i) = some (.int .i64 ((m / 2 ^ i : Nat) : Int)) := by
  have e : min i 64 = i := by omega
  simp only [binV, IntKind.bits, Int.toNat_natCast, e]
  rw [if_neg (by omega), Int.fdiv_eq_ediv_of_nonneg _ (Int.le_of_lt (Int.pow_pos (by decide)))]
  simp
theorem and_I {q : Nat} (_ : q < 9223372036854775808) : binV .and (.int .i64 q) (.int .i64 1) = some (.int .i64 ((q % 2 : Nat) : Int)) := by
  have e : (BitVec.ofInt 64 (q : Int) &&& BitVec.ofInt 64 1).toNat = q % 2 := by
    rw [BitVec.toNat_and]
    simp [Nat.and_one_is_mod]
  have e2 : binV .and (.int .i64 q) (.int .i64 1) = some (.int .i64 (IntKind.i64.wrap ((BitVec.ofInt 64 (q : Int) &&& BitVec.ofInt 64 1).toNat : Nat))) := rfl
  rw [e2, e, wrap_id (by omega) (by omega)]
theorem shl_I {i : Nat} (h : i < 62) : binV .shl (.int .i64 1) (.int .i64 i) = some (.int .i64 ((2 ^ i : Nat) : Int)) := by
  have e : min i 64 = i := by omega
  have hp : 2 ^ i ≤ 2 ^ 61 := Nat.pow_le_pow_right (by omega) (by omega)
  have e2 : binV .shl (.int .i64 1) (.int .i64 i) = if (i : Int) < 0 then none else some (.int .i64 (IntKind.i64.wrap (1 * 2 ^ min (i : Int).toNat 64))) := rfl
  have hp2 : (2 : Nat) ^ i ≤ 2305843009213693952 := hp
  rw [e2, if_neg (by omega), Int.toNat_natCast, e, Int.one_mul, show (2 : Int) ^ i = ((2 ^ i : Nat) : Int) by simp]
  generalize 2 ^ i = p at hp2
  rw [wrap_id (by omega) (by omega)]
/-- What a set of things weighs. -/
def mS : List Int → Nat → Int
  | [], _ => 0
  | x :: xs, m => ((m % 2 : Nat) : Int) * x + mS xs (m / 2)
theorem mS_take : ∀ {xs : List Int} {i : Nat} (h : i < xs.length) {m : Nat}, mS (xs.take (i + 1)) m = mS (xs.take i) m + ((m / 2 ^ i % 2 : Nat) : Int) * xs[i]
  | x :: xs, 0, h, m => by simp [mS]
  | x :: xs, i + 1, h, m => by
    have := mS_take (xs := xs) (i := i) (by simpa using h) (m := m / 2)
    simp only [List.take_succ_cons, mS, List.getElem_cons_succ, this, Nat.div_div_eq_div_mul]
    rw [Nat.pow_succ, Nat.mul_comm 2]
    omega
theorem subS_mS : ∀ {xs : List Int} {s : Int}, subS xs s = true ↔ ∃ m, m < 2 ^ xs.length ∧ mS xs m = s
  | [], s => by
    simp only [subS, beq_iff_eq, List.length_nil, mS]
    exact ⟨fun h => ⟨0, by simp, h.symm⟩, fun ⟨m, _, h⟩ => h.symm⟩
  | x :: xs, s => by
    simp only [subS, Bool.or_eq_true, subS_mS (xs := xs), List.length_cons, mS, Nat.pow_succ]
    constructor
    · rintro (⟨m, h1, h2⟩ | ⟨m, h1, h2⟩)
      · refine ⟨2 * m + 1, by omega, ?_⟩
        rw [show (2 * m + 1) % 2 = 1 by omega, show (2 * m + 1) / 2 = m by omega, h2]; simp; omega
      · refine ⟨2 * m, by omega, ?_⟩
        rw [show (2 * m) % 2 = 0 by omega, show (2 * m) / 2 = m by omega, h2]; simp
    · rintro ⟨m, h1, h2⟩
      rcases Nat.mod_two_eq_zero_or_one m with h | h
      · right; exact ⟨m / 2, by omega, by rw [h] at h2; simpa using h2⟩
      · left; exact ⟨m / 2, by omega, by rw [h] at h2; simp at h2; omega⟩
theorem mS_zero : ∀ {xs : List Int}, mS xs 0 = 0
  | [] => rfl
  | x :: xs => by simp [mS, mS_zero (xs := xs)]
theorem mS_bound {B : Int} (hB : 0 ≤ B) : ∀ {xs : List Int} {m : Nat}, (∀ x ∈ xs, 0 ≤ x ∧ x ≤ B) → 0 ≤ mS xs m ∧ mS xs m ≤ B * xs.length
  | [], m, _ => by simp [mS]
  | x :: xs, m, h => by
    have h1 := h x (by simp)
    have h2 := mS_bound hB (m := m / 2) (xs := xs) fun y hy => h y (by simp [hy])
    simp only [mS, List.length_cons]
    have e : B * ((xs.length + 1 : Nat) : Int) = B * xs.length + B := by rw [Int.natCast_add, Int.mul_add]; simp
    rw [e]
    rcases Nat.mod_two_eq_zero_or_one m with h | h <;> rw [h] <;> simp <;> omega
theorem Sl.nil0 {α : Type} {e : Nat} {f : α → PV} : Sl e f .nil ([] : List α) := ⟨.inr ⟨rfl, rfl⟩, by simp⟩
theorem plansL_some {room : Int} {most : Nat} : ∀ {rest plan loads : List Int}, loads.length + rest.length ≤ most → (∀ x ∈ rest, x ≤ room) → plansL room most rest plan loads ≠ []
  | [], _, _, _, _ => by simp [plansL]
  | x :: rest, plan, loads, h, hx => by
    simp only [List.length_cons] at h
    rw [plansL_cons]
    intro he
    rw [List.flatMap_eq_nil_iff] at he
    have h1 := he loads.length (List.mem_range.2 (by omega))
    have e0 : (nextL loads loads.length).getD loads.length 0 = 0 := by simp [nextL, List.getD]
    rw [e0, if_pos (by have := hx x (by simp); omega)] at h1
    refine plansL_some ?_ (fun y hy => hx y (by simp [hy])) h1
    rw [List.length_set]
    have := (nextL_len (Nat.le_refl loads.length)).2
    omega
theorem few_eq {room : Int} {xs : List Int} {m : Nat} (hm : m ≤ xs.length) (h1 : plansL room m xs [] [] ≠ []) (h2 : ∀ k, k < m → plansL room k xs [] [] = []) : few room xs = m := by
  have : (List.range (xs.length + 1)).find? (fun m => !(plansL room m xs [] []).isEmpty) = some m := by
    rw [List.find?_eq_some_iff_getElem]
    refine ⟨by simpa using h1, m, by simp; omega, by simp, fun j hj => ?_⟩
    simp [h2 j hj]
  rw [few, this]; rfl
theorem plansL_mem {room : Int} {m : Nat} : ∀ {rest plan loads p : List Int}, p ∈ plansL room m rest plan loads → ∃ s, p = plan ++ s ∧ s.length = rest.length ∧ ∀ x ∈ s, 0 ≤ x ∧ x < m
  | [], plan, _, p, h => ⟨[], by simpa [plansL] using h, rfl, by simp⟩
  | x :: rest, plan, loads, p, h => by
    rw [plansL_cons, List.mem_flatMap] at h
    obtain ⟨b, hb, h⟩ := h
    have hb := List.mem_range.1 hb
    split at h
    · obtain ⟨s, h1, h2, h3⟩ := plansL_mem h
      refine ⟨(b : Int) :: s, by rw [h1]; simp, by simp [h2], ?_⟩
      intro y hy
      rcases List.mem_cons.1 hy with rfl | hy
      · omega
      · exact h3 y hy
    · cases h
theorem plansL_less {room : Int} {m k : Nat} : ∀ {rest plan loads p : List Int}, p ∈ plansL room m rest plan loads → (∀ x ∈ p, x < k) → p ∈ plansL room k rest plan loads
  | [], plan, _, p, h, _ => by simpa [plansL] using h
  | x :: rest, plan, loads, p, h, hk => by
    rw [plansL_cons, List.mem_flatMap] at h ⊢
    obtain ⟨b, hb, h⟩ := h
    have hb := List.mem_range.1 hb
    split at h
    · rename_i hle
      obtain ⟨s, h1, _, _⟩ := plansL_mem h
      have hbk := hk b (by rw [h1]; simp)
      exact ⟨b, List.mem_range.2 (by omega), by rw [if_pos hle]; exact plansL_less h hk⟩
    · cases h
theorem maxL_aux : ∀ {xs : List Int} {a : Int}, a ≤ xs.foldl max a ∧ (∀ x ∈ xs, x ≤ xs.foldl max a) ∧ (xs.foldl max a = a ∨ xs.foldl max a ∈ xs)
  | [], a => by simp
  | x :: xs, a => by
    obtain ⟨h1, h2, h3⟩ := maxL_aux (xs := xs) (a := max a x)
    simp only [List.foldl_cons]
    refine ⟨by omega, ?_, ?_⟩
    · intro y hy
      rcases List.mem_cons.1 hy with rfl | hy
      · omega
      · exact h2 y hy
    · rcases h3 with h3 | h3
      · rcases Int.le_total a x with h | h
        · right; rw [h3, show max a x = x by omega]; simp
        · left; rw [h3]; omega
      · right; simp [h3]
theorem few_max {room : Int} {xs : List Int} {p : List Int} {l : List (List Int)} {m : Nat} (hm : 1 ≤ m) (h : plansL room m xs [] [] = p :: l) (h2 : ∀ k, k < m → plansL room k xs [] [] = []) : maxL p + 1 = m := by
  have hp : p ∈ plansL room m xs [] [] := by rw [h]; simp
  obtain ⟨s, h3, _, h4⟩ := plansL_mem hp
  simp at h3; subst h3
  obtain ⟨a1, a2, a3⟩ := maxL_aux (xs := p) (a := 0)
  have hlt : maxL p < m := by
    rcases a3 with h | h
    · unfold maxL; rw [h]; omega
    · exact (h4 _ h).2
  rcases Int.lt_or_le (maxL p + 1) m with h5 | h5
  · have h6 : p ∈ plansL room (m - 1) xs [] [] := plansL_less hp fun x hx => by have := a2 x hx; unfold maxL at h5; omega
    rw [h2 (m - 1) (by omega)] at h6; cases h6
  · omega
theorem flatMap_first {α : Type} {F : Nat → List α} {b : Nat} {p : α} {l : List α} (h : ∀ k, k < b → F k = []) (hb : F b = p :: l) : ∀ {M : Nat}, b < M → ∃ l', (List.range M).flatMap F = p :: l'
  | 0, hM => by omega
  | M + 1, hM => by
    rw [List.range_succ, List.flatMap_append]
    by_cases hlt : b < M
    · obtain ⟨l', e⟩ := flatMap_first h hb hlt
      rw [e]; exact ⟨_, rfl⟩
    · have : b = M := by omega
      subst this
      have e : (List.range b).flatMap F = [] := by
        rw [List.flatMap_eq_nil_iff]
        intro k hk
        exact h k (List.mem_range.1 hk)
      rw [e]; simp [hb]
theorem few_spec {room : Int} {xs : List Int} (hne : xs ≠ []) (hx : ∀ x ∈ xs, x ≤ room) : 1 ≤ few room xs ∧ few room xs ≤ xs.length ∧ plansL room (few room xs) xs [] [] ≠ [] ∧ ∀ k, k < few room xs → plansL room k xs [] [] = [] := by
  have h0 : plansL room 0 xs [] [] = [] := by
    cases xs with
    | nil => exact absurd rfl hne
    | cons x xs => simp [plansL_cons]
  have hl : plansL room xs.length xs [] [] ≠ [] := plansL_some (by simp) hx
  have key : ∀ m, m ≤ xs.length → plansL room m xs [] [] ≠ [] → ∃ m', m' ≤ m ∧ plansL room m' xs [] [] ≠ [] ∧ ∀ k, k < m' → plansL room k xs [] [] = [] := by
    intro m
    induction m using Nat.strongRecOn with
    | _ m ih =>
      intro hm hp
      by_cases hall : ∀ k, k < m → plansL room k xs [] [] = []
      · exact ⟨m, Nat.le_refl _, hp, hall⟩
      · simp only [Classical.not_forall] at hall
        obtain ⟨k, hk, hk2⟩ := hall
        obtain ⟨m', h1, h2, h3⟩ := ih k hk (by omega) hk2
        exact ⟨m', by omega, h2, h3⟩
  obtain ⟨m, h1, h2, h3⟩ := key _ (Nat.le_refl _) hl
  rw [few_eq h1 h2 h3]
  refine ⟨?_, h1, h2, h3⟩
  rcases Nat.eq_zero_or_pos m with rfl | h
  · exact absurd h0 h2
  · exact h
/-- The search for things that fill a room. -/
def loopF : List Int → Nat → Int → List Int → Option (List Int)
  | [], _, _, _ => none
  | x :: rest, i, left, list => if left < x then loopF rest (i + 1) left list else
      match (if left - x = 0 then some (list ++ [(i : Int)]) else loopF rest (i + 1) (left - x) (list ++ [(i : Int)])) with
      | some l => some l
      | none => loopF rest (i + 1) left list
def fillF (rest : List Int) (i : Nat) (left : Int) (list : List Int) : Option (List Int) := if left = 0 then some list else loopF rest i left list
theorem loopF_cons {x : Int} {rest : List Int} {i : Nat} {left : Int} {list : List Int} : loopF (x :: rest) i left list = if left < x then loopF rest (i + 1) left list else
      match fillF rest (i + 1) (left - x) (list ++ [(i : Int)]) with
      | some l => some l
      | none => loopF rest (i + 1) left list := rfl
theorem subS_neg : ∀ {xs : List Int} {s : Int}, (∀ x ∈ xs, 0 ≤ x) → s < 0 → subS xs s = false
  | [], s, _, hs => by simp [subS]; omega
  | x :: xs, s, h, hs => by
    have := h x (by simp)
    simp only [subS, Bool.or_eq_false_iff]
    exact ⟨subS_neg (fun y hy => h y (by simp [hy])) (by omega), subS_neg (fun y hy => h y (by simp [hy])) hs⟩
theorem subS_zero : ∀ {xs : List Int}, subS xs 0 = true
  | [] => rfl
  | x :: xs => by simp [subS, subS_zero (xs := xs)]
theorem loopF_ok : ∀ {xs : List Int} {i : Nat} {left : Int} {list : List Int}, (∀ x ∈ xs, 0 ≤ x) → 0 < left → (loopF xs i left list).isSome = subS xs left
  | [], i, left, list, _, hl => by simp [loopF, subS]; omega
  | x :: xs, i, left, list, h, hl => by
    have hx := h x (by simp)
    have hxs : ∀ y ∈ xs, 0 ≤ y := fun y hy => h y (by simp [hy])
    rw [loopF_cons, subS]
    have ih := loopF_ok (xs := xs) (i := i + 1) (left := left) (list := list) hxs hl
    split
    · have hn : subS xs (left - x) = false := subS_neg hxs (by omega)
      rw [ih, hn]; simp
    · unfold fillF
      by_cases h0 : left - x = 0
      · rw [if_pos h0, h0, subS_zero]; simp
      · rw [if_neg h0]
        have ih2 := loopF_ok (xs := xs) (i := i + 1) (left := left - x) (list := list ++ [(i : Int)]) hxs (by omega)
        cases hq : loopF xs (i + 1) (left - x) (list ++ [(i : Int)]) with
        | none => rw [hq] at ih2; rw [← ih2, ih]; simp
        | some l => rw [hq] at ih2; rw [← ih2]; simp
theorem fillF_ok {xs : List Int} {i : Nat} {left : Int} {list : List Int} (h : ∀ x ∈ xs, 0 ≤ x) (hl : 0 ≤ left) : (fillF xs i left list).isSome = subS xs left := by
  unfold fillF
  by_cases h0 : left = 0
  · rw [if_pos h0, h0, subS_zero]; rfl
  · rw [if_neg h0, loopF_ok h (by omega)]
def outV (e : Nat) (o : Option (List Int)) : PV := match o with
  | none => .nil
  | some l => .sl e (l.map I)
@[simp] theorem outV_undef {e : Nat} {o : Option (List Int)} : (outV e o).isUndef = false := by cases o <;> rfl
def tellV (k a b : Int) (xs : List Int) : Int :=
  if k = 0 then xs.sum else if k = 1 then (if getI xs b < getI xs a then 1 else 0) else if k = 2 then few a xs
  else if k = 3 then (if subS xs a then 1 else 0) else if k = 4 then getI xs a * getI xs b else maxL xs
def tellOk (k a b : Int) (xs : List Int) : Prop :=
  ((k = 1 ∨ k = 4) → 0 ≤ a ∧ a < xs.length ∧ 0 ≤ b ∧ b < xs.length) ∧ (k = 2 → 6 ≤ a ∧ a ≤ 24) ∧ (k = 3 → 1 ≤ a ∧ a ≤ 24)
theorem hid_spec {xs : List Int} (h : hid xs = true) : 2 ≤ xs.length ∧ xs.length ≤ 4 ∧ ∀ x ∈ xs, 1 ≤ x ∧ x ≤ 6 := by
  simp only [hid, inR, Bool.and_eq_true, decide_eq_true_eq, List.all_eq_true] at h
  refine ⟨by omega, by omega, fun x hx => h.2 x hx⟩
theorem hid_room {xs : List Int} {a : Int} (h : hid xs = true) (h1 : 6 ≤ a) (h2 : a ≤ 24) : (inR 1 9 xs.length && xs.all (inR 1 100) && inR (maxL xs) 1000 a) = true := by
  obtain ⟨h3, h4, h5⟩ := hid_spec h
  obtain ⟨a1, a2, a3⟩ := maxL_aux (xs := xs) (a := 0)
  have hm : maxL xs ≤ 6 := by
    rcases a3 with h | h
    · unfold maxL; omega
    · exact (h5 _ h).2
  simp only [inR, Bool.and_eq_true, decide_eq_true_eq, List.all_eq_true]
  exact ⟨⟨by omega, fun x hx => by have := h5 x hx; omega⟩, by omega⟩
theorem natIdx {a : Int} {n : Nat} (h1 : 0 ≤ a) (h2 : a < n) : ∃ i : Nat, i < n ∧ a = i := ⟨a.toNat, by omega, by omega⟩
theorem getI_nat {xs : List Int} {i : Nat} (h : i < xs.length) : getI xs i = xs[i] := by simp [getI, List.getD, h]
theorem clueOk_tell {x : Cl} {xs : List Int} (h : clueOk xs.length x = true) : tellOk x.k x.a x.b xs := by
  unfold clueOk at h
  refine ⟨fun hk => ?_, fun hk => ?_, fun hk => ?_⟩
  · rcases hk with hk | hk
    · rw [if_neg (by omega), if_pos hk] at h
      simp [inR] at h; omega
    · rw [if_neg (by omega), if_neg (by omega), if_neg (by omega), if_neg (by omega), if_pos hk] at h
      simp [inR] at h; omega
  · rw [if_neg (by omega), if_neg (by omega), if_pos hk] at h
    simp [inR] at h; omega
  · rw [if_neg (by omega), if_neg (by omega), if_neg (by omega), if_pos hk] at h
    simp [inR] at h; omega
def fitsC (x : Cl) (xs : List Int) : Bool := tellV x.k x.a x.b xs == x.c
end Go.Den
set_option autoImplicit false
set_option linter.unusedSimpArgs false
set_option linter.unusedVariables false
namespace Go.Den
/-! ### Nests, in plain words -/
def lessL (ns ms : List Int) : Bool := (List.range ns.length).all fun i => decide (ns.getD i 0 < ms.getD i 0)
theorem lessL_true {ns ms : List Int} (h : ∀ j, j < ns.length → ns.getD j 0 < ms.getD j 0) : lessL ns ms = true := by
  simp only [lessL, List.all_eq_true, List.mem_range, decide_eq_true_eq]
  exact h
theorem lessL_false {ns ms : List Int} {i : Nat} (h : i < ns.length) (hn : ¬ ns.getD i 0 < ms.getD i 0) : lessL ns ms = false := by
  simp only [lessL, List.all_eq_false, List.mem_range, decide_eq_true_eq]
  exact ⟨i, h, hn⟩
/-- The sides of a box, in order. -/
def sortB (x : B3) : List Int := [x.a, x.b, x.c].mergeSort fun p q => decide (p ≤ q)
def fitB (x y : B3) : Bool := lessL (sortB x) (sortB y)
theorem sortB_len {x : B3} : (sortB x).length = 3 := by simp [sortB]
def posF (out : List Int) (n : Int) : Nat → Nat
  | 0 => 0
  | k + 1 => if n < out.getD k 0 then posF out n k else k + 1
def insB (out : List Int) (n : Int) : List Int := out.take (posF out n out.length) ++ n :: out.drop (posF out n out.length)
theorem posF_le {out : List Int} {n : Int} : ∀ {k : Nat}, posF out n k ≤ k
  | 0 => Nat.le_refl _
  | k + 1 => by
    unfold posF
    split
    · exact Nat.le_trans posF_le (Nat.le_succ _)
    · exact Nat.le_refl _
theorem insB_len {out : List Int} {n : Int} : (insB out n).length = out.length + 1 := by
  have := posF_le (out := out) (n := n) (k := out.length)
  simp [insB]; omega
theorem insB_sort (x : B3) : insB (insB (insB [] x.a) x.b) x.c = sortB x := by
  obtain ⟨a, b, c⟩ := x
  by_cases h1 : a ≤ b <;> by_cases h2 : b ≤ c <;> by_cases h3 : a ≤ c <;> first | (exfalso; omega) | skip
  all_goals simp [insB, posF, sortB, List.mergeSort, List.MergeSort.Internal.splitInTwo, List.merge, h1, h2, h3, Int.not_lt.2, Int.not_le.1]
def okB (x : B3) : Bool := [x.a, x.b, x.c].all (inR 1 50)
theorem Sl.sliD {α : Type} {e : Nat} {f : α → PV} {v : PV} {xs : List α} (h : Sl e f v xs) {l : Nat} (hl : l ≤ xs.length) : ∃ w, sliV e v (some (I l)) none none = some w ∧ Sl e f w (xs.drop l) := by
  rcases h.1 with rfl | ⟨rfl, rfl⟩
  · refine ⟨.sl e ((xs.drop l).map f), ?_, ⟨.inl rfl, ?_⟩⟩
    · simp [sliV, boundV, hl]
      rw [List.take_of_length_le (by simp)]
    · have := h.2
      simp; omega
  · simp at hl; subst hl
    exact ⟨.nil, by simp [sliV, boundV], ⟨.inr ⟨rfl, by simp⟩, by simp⟩⟩
theorem Sl.sliU {α : Type} {e : Nat} {f : α → PV} {v : PV} {xs : List α} (h : Sl e f v xs) {r : Nat} (hr : r ≤ xs.length) : ∃ w, sliV e v none (some (I r)) none = some w ∧ Sl e f w (xs.take r) := by
  rcases h.1 with rfl | ⟨rfl, rfl⟩
  · refine ⟨.sl e ((xs.take r).map f), ?_, ⟨.inl rfl, ?_⟩⟩
    · simp [sliV, boundV]
      omega
    · have := h.2
      simp; omega
  · simp at hr; subst hr
    exact ⟨.nil, by simp [sliV, boundV], ⟨.inr ⟨rfl, by simp⟩, by simp⟩⟩
theorem fitB_eq {x y : B3} {p q r p' q' r' : Int} (h1 : sortB x = [p, q, r]) (h2 : sortB y = [p', q', r']) : fitB x y = (decide (p < p') && decide (q < q') && decide (r < r')) := by
  simp [fitB, lessL, h1, h2, List.range, List.range.loop, Bool.and_assoc]
theorem sortB_three (x : B3) : ∃ p q r, sortB x = [p, q, r] := by
  have h := sortB_len (x := x)
  match hs : sortB x, h with
  | [p, q, r], _ => exact ⟨p, q, r, rfl⟩
def outAt (x : B3) (j : Nat) : List Int := ([x.a, x.b, x.c].take j).foldl insB []
theorem outAt_len {x : B3} {j : Nat} (h : j ≤ 3) : (outAt x j).length = j := by
  have : j = 0 ∨ j = 1 ∨ j = 2 ∨ j = 3 := by omega
  rcases this with rfl | rfl | rfl | rfl <;> simp [outAt, insB_len]
theorem Sl.full {e : Nat} {v : PV} {xs : List Int} (h : Sl e I v xs) (hx : xs ≠ []) : v = .sl e (xs.map I) := by
  rcases h.1 with h | ⟨_, h⟩
  · exact h
  · exact absurd h hx
theorem posF_succ {out : List Int} {n : Int} {k : Nat} : posF out n (k + 1) = if n < out.getD k 0 then posF out n k else k + 1 := rfl
end Go.Den
namespace Go.Den
def zB : B3 := ⟨0, 0, 0⟩
/-- Boxes that are right. -/
def okBs (bs : List B3) : Bool := inR 1 7 bs.length && bs.all okB
/-- Whether a number may come next in a nesting. -/
def freeN (bs : List B3) (pre : List Int) (i : Nat) (k : Int) : Bool := decide (k < 0) || (fitB (bs.getD i zB) (bs.getD k.toNat zB) && !pre.contains k)
def nestOk (bs : List B3) (plan : List Int) : Bool := decide (plan.length = bs.length) && (List.range plan.length).all fun i => inR (-1) (bs.length - 1) (plan.getD i 0) && freeN bs (plan.take i) i (plan.getD i 0)
theorem nestOk_true {bs : List B3} {plan : List Int} (h : plan.length = bs.length) (hall : ∀ i, i < plan.length → (inR (-1) (bs.length - 1) (plan.getD i 0) && freeN bs (plan.take i) i (plan.getD i 0)) = true) : nestOk bs plan = true := by
  simp only [nestOk, Bool.and_eq_true, decide_eq_true_eq, List.all_eq_true, List.mem_range]
  exact ⟨h, fun i hi => by simpa using hall i hi⟩
theorem nestOk_false {bs : List B3} {plan : List Int} {i : Nat} (hi : i < plan.length) (hn : (inR (-1) (bs.length - 1) (plan.getD i 0) && freeN bs (plan.take i) i (plan.getD i 0)) = false) : nestOk bs plan = false := by
  rw [Bool.eq_false_iff]
  intro h
  simp only [nestOk, Bool.and_eq_true, decide_eq_true_eq, List.all_eq_true, List.mem_range] at h
  have := h.2 i hi
  rw [Bool.and_eq_false_iff] at hn
  rcases hn with hn | hn
  · rw [hn] at this; exact Bool.noConfusion this.1
  · rw [hn] at this; exact Bool.noConfusion this.2
theorem getD_nat {α : Type} {xs : List α} {i : Nat} {z : α} (h : i < xs.length) : xs.getD i z = xs[i] := by simp [List.getD, h]
theorem okBs_spec {bs : List B3} (h : okBs bs = true) : 1 ≤ bs.length ∧ bs.length ≤ 7 ∧ ∀ b ∈ bs, okB b = true := by
  simp only [okBs, inR, Bool.and_eq_true, decide_eq_true_eq, List.all_eq_true] at h
  exact ⟨by omega, by omega, h.2⟩
theorem idx_has {ns : List Int} {k : Int} : decide (0 ≤ idx (fun n => n == k) ns) = ns.contains k := by
  rw [idx_ge, Bool.eq_iff_iff]
  simp [List.any_eq_true]
end Go.Den
set_option autoImplicit false
set_option linter.unusedSimpArgs false
set_option linter.unusedVariables false
namespace Go.Den
/-! ### Puzzles whole, and their solutions -/
/-- A struct of a number and a row. -/
def pP (n : Int) (v : PV) : PV := .agg [I n, v]
@[simp] theorem pP_cells (n : Int) (v : PV) : (pP n v).cells = [I n, v] := rfl
@[simp] theorem pP_undef (n : Int) (v : PV) : (pP n v).isUndef = false := rfl
@[simp] theorem pP_nOk (n : Int) (v : PV) : nOk (some 2) (pP n v) = true := rfl
theorem pP_eq (n : Int) (v : PV) : .agg [I n, v] = pP n v := rfl
def okP (n : Int) (cs : List Cl) : Bool := inR 2 4 n && decide (cs.length ≤ 6) && cs.all (clueOk n)
def fitsAll (cs : List Cl) (xs : List Int) : Bool := cs.all fun c => fitsC c xs
def solsL (cs : List Cl) : Nat → List Int → List (List Int)
  | 0, xs => if fitsAll cs xs then [xs] else []
  | n + 1, xs => (List.range 6).flatMap fun (s : Nat) => solsL cs n (xs ++ [(s : Int) + 1])
theorem solsL_succ (cs : List Cl) (n : Nat) (xs : List Int) : solsL cs (n + 1) xs = (List.range 6).flatMap fun (s : Nat) => solsL cs n (xs ++ [(s : Int) + 1]) := rfl
theorem solsL_len {cs : List Cl} : ∀ {n : Nat} {xs : List Int}, (solsL cs n xs).length ≤ 6 ^ n
  | 0, xs => by unfold solsL; split <;> simp
  | n + 1, xs => by
    rw [solsL_succ]
    have h := fun s : Nat => solsL_len (cs := cs) (n := n) (xs := xs ++ [(s : Int) + 1])
    simp only [List.range, List.range.loop, List.flatMap_cons, List.flatMap_nil, List.length_append, List.length_nil, Nat.pow_succ]
    have h0 := h 0; have h1 := h 1; have h2 := h 2; have h3 := h 3; have h4 := h 4; have h5 := h 5
    omega
theorem solsL_mem {cs : List Cl} : ∀ {n : Nat} {xs ys : List Int}, ys ∈ solsL cs n xs → ys.length = xs.length + n ∧ (∀ y ∈ ys, y ∈ xs ∨ 1 ≤ y ∧ y ≤ 6) ∧ fitsAll cs ys = true
  | 0, xs, ys, h => by
    unfold solsL at h
    split at h
    · simp at h; subst h; rename_i hf; exact ⟨by simp, fun y hy => .inl hy, hf⟩
    · cases h
  | n + 1, xs, ys, h => by
    rw [solsL_succ, List.mem_flatMap] at h
    obtain ⟨s, hs, h⟩ := h
    have hs := List.mem_range.1 hs
    obtain ⟨h1, h2, h3⟩ := solsL_mem h
    refine ⟨by rw [h1]; simp; omega, fun y hy => ?_, h3⟩
    rcases h2 y hy with h | h
    · rw [List.mem_append] at h
      rcases h with h | h
      · exact .inl h
      · simp at h; right; omega
    · exact .inr h
/-- A row of numbers as a value, of its own. -/
def pR (e : Nat) (xs : List Int) : PV := .sl e (xs.map I)
@[simp] theorem pR_undef {e : Nat} {xs : List Int} : (pR e xs).isUndef = false := rfl
@[simp] theorem pR_cells {e : Nat} {xs : List Int} : (pR e xs).cells = [pR e xs] := rfl
@[simp] theorem pR_def1 {e : Nat} {xs : List Int} : (pR e xs).def1 = true := rfl
/-- A list of rows behind a list of rows. -/
def addV (e2 e : Nat) (old : PV) (acc l : List (List Int)) : PV := if l = [] then old else .sl e2 ((acc ++ l).map (pR e))
theorem addV_nil {e2 e : Nat} {old : PV} {acc : List (List Int)} : addV e2 e old acc [] = old := rfl
theorem addV_sl {e2 e : Nat} {old : PV} {acc l : List (List Int)} (h : Sl e2 (pR e) old acc) (hl : acc.length + l.length ≤ 9223372036854775807) : Sl e2 (pR e) (addV e2 e old acc l) (acc ++ l) := by
  unfold addV
  split
  · rename_i h1; subst h1; simpa using h
  · exact ⟨.inl rfl, by simp; omega⟩
theorem addV_add {e2 e : Nat} {old : PV} {acc l m : List (List Int)} : addV e2 e (addV e2 e old acc l) (acc ++ l) m = addV e2 e old acc (l ++ m) := by
  unfold addV
  cases l <;> cases m <;> simp
theorem rowOf_pR {e2 e : Nat} {old : PV} {acc : List (List Int)} (h : Sl e2 (pR e) old acc) : rowOf e2 old = some (acc.map (pR e)) := h.row
/-- One row behind a list of rows. -/
theorem appR_one {e2 e : Nat} {old : PV} {acc : List (List Int)} {xs : List Int} (h : Sl e2 (pR e) old acc) (hl : acc.length ≤ 1048576) : appV e2 24 false old (.sl e2 [pR e xs]) = some (addV e2 e old acc [xs]) := by
  unfold appV
  rw [h.row, rowOf_sl]
  simp only
  rw [if_pos]
  · cases old <;> simp [appRes, addV]
  · refine ⟨by simp; omega, by simp; omega, by simp [pR], by simp⟩
def p6 (n : Int) : Nat := n.toNat
/-- The solutions of a puzzle. -/
def sols (n : Int) (cs : List Cl) : List (List Int) := solsL cs n.toNat []
theorem sols_len {n : Int} {cs : List Cl} (h : n ≤ 4) : (sols n cs).length ≤ 1296 := by
  have h1 : (sols n cs).length ≤ 6 ^ n.toNat := solsL_len
  have h2 : 6 ^ n.toNat ≤ 6 ^ 4 := Nat.pow_le_pow_right (by omega) (by omega)
  omega
end Go.Den
namespace Go.Den
theorem set_same {H : Boxes} {r : Nat} {b : CK × List PV} (h : H[r]? = some b) : H.set r b = H := by
  apply List.ext_getElem?
  intro i
  by_cases hi : r = i
  · subst hi; rw [h, List.getElem?_set_self (H_lt h)]
  · rw [List.getElem?_set_ne hi]
theorem unbox_own {H : Boxes} {r : Nat} {ck : CK} {old : PV} (h : H[r]? = some (ck, [old])) : unbox H (.ref r 0) 0 = H.set r (ck, [.undef]) := by
  simp [unbox, h, undefs]
theorem addV_one {e2 e : Nat} {old : PV} {acc : List (List Int)} {xs : List Int} : addV e2 e old acc [xs] = .sl e2 ((acc ++ [xs]).map (pR e)) := by simp [addV]
def boxC (x : Cl) : CK × List PV := (CK.own, [I x.k, I x.a, I x.b, I x.c])
/-- The clues looked at before one fails. -/
def seenL (cs : List Cl) (xs : List Int) : List (CK × List PV) := (cs.take (cs.findIdx (fun c => !fitsC c xs) + 1)).map boxC
theorem seenL_at {cs : List Cl} {xs : List Int} {i : Nat} (h : Before (fun c => !fitsC c xs) cs i) (hi : i < cs.length) (hp : fitsC cs[i] xs = false) : seenL cs xs = (cs.map boxC).take i ++ [boxC cs[i]] := by
  have e : cs.findIdx (fun c => !fitsC c xs) = i := (List.findIdx_eq hi).2 ⟨by simp [hp], fun j hj => by simpa using h j (by omega) hj⟩
  unfold seenL
  rw [e, List.take_succ_eq_append_getElem hi, List.map_append, List.map_take]; rfl
theorem seenL_all {cs : List Cl} {xs : List Int} (h : fitsAll cs xs = true) : seenL cs xs = cs.map boxC := by
  unfold seenL
  have e : cs.findIdx (fun c => !fitsC c xs) = cs.length := by
    rw [List.findIdx_eq_length]
    intro c hc
    have := List.all_eq_true.1 h c hc
    simp [this]
  rw [e, List.take_of_length_le (by omega)]
/-- Solutions that begin so, with the next number at most s. -/
def solsP (cs : List Cl) (n : Nat) (xs : List Int) (s : Nat) : List (List Int) := (List.range s).flatMap fun (k : Nat) => solsL cs n (xs ++ [(k : Int) + 1])
theorem solsP_succ {cs : List Cl} {n : Nat} {xs : List Int} {s : Nat} : solsP cs n xs (s + 1) = solsP cs n xs s ++ solsL cs n (xs ++ [(s : Int) + 1]) := by
  simp [solsP, List.range_succ]
theorem solsP_len {cs : List Cl} {n : Nat} {xs : List Int} : ∀ {s : Nat}, (solsP cs n xs s).length ≤ s * 6 ^ n
  | 0 => by simp [solsP]
  | s + 1 => by
    rw [solsP_succ, List.length_append, Nat.add_mul]
    have h1 := solsP_len (cs := cs) (n := n) (xs := xs) (s := s)
    have h2 := solsL_len (cs := cs) (n := n) (xs := xs ++ [(s : Int) + 1])
    omega
theorem hid_mk {xs : List Int} (h1 : 2 ≤ xs.length) (h2 : xs.length ≤ 4) (h3 : ∀ x ∈ xs, 1 ≤ x ∧ x ≤ 6) : hid xs = true := by
  simp only [hid, inR, Bool.and_eq_true, decide_eq_true_eq, List.all_eq_true]
  exact ⟨by omega, fun x hx => h3 x hx⟩
theorem Sl.pR {e : Nat} {v : PV} {xs : List Int} (h : Sl e I v xs) (hx : xs ≠ []) : v = Den.pR e xs := by
  rcases h.1 with h | ⟨_, h⟩
  · exact h
  · exact absurd h hx
theorem okP_spec {n : Int} {cs : List Cl} (h : okP n cs = true) : 2 ≤ n ∧ n ≤ 4 ∧ cs.length ≤ 6 ∧ ∀ c ∈ cs, clueOk n c = true := by
  simp only [okP, inR, Bool.and_eq_true, decide_eq_true_eq, List.all_eq_true] at h
  exact ⟨h.1.1.1, h.1.1.2, h.1.2, h.2⟩
end Go.Den
set_option autoImplicit false
set_option linter.unusedSimpArgs false
set_option linter.unusedVariables false
namespace Go.Den
theorem Sl.sli {α : Type} {e : Nat} {f : α → PV} {v : PV} {xs : List α} (h : Sl e f v xs) {l r : Nat} (hl : l ≤ r) (hr : r ≤ xs.length) : ∃ w, sliV e v (some (I l)) (some (I r)) none = some w ∧ Sl e f w ((xs.take r).drop l) := by
  rcases h.1 with rfl | ⟨rfl, rfl⟩
  · refine ⟨.sl e (((xs.take r).drop l).map f), ?_, ⟨.inl rfl, ?_⟩⟩
    · simp [sliV, boundV]
      omega
    · have := h.2
      simp; omega
  · simp at hr; subst hr
    obtain rfl : l = 0 := by omega
    exact ⟨.nil, by simp [sliV, boundV], ⟨.inr ⟨rfl, by simp⟩, by simp⟩⟩
theorem Sl.sli0 {α : Type} {e : Nat} {f : α → PV} {v : PV} {xs : List α} (h : Sl e f v xs) {r : Nat} (hr : r ≤ xs.length) : ∃ w, sliV e v none (some (I r)) none = some w ∧ Sl e f w (xs.take r) := by
  rcases h.1 with rfl | ⟨rfl, rfl⟩
  · refine ⟨.sl e ((xs.take r).map f), ?_, ⟨.inl rfl, ?_⟩⟩
    · simp [sliV, boundV]
      omega
    · have := h.2
      simp; omega
  · simp at hr; subst hr
    exact ⟨.nil, by simp [sliV, boundV], ⟨.inr ⟨rfl, by simp⟩, by simp⟩⟩
theorem drop_one {α : Type} {xs : List α} {i : Nat} (h : i < xs.length) : (xs.take (i + 1)).drop i = [xs[i]] := by
  rw [List.take_succ_eq_append_getElem h, List.drop_append_of_le_length (by simp; omega)]
  simp
/-- The best of the first ones, and how many fit it. -/
def bestF (f : Nat → Nat) : Nat → Nat × Nat
  | 0 => (0, 0)
  | i + 1 => if i = 0 ∨ f i < (bestF f i).2 then (i, f i) else bestF f i
/-- How many solutions the clue number i has alone. -/
def alone (n : Int) (cs : List Cl) (i : Nat) : Nat := (sols n ((cs.take (i + 1)).drop i)).length
/-- How many solutions the first clues have. -/
def leftL (n : Int) (cs : List Cl) (k : Nat) : List Int := (List.range k).map fun (i : Nat) => ((sols n (cs.take i)).length : Int)
theorem leftL_succ {n : Int} {cs : List Cl} {k : Nat} : leftL n cs (k + 1) = leftL n cs k ++ [((sols n (cs.take k)).length : Int)] := by simp [leftL, List.range_succ]
end Go.Den
namespace Go.Den
/-! ### Marks -/
/-- Numbers one after the other. -/
def markL (k : Int) (n : Nat) : List Int := (List.range n).map fun (i : Nat) => k + i
@[simp] theorem markL_len {k : Int} {n : Nat} : (markL k n).length = n := by simp [markL]
theorem markL_succ {k : Int} {n : Nat} : markL k (n + 1) = markL k n ++ [k + n] := by simp [markL, List.range_succ]
theorem markL_get {k : Int} {n i : Nat} (h : i < n) (h' : i < (markL k n).length) : (markL k n)[i] = k + i := by simp [markL]
/-- A list half marked. -/
def halfL {α : Type} (m : Nat → α) (xs : List α) (i : Nat) : List α := (List.range i).map m ++ xs.drop i
section
variable {α : Type} {m : Nat → α} {xs : List α} {i : Nat}
theorem half_zero : halfL m xs 0 = xs := by simp [halfL]
theorem half_len (h : i ≤ xs.length) : (halfL m xs i).length = xs.length := by simp [halfL]; omega
theorem half_all (h : xs.length ≤ i) : halfL m xs i = (List.range i).map m := by simp [halfL, List.drop_eq_nil_of_le h]
theorem half_get (h : i < xs.length) (h' : i < (halfL m xs i).length) : (halfL m xs i)[i] = xs[i] := by
  simp only [halfL]
  rw [List.getElem_append_right (by simp)]
  simp
theorem half_set (h : i < xs.length) : (halfL m xs i).set i (m i) = halfL m xs (i + 1) := by
  simp only [halfL]
  have e : (xs.drop i).set 0 (m i) = m i :: xs.drop (i + 1) := by rw [List.drop_eq_getElem_cons h]; rfl
  rw [List.set_append_right _ _ (by simp), List.range_succ, List.map_append, List.append_assoc]
  simp [e]
end
theorem Sl.sl_of {α : Type} {e : Nat} {f : α → PV} {v : PV} {xs : List α} (h : Sl e f v xs) (hx : xs ≠ []) : v = .sl e (xs.map f) := by
  rcases h.1 with h | ⟨_, h⟩
  · exact h
  · exact absurd h hx
/-- What a marked slice is: nil stays nil. -/
def markV {α : Type} (e : Nat) (f : α → PV) (m : Nat → α) (v : PV) (xs : List α) : PV := if xs = [] then v else .sl e (((List.range xs.length).map m).map f)
theorem markV_sl {α : Type} {e : Nat} {f : α → PV} {m : Nat → α} {v : PV} {xs : List α} (h : Sl e f v xs) : Sl e f (markV e f m v xs) ((List.range xs.length).map m) := by
  unfold markV
  split
  · rename_i h1; subst h1; simpa using h
  · exact ⟨.inl rfl, by simpa using h.2⟩
def markI (k : Int) (i : Nat) : Int := k + i
theorem markL_eq {k : Int} {n : Nat} : (List.range n).map (markI k) = markL k n := rfl
def markC (k : Int) (i : Nat) : Cl := ⟨k + 4 * i, k + 4 * i + 1, k + 4 * i + 2, k + 4 * i + 3⟩
theorem markV_of {α : Type} {e : Nat} {f : α → PV} {m : Nat → α} {v w : PV} {xs : List α} (hw : Sl e f w (halfL m xs xs.length)) (h0 : xs.length = 0 → w = v) : w = markV e f m v xs := by
  unfold markV
  split
  · rename_i h; exact h0 (by rw [h]; rfl)
  · rename_i h
    have hl := half_len (m := m) (Nat.le_refl xs.length)
    have hp := List.length_pos_iff.2 h
    rw [hw.sl_of (by rintro h2; rw [h2] at hl; simp at hl; omega), half_all (Nat.le_refl _)]
theorem pC_mark {k : Int} {i : Nat} : pC (markC k i) = .agg [I (k + 4 * i), I (k + 4 * i + 1), I (k + 4 * i + 1 + 1), I (k + 4 * i + 1 + 1 + 1)] := by
  simp [pC, markC]
  omega
theorem Sl.noAgg {α : Type} {e : Nat} {f : α → PV} {v : PV} {xs : List α} (h : Sl e f v xs) : v.noAgg = true := by
  rcases h.1 with rfl | ⟨rfl, rfl⟩ <;> rfl
theorem markL_ok {k : Int} {n : Nat} {ns : List Int} (h : ns.length = n) (he : ns = markL k n) : (if ns = markL k ns.length then k + (ns.length : Int) else -1) = k + n := by
  rw [if_pos (by rw [h]; exact he), h]
theorem sols_mem {n : Int} {cs : List Cl} {ys : List Int} (h : ys ∈ sols n cs) : ys.length = n.toNat := by
  have := (solsL_mem h).1
  simpa using this
theorem first_sl {e : Nat} {n : Int} {cs : List Cl} : ∃ ns, Sl e I (if okP n cs then firstV e (sols n cs) else .nil) ns ∧ ns.length ≤ 4 := by
  split
  · rename_i h
    obtain ⟨h1, h2, _⟩ := okP_spec h
    cases hl : sols n cs with
    | nil => exact ⟨[], ⟨.inr ⟨rfl, rfl⟩, by simp⟩, by simp⟩
    | cons x l =>
      have := sols_mem (n := n) (cs := cs) (ys := x) (by rw [hl]; simp)
      exact ⟨x, ⟨.inl rfl, by omega⟩, by omega⟩
  · exact ⟨[], ⟨.inr ⟨rfl, rfl⟩, by simp⟩, by simp⟩
end Go.Den
set_option autoImplicit false
set_option linter.unusedSimpArgs false
set_option linter.unusedVariables false
namespace Go.Den
/-- The marks of the row number i, when all rows have d numbers. -/
def mrow (k : Int) (d : Nat) (i : Nat) : List Int := markL (k + ((d * i : Nat) : Int)) d
@[simp] theorem mrow_len {k : Int} {d i : Nat} : (mrow k d i).length = d := by simp [mrow]
theorem mul_bound {d i m : Nat} (hd : d ≤ 1048576) (hi : i ≤ m) (hm : m ≤ 1048576) : d * i ≤ 1099511627776 := by
  have := Nat.mul_le_mul hd (Nat.le_trans hi hm)
  omega
theorem reCell_pR {e : Nat} {x : List Int} {v : PV} : reCell (pR e x) 0 v = v := rfl
theorem reOk_pR {e : Nat} {x y : List Int} : reOk (pR e x) (pR e y) = true := rfl
theorem markV_pR {e : Nat} {k : Int} {x : List Int} : markV e I (markI k) (pR e x) x = pR e (markL k x.length) := by
  unfold markV
  split
  · rename_i h; subst h; rfl
  · rfl
theorem pR_noAgg {e : Nat} {x : List Int} : (pR e x).noAgg = true := rfl
theorem pR_Sl {e : Nat} {x : List Int} (h : x.length ≤ 9223372036854775807) : Sl e I (pR e x) x := ⟨.inl rfl, h⟩
/-! ### Sure sizes -/
def so (f : List Int) (R : List (List Int)) (i : Nat) : Int := if R.all (fun x => x.getD i 0 == f.getD i 0) then f.getD i 0 else -1
def sureL (f : List Int) (R : List (List Int)) : List Int := (List.range f.length).map (so f R)
@[simp] theorem sureL_len {f : List Int} {R : List (List Int)} : (sureL f R).length = f.length := by simp [sureL]
theorem sureL_zero {f : List Int} : sureL f [] = f := by
  apply List.ext_getElem (by simp)
  intro i h1 h2
  simp [sureL, so, List.getD, h2]
theorem sureL_get {f : List Int} {R : List (List Int)} {i : Nat} (h : i < f.length) (h' : i < (sureL f R).length) : (sureL f R)[i] = so f R i := by simp [sureL]
theorem so_impl {f : List Int} {R : List (List Int)} {x : List Int} {i : Nat} (h : i < f.length) (hx : i < x.length) : so f (R ++ [x]) i = if x[i] = f[i] then so f R i else -1 := by
  unfold so
  have e1 : x.getD i 0 = x[i] := by simp [List.getD, hx]
  have e2 : f.getD i 0 = f[i] := by simp [List.getD, h]
  simp only [List.all_append, List.all_cons, List.all_nil, e1, e2, Bool.and_true]
  by_cases hq : x[i] = f[i]
  · simp [hq]
  · simp [hq]
theorem so_spec {f : List Int} {R : List (List Int)} {x : List Int} {i : Nat} (h : i < f.length) (hx : i < x.length) (hp : x[i] ≠ -1) : so f (R ++ [x]) i = if x[i] = so f R i then so f R i else -1 := by
  rw [so_impl h hx]
  unfold so
  have e2 : f.getD i 0 = f[i] := by simp [List.getD, h]
  split <;> split <;> simp_all
def sureV (e : Nat) (l : List (List Int)) : PV := match l with
  | [] => .nil
  | f :: R => pR e (sureL f (f :: R))
theorem sure_sl {e : Nat} {n : Int} {cs : List Cl} : ∃ ns, Sl e I (if okP n cs then sureV e (sols n cs) else .nil) ns ∧ ns.length ≤ 4 := by
  split
  · rename_i h
    obtain ⟨h1, h2, _⟩ := okP_spec h
    cases hl : sols n cs with
    | nil => exact ⟨[], ⟨.inr ⟨rfl, rfl⟩, by simp⟩, by simp⟩
    | cons x l =>
      have := sols_mem (n := n) (cs := cs) (ys := x) (by rw [hl]; simp)
      exact ⟨sureL x (x :: l), ⟨.inl rfl, by simp; omega⟩, by simp; omega⟩
  · exact ⟨[], ⟨.inr ⟨rfl, rfl⟩, by simp⟩, by simp⟩
theorem sols_pos {n : Int} {cs : List Cl} {ys : List Int} (h : ys ∈ sols n cs) : ∀ y ∈ ys, 1 ≤ y ∧ y ≤ 6 := fun y hy => by
  rcases (solsL_mem h).2.1 y hy with h | h
  · cases h
  · exact h
end Go.Den
set_option autoImplicit false
set_option linter.unusedSimpArgs false
set_option linter.unusedVariables false
namespace Go.Den
/-- A row of numbers that began as nil. -/
def rowI (e : Nat) (l : List Int) : PV := if l = [] then .nil else .sl e (l.map I)
theorem rowI_sl {e : Nat} {l : List Int} (h : l.length ≤ 9223372036854775807) : Sl e I (rowI e l) l := by
  unfold rowI
  split
  · rename_i h1; subst h1; exact ⟨.inr ⟨rfl, rfl⟩, by simp⟩
  · exact ⟨.inl rfl, h⟩
theorem rowI_app {e : Nat} {l : List Int} {x : Int} (h : l.length ≤ 1048576) : appV e 8 true (rowI e l) (.sl e [I x]) = some (rowI e (l ++ [x])) := by
  have := (rowI_sl (e := e) (l := l) (by omega)).app1 (⟨.inl rfl, by simp⟩ : Sl e I (.sl e [I x]) [x]) (by simp) (by simp; omega)
  rw [this]
  simp [rowI]
/-- The outer ones among the first k. -/
def outerL (plan : List Int) (k : Nat) : List Int := ((List.range k).filter fun i => decide (plan.getD i 0 < 0)).map fun (i : Nat) => (i : Int)
theorem outerL_zero {plan : List Int} : outerL plan 0 = [] := rfl
theorem outerL_succ {plan : List Int} {k : Nat} : outerL plan (k + 1) = if plan.getD k 0 < 0 then outerL plan k ++ [(k : Int)] else outerL plan k := by
  unfold outerL
  rw [List.range_succ, List.filter_append]
  split <;> rename_i h
  · have h' : plan[k]?.getD 0 < 0 := by simpa [List.getD] using h
    simp [List.filter_cons, h']
  · have h' : ¬ plan[k]?.getD 0 < 0 := by simpa [List.getD] using h
    simp [List.filter_cons, h']
theorem outerL_len {plan : List Int} : ∀ {k : Nat}, (outerL plan k).length ≤ k
  | 0 => by simp [outerL]
  | k + 1 => by
    rw [outerL_succ]
    have := outerL_len (plan := plan) (k := k)
    split <;> simp <;> omega
def markB (k : Int) (i : Nat) : B3 := ⟨k + 3 * i, k + 3 * i + 1, k + 3 * i + 2⟩
theorem pB_mark {k : Int} {i : Nat} : pB (markB k i) = .agg [I (k + 3 * i), I (k + 3 * i + 1), I (k + 3 * i + 1 + 1)] := by
  simp [pB, markB]
  omega
theorem nestOk_len {bs : List B3} {plan : List Int} (h : nestOk bs plan = true) : plan.length = bs.length := by
  simp only [nestOk, Bool.and_eq_true, decide_eq_true_eq] at h
  exact h.1
theorem idx_nat {ns : List Int} {k : Int} (h : ns.contains k = true) : ∃ j : Nat, j < ns.length ∧ idx (fun n => n == k) ns = j := by
  have h1 := idx_has (ns := ns) (k := k)
  rw [h, decide_eq_true_iff] at h1
  unfold idx at h1 ⊢
  cases hf : ns.findIdx? (fun n => n == k) with
  | none => rw [hf] at h1; simp at h1
  | some i => exact ⟨i, (List.findIdx?_eq_some_iff_getElem.1 hf).1, rfl⟩
/-- A nesting of right boxes. -/
def okN (xs : List B3) (plan : List Int) : Bool := okBs xs && nestOk xs plan
theorem okN_spec {xs : List B3} {plan : List Int} (h : okN xs plan = true) : 1 ≤ xs.length ∧ xs.length ≤ 7 ∧ (∀ b ∈ xs, okB b = true) ∧ nestOk xs plan = true := by
  unfold okN at h
  rw [Bool.and_eq_true] at h
  obtain ⟨h1, h2, h3⟩ := okBs_spec h.1
  exact ⟨h1, h2, h3, h.2⟩
/-- Whether a box can be taken out. -/
def takeN (xs : List B3) (plan : List Int) (k : Int) : Bool := okN xs plan && inR 0 (xs.length - 1) k && plan.contains k
theorem takeN_no1 {xs : List B3} {plan : List Int} {k : Int} (h : okN xs plan = false) : takeN xs plan k = false := by simp [takeN, h]
theorem takeN_no2 {xs : List B3} {plan : List Int} {k : Int} (h : inR 0 (xs.length - 1) k = false) : takeN xs plan k = false := by simp [takeN, h]
theorem takeN_no3 {xs : List B3} {plan : List Int} {k : Int} (h : plan.contains k = false) : takeN xs plan k = false := by rw [takeN, h, Bool.and_false]
theorem takeN_yes {xs : List B3} {plan : List Int} {k : Int} (h : okN xs plan = true) (h2 : inR 0 (xs.length - 1) k = true) (h3 : plan.contains k = true) : takeN xs plan k = true := by rw [takeN, h, h2, h3]; rfl
end Go.Den
